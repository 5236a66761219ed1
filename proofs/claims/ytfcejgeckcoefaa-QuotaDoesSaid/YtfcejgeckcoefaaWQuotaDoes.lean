/- The walk of the law QuotaDoes: it returns true and turns nothing that was there. No condition. Printed by gen_quolaws.py. -/
import Derived.Test.YtfcejgeckcoefaaQuoG
import Derived.BigQuiet
import Derived.Deep.CutRange
namespace Go.Proofs.Ytfcejgeckcoefaa
open Go.RowKit Go.Suf
set_option linter.unusedVariables false
set_option linter.unusedSimpArgs false

set_option maxRecDepth 100000 in
set_option maxHeartbeats 8000000 in
theorem quotaDoes_walk (w : World) (a : Int) (h_a1 : -9223372036854775808 ≤ a) (h_a2 : a ≤ 9223372036854775807) (b : Int) (h_b1 : -9223372036854775808 ≤ b) (h_b2 : b ≤ 9223372036854775807) (c : Int) (h_c1 : -9223372036854775808 ≤ c) (h_c2 : c ≤ 9223372036854775807) {g_x : Bool} {a_x b_x : Option Addr} {n_x c_x m_x d_x : Nat} {xn xd : List Nat} (h_xn : Rd .u32 w a_x n_x c_x xn) (h_xd : Rd .u32 w b_x m_x d_x xd) :
    Calls Try.prog 4 #[.int .i64 a, .int .i64 b, .int .i64 c, ratV g_x a_x n_x c_x b_x m_x d_x] w fun e w' => e = .returned (.bool true) ∧ Below w.heap.size w w' := by
  have i_a : i64 a := ⟨h_a1, h_a2⟩
  have i_b : i64 b := ⟨h_b1, h_b2⟩
  have i_c : i64 c := ⟨h_c1, h_c2⟩
  have l_a : a < 9223372036854775808 := by omega
  have l_b : b < 9223372036854775808 := by omega
  have l_c : c < 9223372036854775808 := by omega
  have B0 : Below w.heap.size w w := Below.refl _ _
  have h_xn_0 := h_xn
  have h_xd_0 := h_xd
  by_cases e1 : 200 < n_x
  case pos =>
    have d1 : decide ((200 : Int) < (n_x : Int)) = true := decide_eq_true (by omega)
    clear e1
    go_enter Try.func4, Try.ntmps4
    have hb := below_al w (.cells #[.bool g_x, .slice a_x n_x c_x, .slice b_x m_x d_x] 27)
    have B1 := B0.trans (hb.mono B0.size)
    have h_xn_1 := h_xn_0.below hb
    have h_xd_1 := h_xd_0.below hb
    clear hb B0 h_xn_0 h_xd_0
    have h_x_1 := Has.new w #[.bool g_x, .slice a_x n_x c_x, .slice b_x m_x d_x] 27
    have k_x_0 := h_x_1.cell 0 _ rfl
    have k_x_1 := h_x_1.cell 1 _ rfl
    have k_x_2 := h_x_1.cell 2 _ rfl
    go_wp2_with fail
    clear k_x_0 k_x_1 k_x_2
    generalize (w.alloc (.cells #[.bool g_x, .slice a_x n_x c_x, .slice b_x m_x d_x] 27)) = w1 at *
    have c := wakes_any w1
    refine c.mono ?_
    rintro e w2 ⟨rfl, hb⟩
    clear c
    have B2 := B1.trans (hb.mono B1.size)
    have h_xn_2 := h_xn_1.below hb
    have h_xd_2 := h_xd_1.below hb
    have h_x_2 := h_x_1.later hb
    clear hb B1 h_xn_1 h_xd_1 h_x_1
    go_wp2_with fail
    go_ret
    exact ⟨rfl, B2⟩
  have d1 : decide ((200 : Int) < (n_x : Int)) = false := decide_eq_false (by omega)
  clear e1
  by_cases e2 : 200 < m_x
  case pos =>
    have d2 : decide ((200 : Int) < (m_x : Int)) = true := decide_eq_true (by omega)
    clear e2
    go_enter Try.func4, Try.ntmps4
    have hb := below_al w (.cells #[.bool g_x, .slice a_x n_x c_x, .slice b_x m_x d_x] 27)
    have B1 := B0.trans (hb.mono B0.size)
    have h_xn_1 := h_xn_0.below hb
    have h_xd_1 := h_xd_0.below hb
    clear hb B0 h_xn_0 h_xd_0
    have h_x_1 := Has.new w #[.bool g_x, .slice a_x n_x c_x, .slice b_x m_x d_x] 27
    have k_x_0 := h_x_1.cell 0 _ rfl
    have k_x_1 := h_x_1.cell 1 _ rfl
    have k_x_2 := h_x_1.cell 2 _ rfl
    go_wp2_with fail
    clear k_x_0 k_x_1 k_x_2
    generalize (w.alloc (.cells #[.bool g_x, .slice a_x n_x c_x, .slice b_x m_x d_x] 27)) = w1 at *
    have c := wakes_any w1
    refine c.mono ?_
    rintro e w2 ⟨rfl, hb⟩
    clear c
    have B2 := B1.trans (hb.mono B1.size)
    have h_xn_2 := h_xn_1.below hb
    have h_xd_2 := h_xd_1.below hb
    have h_x_2 := h_x_1.later hb
    clear hb B1 h_xn_1 h_xd_1 h_x_1
    go_wp2_with fail
    go_ret
    exact ⟨rfl, B2⟩
  have d2 : decide ((200 : Int) < (m_x : Int)) = false := decide_eq_false (by omega)
  clear e2
  go_enter Try.func4, Try.ntmps4
  have hb := below_al w (.cells #[.bool g_x, .slice a_x n_x c_x, .slice b_x m_x d_x] 27)
  have B1 := B0.trans (hb.mono B0.size)
  have h_xn_1 := h_xn_0.below hb
  have h_xd_1 := h_xd_0.below hb
  clear hb B0 h_xn_0 h_xd_0
  have h_x_1 := Has.new w #[.bool g_x, .slice a_x n_x c_x, .slice b_x m_x d_x] 27
  have k_x_0 := h_x_1.cell 0 _ rfl
  have k_x_1 := h_x_1.cell 1 _ rfl
  have k_x_2 := h_x_1.cell 2 _ rfl
  go_wp2_with fail
  clear k_x_0 k_x_1 k_x_2
  generalize (w.alloc (.cells #[.bool g_x, .slice a_x n_x c_x, .slice b_x m_x d_x] 27)) = w1 at *
  have c := down_any w1 a b i_a i_b
  refine c.mono ?_
  rintro e w2 ⟨rfl, hb⟩
  clear c
  have B2 := B1.trans (hb.mono B1.size)
  have h_xn_2 := h_xn_1.below hb
  have h_xd_2 := h_xd_1.below hb
  have h_x_2 := h_x_1.later hb
  clear hb B1 h_xn_1 h_xd_1 h_x_1
  go_wp2_with fail
  have c := refDown_any w2 a b
  refine c.mono ?_
  rintro e w3 ⟨rfl, hb⟩
  clear c
  have B3 := B2.trans (hb.mono B2.size)
  have h_xn_3 := h_xn_2.below hb
  have h_xd_3 := h_xd_2.below hb
  have h_x_3 := h_x_2.later hb
  clear hb B2 h_xn_2 h_xd_2 h_x_2
  go_wp2_with fail
  have c := up_any w3 a b i_a i_b
  refine c.mono ?_
  rintro e w4 ⟨rfl, hb⟩
  clear c
  have B4 := B3.trans (hb.mono B3.size)
  have h_xn_4 := h_xn_3.below hb
  have h_xd_4 := h_xd_3.below hb
  have h_x_4 := h_x_3.later hb
  clear hb B3 h_xn_3 h_xd_3 h_x_3
  go_wp2_with fail
  have c := refUp_any w4 a b
  refine c.mono ?_
  rintro e w5 ⟨rfl, hb⟩
  clear c
  have B5 := B4.trans (hb.mono B4.size)
  have h_xn_5 := h_xn_4.below hb
  have h_xd_5 := h_xd_4.below hb
  have h_x_5 := h_x_4.later hb
  clear hb B4 h_xn_4 h_xd_4 h_x_4
  go_wp2_with fail
  have c := share_any w5 a b c i_a i_b i_c
  refine c.mono ?_
  rintro e w6 ⟨rfl, hb⟩
  clear c
  have B6 := B5.trans (hb.mono B5.size)
  have h_xn_6 := h_xn_5.below hb
  have h_xd_6 := h_xd_5.below hb
  have h_x_6 := h_x_5.later hb
  clear hb B5 h_xn_5 h_xd_5 h_x_5
  go_wp2_with fail
  have c := refShare_any w6 a b c
  refine c.mono ?_
  rintro e w7 ⟨rfl, hb⟩
  clear c
  have B7 := B6.trans (hb.mono B6.size)
  have h_xn_7 := h_xn_6.below hb
  have h_xd_7 := h_xd_6.below hb
  have h_x_7 := h_x_6.later hb
  clear hb B6 h_xn_6 h_xd_6 h_x_6
  go_wp2_with fail
  have c := qratio_any w7 a i_a
  refine c.mono ?_
  rintro e w8 ⟨a_r, n_r, c_r, b_r, m_r, d_r, rfl, h_rn_8, h_rd_8, hb⟩
  clear c
  have B8 := B7.trans (hb.mono B7.size)
  have h_xn_8 := h_xn_7.below hb
  have h_xd_8 := h_xd_7.below hb
  have h_x_8 := h_x_7.later hb
  clear hb B7 h_xn_7 h_xd_7 h_x_7
  have hb := below_al w8 (.cells #[.bool ((ratQ a).1).neg, .slice a_r n_r c_r, .slice b_r m_r d_r] 27)
  have B9 := B8.trans (hb.mono B8.size)
  have h_xn_9 := h_xn_8.below hb
  have h_xd_9 := h_xd_8.below hb
  have h_x_9 := h_x_8.later hb
  have h_rn_9 := h_rn_8.below hb
  have h_rd_9 := h_rd_8.below hb
  clear hb B8 h_xn_8 h_xd_8 h_x_8 h_rn_8 h_rd_8
  have h_r_9 := Has.new w8 #[.bool ((ratQ a).1).neg, .slice a_r n_r c_r, .slice b_r m_r d_r] 27
  go_wp2_with first | refine wpList_store_new rfl 27 _ _ rfl atRat _ _ _ rfl rfl rfl rfl (rat_one _ _ _ _ _ _ _) ?_
  generalize (w8.alloc (.cells #[.bool ((ratQ a).1).neg, .slice a_r n_r c_r, .slice b_r m_r d_r] 27)) = w9 at *
  have c := refQratio_any w9 a i_a
  refine c.mono ?_
  rintro e w10 ⟨a_q, n_q, c_q, b_q, m_q, d_q, rfl, h_qn_10, h_qd_10, hb⟩
  clear c
  have B10 := B9.trans (hb.mono B9.size)
  have h_xn_10 := h_xn_9.below hb
  have h_xd_10 := h_xd_9.below hb
  have h_x_10 := h_x_9.later hb
  have h_rn_10 := h_rn_9.below hb
  have h_rd_10 := h_rd_9.below hb
  have h_r_10 := h_r_9.later hb
  clear hb B9 h_xn_9 h_xd_9 h_x_9 h_rn_9 h_rd_9 h_r_9
  have hb := below_al w10 (.cells #[.bool ((ratQ a).1).neg, .slice a_q n_q c_q, .slice b_q m_q d_q] 27)
  have B11 := B10.trans (hb.mono B10.size)
  have h_xn_11 := h_xn_10.below hb
  have h_xd_11 := h_xd_10.below hb
  have h_x_11 := h_x_10.later hb
  have h_rn_11 := h_rn_10.below hb
  have h_rd_11 := h_rd_10.below hb
  have h_r_11 := h_r_10.later hb
  have h_qn_11 := h_qn_10.below hb
  have h_qd_11 := h_qd_10.below hb
  clear hb B10 h_xn_10 h_xd_10 h_x_10 h_rn_10 h_rd_10 h_r_10 h_qn_10 h_qd_10
  have h_q_11 := Has.new w10 #[.bool ((ratQ a).1).neg, .slice a_q n_q c_q, .slice b_q m_q d_q] 27
  have k_x_0 := h_x_11.cell 0 _ rfl
  have k_x_1 := h_x_11.cell 1 _ rfl
  have k_x_2 := h_x_11.cell 2 _ rfl
  go_wp2_with first | refine wpList_store_new rfl 27 _ _ rfl atRat _ _ _ rfl rfl rfl rfl (rat_one _ _ _ _ _ _ _) ?_
  clear k_x_0 k_x_1 k_x_2
  generalize (w10.alloc (.cells #[.bool ((ratQ a).1).neg, .slice a_q n_q c_q, .slice b_q m_q d_q] 27)) = w11 at *
  have c := bill_any w11 (g := g_x) h_xn_11 h_xd_11
  refine c.mono ?_
  rintro e w12 ⟨rfl, hb⟩
  clear c
  have B12 := B11.trans (hb.mono B11.size)
  have h_xn_12 := h_xn_11.below hb
  have h_xd_12 := h_xd_11.below hb
  have h_x_12 := h_x_11.later hb
  have h_rn_12 := h_rn_11.below hb
  have h_rd_12 := h_rd_11.below hb
  have h_r_12 := h_r_11.later hb
  have h_qn_12 := h_qn_11.below hb
  have h_qd_12 := h_qd_11.below hb
  have h_q_12 := h_q_11.later hb
  clear hb B11 h_xn_11 h_xd_11 h_x_11 h_rn_11 h_rd_11 h_r_11 h_qn_11 h_qd_11 h_q_11
  have k_x_0 := h_x_12.cell 0 _ rfl
  have k_x_1 := h_x_12.cell 1 _ rfl
  have k_x_2 := h_x_12.cell 2 _ rfl
  go_wp2_with fail
  clear k_x_0 k_x_1 k_x_2
  have c := refBill_any w12 (g := g_x) h_xn_12 h_xd_12
  refine c.mono ?_
  rintro e w13 ⟨rfl, hb⟩
  clear c
  have B13 := B12.trans (hb.mono B12.size)
  have h_xn_13 := h_xn_12.below hb
  have h_xd_13 := h_xd_12.below hb
  have h_x_13 := h_x_12.later hb
  have h_rn_13 := h_rn_12.below hb
  have h_rd_13 := h_rd_12.below hb
  have h_r_13 := h_r_12.later hb
  have h_qn_13 := h_qn_12.below hb
  have h_qd_13 := h_qd_12.below hb
  have h_q_13 := h_q_12.later hb
  clear hb B12 h_xn_12 h_xd_12 h_x_12 h_rn_12 h_rd_12 h_r_12 h_qn_12 h_qd_12 h_q_12
  have k_r_0 := h_r_13.cell 0 _ rfl
  have k_r_1 := h_r_13.cell 1 _ rfl
  have k_r_2 := h_r_13.cell 2 _ rfl
  have k_q_0 := h_q_13.cell 0 _ rfl
  have k_q_1 := h_q_13.cell 1 _ rfl
  have k_q_2 := h_q_13.cell 2 _ rfl
  go_wp2_with fail
  clear k_r_0 k_r_1 k_r_2 k_q_0 k_q_1 k_q_2
  have c := refRatSame_any w13 (g1 := (ratQ a).1.neg) (g2 := (ratQ a).1.neg) h_rn_13 h_rd_13 h_qn_13 h_qd_13
  rw [ex_sameq] at c
  refine c.mono ?_
  rintro e w14 ⟨rfl, hb⟩
  clear c
  have B14 := B13.trans (hb.mono B13.size)
  have h_xn_14 := h_xn_13.below hb
  have h_xd_14 := h_xd_13.below hb
  have h_x_14 := h_x_13.later hb
  have h_rn_14 := h_rn_13.below hb
  have h_rd_14 := h_rd_13.below hb
  have h_r_14 := h_r_13.later hb
  have h_qn_14 := h_qn_13.below hb
  have h_qd_14 := h_qd_13.below hb
  have h_q_14 := h_q_13.later hb
  clear hb B13 h_xn_13 h_xd_13 h_x_13 h_rn_13 h_rd_13 h_r_13 h_qn_13 h_qd_13 h_q_13
  go_wp2_with fail
  have c := wakes_any w14
  refine c.mono ?_
  rintro e w15 ⟨rfl, hb⟩
  clear c
  have B15 := B14.trans (hb.mono B14.size)
  have h_xn_15 := h_xn_14.below hb
  have h_xd_15 := h_xd_14.below hb
  have h_x_15 := h_x_14.later hb
  have h_rn_15 := h_rn_14.below hb
  have h_rd_15 := h_rd_14.below hb
  have h_r_15 := h_r_14.later hb
  have h_qn_15 := h_qn_14.below hb
  have h_qd_15 := h_qd_14.below hb
  have h_q_15 := h_q_14.later hb
  clear hb B14 h_xn_14 h_xd_14 h_x_14 h_rn_14 h_rd_14 h_r_14 h_qn_14 h_qd_14 h_q_14
  go_wp2_with fail
  go_ret
  exact ⟨rfl, B15⟩

end Go.Proofs.Ytfcejgeckcoefaa
