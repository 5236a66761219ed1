/- The walk of the law QuotaDown: it returns true and turns nothing that was there. No condition. Printed by gen_quolaws.py. -/
import Derived.Test.YtfcejgeckcoefaaQuoG
import Derived.Test.YtfcejgeckcoefaaQuoH
import Derived.BigQuiet
import Derived.Deep.CutRange
namespace Go.Proofs.Ytfcejgeckcoefaa
open Go.RowKit Go.Suf
set_option linter.unusedVariables false
set_option linter.unusedSimpArgs false

theorem down_exact {P : Nat} : P * 1000000000 / (1000000000 * 1000000000) = P / 1000000000 := Nat.mul_div_mul_right _ _ (by decide)

set_option maxRecDepth 100000 in
set_option maxHeartbeats 8000000 in
theorem quotaDown_walk (w : World) (a : Int) (h_a1 : -9223372036854775808 ≤ a) (h_a2 : a ≤ 9223372036854775807) (b : Int) (h_b1 : -9223372036854775808 ≤ b) (h_b2 : b ≤ 9223372036854775807) :
    Calls Try.prog 8 #[.int .i64 a, .int .i64 b] w fun e w' => e = .returned (.bool true) ∧ Below w.heap.size w w' := by
  have i_a : i64 a := ⟨h_a1, h_a2⟩
  have i_b : i64 b := ⟨h_b1, h_b2⟩
  have l_a : a < 9223372036854775808 := by omega
  have l_b : b < 9223372036854775808 := by omega
  have i_U : i64 1000000000 := by unfold i64; decide
  have B0 : Below w.heap.size w w := Below.refl _ _
  by_cases q_a : inQ a
  case neg =>
    have DN := Lib.hid (show downQ a b = (0, 2) by rw [downQ, if_neg (fun h => q_a h.1)])
    have UP := Lib.hid (show upQ a b = (0, 2) by rw [upQ, if_neg (fun h => q_a h.1)])
    have RN := Lib.hid (show ratQ a = (zeroV, 2) by rw [ratQ, if_neg q_a])
    clear q_a
    go_enter Try.func8, Try.ntmps8
    go_wp2_with fail
    have c := qratio_any w a i_a
    rw [RN.out] at c
    refine c.mono ?_
    rintro e w1 ⟨a_x, n_x, c_x, b_x, m_x, d_x, rfl, h_xn_1, h_xd_1, hb⟩
    clear c
    have B1 := B0.trans (hb.mono B0.size)
    clear hb B0
    have hb := below_al w1 (.cells #[.bool (zeroV).neg, .slice a_x n_x c_x, .slice b_x m_x d_x] 27)
    have B2 := B1.trans (hb.mono B1.size)
    have h_xn_2 := h_xn_1.below hb
    have h_xd_2 := h_xd_1.below hb
    clear hb B1 h_xn_1 h_xd_1
    have h_x_2 := Has.new w1 #[.bool (zeroV).neg, .slice a_x n_x c_x, .slice b_x m_x d_x] 27
    go_wp2_with first | refine wpList_store_new rfl 27 _ _ rfl atRat _ _ _ rfl rfl rfl rfl (rat_one _ _ _ _ _ _ _) ?_
    generalize (w1.alloc (.cells #[.bool (zeroV).neg, .slice a_x n_x c_x, .slice b_x m_x d_x] 27)) = w2 at *
    have c := qratio_any w2 b i_b
    refine c.mono ?_
    rintro e w3 ⟨a_y, n_y, c_y, b_y, m_y, d_y, rfl, h_yn_3, h_yd_3, hb⟩
    clear c
    have B3 := B2.trans (hb.mono B2.size)
    have h_xn_3 := h_xn_2.below hb
    have h_xd_3 := h_xd_2.below hb
    have h_x_3 := h_x_2.later hb
    clear hb B2 h_xn_2 h_xd_2 h_x_2
    have hb := below_al w3 (.cells #[.bool ((ratQ b).1).neg, .slice a_y n_y c_y, .slice b_y m_y d_y] 27)
    have B4 := B3.trans (hb.mono B3.size)
    have h_xn_4 := h_xn_3.below hb
    have h_xd_4 := h_xd_3.below hb
    have h_x_4 := h_x_3.later hb
    have h_yn_4 := h_yn_3.below hb
    have h_yd_4 := h_yd_3.below hb
    clear hb B3 h_xn_3 h_xd_3 h_x_3 h_yn_3 h_yd_3
    have h_y_4 := Has.new w3 #[.bool ((ratQ b).1).neg, .slice a_y n_y c_y, .slice b_y m_y d_y] 27
    go_wp2_with first | refine wpList_store_new rfl 27 _ _ rfl atRat _ _ _ rfl rfl rfl rfl (rat_one _ _ _ _ _ _ _) ?_
    generalize (w3.alloc (.cells #[.bool ((ratQ b).1).neg, .slice a_y n_y c_y, .slice b_y m_y d_y] 27)) = w4 at *
    have c := down_any w4 a b i_a i_b
    rw [DN.out] at c
    refine c.mono ?_
    rintro e w5 ⟨rfl, hb⟩
    clear c
    have B5 := B4.trans (hb.mono B4.size)
    have h_xn_5 := h_xn_4.below hb
    have h_xd_5 := h_xd_4.below hb
    have h_x_5 := h_x_4.later hb
    have h_yn_5 := h_yn_4.below hb
    have h_yd_5 := h_yd_4.below hb
    have h_y_5 := h_y_4.later hb
    clear hb B4 h_xn_4 h_xd_4 h_x_4 h_yn_4 h_yd_4 h_y_4
    go_wp2_with fail
    have c := up_any w5 a b i_a i_b
    rw [UP.out] at c
    refine c.mono ?_
    rintro e w6 ⟨rfl, hb⟩
    clear c
    have B6 := B5.trans (hb.mono B5.size)
    have h_xn_6 := h_xn_5.below hb
    have h_xd_6 := h_xd_5.below hb
    have h_x_6 := h_x_5.later hb
    have h_yn_6 := h_yn_5.below hb
    have h_yd_6 := h_yd_5.below hb
    have h_y_6 := h_y_5.later hb
    clear hb B5 h_xn_5 h_xd_5 h_x_5 h_yn_5 h_yd_5 h_y_5
    go_wp2_with fail
    have c := wakes_any w6
    refine c.mono ?_
    rintro e w7 ⟨rfl, hb⟩
    clear c
    have B7 := B6.trans (hb.mono B6.size)
    have h_xn_7 := h_xn_6.below hb
    have h_xd_7 := h_xd_6.below hb
    have h_x_7 := h_x_6.later hb
    have h_yn_7 := h_yn_6.below hb
    have h_yd_7 := h_yd_6.below hb
    have h_y_7 := h_y_6.later hb
    clear hb B6 h_xn_6 h_xd_6 h_x_6 h_yn_6 h_yd_6 h_y_6
    go_wp2_with fail
    go_ret
    exact ⟨rfl, B7⟩
  by_cases q_b : inQ b
  case neg =>
    have DN := Lib.hid (show downQ a b = (0, 2) by rw [downQ, if_neg (fun h => q_b h.2)])
    have UP := Lib.hid (show upQ a b = (0, 2) by rw [upQ, if_neg (fun h => q_b h.2)])
    have RN := Lib.hid (show ratQ b = (zeroV, 2) by rw [ratQ, if_neg q_b])
    clear q_b
    obtain ⟨A, rfl, b_A, -⟩ := inQ_nat q_a
    have RA := Lib.hid (ratQ_fr b_A)
    clear q_a b_A
    go_enter Try.func8, Try.ntmps8
    go_wp2_with fail
    have c := qratio_any w A i_a
    rw [RA.out] at c
    refine c.mono ?_
    rintro e w1 ⟨a_x, n_x, c_x, b_x, m_x, d_x, rfl, h_xn_1, h_xd_1, hb⟩
    clear c
    have B1 := B0.trans (hb.mono B0.size)
    clear hb B0
    have hb := below_al w1 (.cells #[.bool ((fr A 1000000000)).neg, .slice a_x n_x c_x, .slice b_x m_x d_x] 27)
    have B2 := B1.trans (hb.mono B1.size)
    have h_xn_2 := h_xn_1.below hb
    have h_xd_2 := h_xd_1.below hb
    clear hb B1 h_xn_1 h_xd_1
    have h_x_2 := Has.new w1 #[.bool ((fr A 1000000000)).neg, .slice a_x n_x c_x, .slice b_x m_x d_x] 27
    go_wp2_with first | refine wpList_store_new rfl 27 _ _ rfl atRat _ _ _ rfl rfl rfl rfl (rat_one _ _ _ _ _ _ _) ?_
    generalize (w1.alloc (.cells #[.bool ((fr A 1000000000)).neg, .slice a_x n_x c_x, .slice b_x m_x d_x] 27)) = w2 at *
    have c := qratio_any w2 b i_b
    rw [RN.out] at c
    refine c.mono ?_
    rintro e w3 ⟨a_y, n_y, c_y, b_y, m_y, d_y, rfl, h_yn_3, h_yd_3, hb⟩
    clear c
    have B3 := B2.trans (hb.mono B2.size)
    have h_xn_3 := h_xn_2.below hb
    have h_xd_3 := h_xd_2.below hb
    have h_x_3 := h_x_2.later hb
    clear hb B2 h_xn_2 h_xd_2 h_x_2
    have hb := below_al w3 (.cells #[.bool (zeroV).neg, .slice a_y n_y c_y, .slice b_y m_y d_y] 27)
    have B4 := B3.trans (hb.mono B3.size)
    have h_xn_4 := h_xn_3.below hb
    have h_xd_4 := h_xd_3.below hb
    have h_x_4 := h_x_3.later hb
    have h_yn_4 := h_yn_3.below hb
    have h_yd_4 := h_yd_3.below hb
    clear hb B3 h_xn_3 h_xd_3 h_x_3 h_yn_3 h_yd_3
    have h_y_4 := Has.new w3 #[.bool (zeroV).neg, .slice a_y n_y c_y, .slice b_y m_y d_y] 27
    go_wp2_with first | refine wpList_store_new rfl 27 _ _ rfl atRat _ _ _ rfl rfl rfl rfl (rat_one _ _ _ _ _ _ _) ?_
    generalize (w3.alloc (.cells #[.bool (zeroV).neg, .slice a_y n_y c_y, .slice b_y m_y d_y] 27)) = w4 at *
    have c := down_any w4 A b i_a i_b
    rw [DN.out] at c
    refine c.mono ?_
    rintro e w5 ⟨rfl, hb⟩
    clear c
    have B5 := B4.trans (hb.mono B4.size)
    have h_xn_5 := h_xn_4.below hb
    have h_xd_5 := h_xd_4.below hb
    have h_x_5 := h_x_4.later hb
    have h_yn_5 := h_yn_4.below hb
    have h_yd_5 := h_yd_4.below hb
    have h_y_5 := h_y_4.later hb
    clear hb B4 h_xn_4 h_xd_4 h_x_4 h_yn_4 h_yd_4 h_y_4
    go_wp2_with fail
    have c := up_any w5 A b i_a i_b
    rw [UP.out] at c
    refine c.mono ?_
    rintro e w6 ⟨rfl, hb⟩
    clear c
    have B6 := B5.trans (hb.mono B5.size)
    have h_xn_6 := h_xn_5.below hb
    have h_xd_6 := h_xd_5.below hb
    have h_x_6 := h_x_5.later hb
    have h_yn_6 := h_yn_5.below hb
    have h_yd_6 := h_yd_5.below hb
    have h_y_6 := h_y_5.later hb
    clear hb B5 h_xn_5 h_xd_5 h_x_5 h_yn_5 h_yd_5 h_y_5
    go_wp2_with fail
    have c := wakes_any w6
    refine c.mono ?_
    rintro e w7 ⟨rfl, hb⟩
    clear c
    have B7 := B6.trans (hb.mono B6.size)
    have h_xn_7 := h_xn_6.below hb
    have h_xd_7 := h_xd_6.below hb
    have h_x_7 := h_x_6.later hb
    have h_yn_7 := h_yn_6.below hb
    have h_yd_7 := h_yd_6.below hb
    have h_y_7 := h_y_6.later hb
    clear hb B6 h_xn_6 h_xd_6 h_x_6 h_yn_6 h_yd_6 h_y_6
    go_wp2_with fail
    go_ret
    exact ⟨rfl, B7⟩
  obtain ⟨A, rfl, b_A, -⟩ := inQ_nat q_a
  obtain ⟨B, rfl, b_B, -⟩ := inQ_nat q_b
  have RA := Lib.hid (ratQ_fr b_A)
  have RB := Lib.hid (ratQ_fr b_B)
  have dn : downQ (A : Int) (B : Int) = tellN (A * B / 1000000000) := by rw [downQ, if_pos ⟨q_a, q_b⟩]; rfl
  have dn2 : downQ (B : Int) (A : Int) = tellN (A * B / 1000000000) := by rw [downQ, if_pos ⟨q_b, q_a⟩, Nat.mul_comm A B]; rfl
  have up : upQ (A : Int) (B : Int) = tellN (A * B / 1000000000 + (if A * B % 1000000000 = 0 then 0 else 1)) := by rw [upQ, if_pos ⟨q_a, q_b⟩]; rfl
  have one : downQ (A : Int) 1000000000 = ((A : Int), 0) := by
    rw [downQ, if_pos ⟨q_a, by unfold inQ; decide⟩]
    show tellN (A * 1000000000 / 1000000000) = _
    rw [Nat.mul_div_cancel _ (by decide), tellN, if_pos b_A]
  have same : upQ (A : Int) 1000000000 = ((A : Int), 0) := by
    rw [upQ, if_pos ⟨q_a, by unfold inQ; decide⟩]
    show tellN (A * 1000000000 / 1000000000 + (if A * 1000000000 % 1000000000 = 0 then 0 else 1)) = _
    rw [Nat.mul_div_cancel _ (by decide), Nat.mul_mod_left, if_pos rfl, Nat.add_zero, tellN, if_pos b_A]
  have ON := Lib.hid one
  have SM := Lib.hid same
  have MU := Lib.hid (fr_mul (A := A) (B := 1000000000) (C := B) (D := 1000000000) (by decide) (by decide) (small48 (by omega)) (small48 (by decide)) (small48 (by omega)) (small48 (by decide)))
  have BI := fr_bill (A := A * B) (B := 1000000000 * 1000000000) (by decide) (sq48 b_A b_B) (small48 (by decide))
  rw [down_exact] at BI
  have ab48 := sq48 b_A b_B
  obtain ⟨P, hP⟩ : ∃ P, P = A * B := ⟨_, rfl⟩
  rw [← hP] at dn dn2 up MU BI ab48
  have ED := Nat.div_add_mod P 1000000000
  have ml := Nat.mod_lt P (show 0 < 1000000000 by decide)
  obtain ⟨q, hq⟩ : ∃ q, q = P / 1000000000 := ⟨_, rfl⟩
  obtain ⟨m, hm⟩ : ∃ m, m = P % 1000000000 := ⟨_, rfl⟩
  rw [← hq] at dn dn2 up BI ED
  rw [← hm] at up ED ml
  clear one same q_a q_b hP hq hm
  by_cases ok : q ≤ 1000000000000000
  case neg =>
    have DN := Lib.hid (show downQ (A : Int) (B : Int) = (0, 30) by rw [dn, tellN, if_neg ok])
    have BL := Lib.hid (show billC (fr P (1000000000 * 1000000000)) = (0, 30) by rw [BI, tellN, if_neg ok])
    have UP := Lib.hid (show upQ (A : Int) (B : Int) = (0, 30) by rw [up, tellN, if_neg (fun h => ok (Nat.le_trans (Nat.le_add_right _ _) h))])
    clear dn dn2 up BI ok ED ml b_A b_B ab48
    go_enter Try.func8, Try.ntmps8
    go_wp2_with fail
    have c := qratio_any w A i_a
    rw [RA.out] at c
    refine c.mono ?_
    rintro e w1 ⟨a_x, n_x, c_x, b_x, m_x, d_x, rfl, h_xn_1, h_xd_1, hb⟩
    clear c
    have B1 := B0.trans (hb.mono B0.size)
    clear hb B0
    have hb := below_al w1 (.cells #[.bool ((fr A 1000000000)).neg, .slice a_x n_x c_x, .slice b_x m_x d_x] 27)
    have B2 := B1.trans (hb.mono B1.size)
    have h_xn_2 := h_xn_1.below hb
    have h_xd_2 := h_xd_1.below hb
    clear hb B1 h_xn_1 h_xd_1
    have h_x_2 := Has.new w1 #[.bool ((fr A 1000000000)).neg, .slice a_x n_x c_x, .slice b_x m_x d_x] 27
    go_wp2_with first | refine wpList_store_new rfl 27 _ _ rfl atRat _ _ _ rfl rfl rfl rfl (rat_one _ _ _ _ _ _ _) ?_
    generalize (w1.alloc (.cells #[.bool ((fr A 1000000000)).neg, .slice a_x n_x c_x, .slice b_x m_x d_x] 27)) = w2 at *
    have c := qratio_any w2 B i_b
    rw [RB.out] at c
    refine c.mono ?_
    rintro e w3 ⟨a_y, n_y, c_y, b_y, m_y, d_y, rfl, h_yn_3, h_yd_3, hb⟩
    clear c
    have B3 := B2.trans (hb.mono B2.size)
    have h_xn_3 := h_xn_2.below hb
    have h_xd_3 := h_xd_2.below hb
    have h_x_3 := h_x_2.later hb
    clear hb B2 h_xn_2 h_xd_2 h_x_2
    have hb := below_al w3 (.cells #[.bool ((fr B 1000000000)).neg, .slice a_y n_y c_y, .slice b_y m_y d_y] 27)
    have B4 := B3.trans (hb.mono B3.size)
    have h_xn_4 := h_xn_3.below hb
    have h_xd_4 := h_xd_3.below hb
    have h_x_4 := h_x_3.later hb
    have h_yn_4 := h_yn_3.below hb
    have h_yd_4 := h_yd_3.below hb
    clear hb B3 h_xn_3 h_xd_3 h_x_3 h_yn_3 h_yd_3
    have h_y_4 := Has.new w3 #[.bool ((fr B 1000000000)).neg, .slice a_y n_y c_y, .slice b_y m_y d_y] 27
    go_wp2_with first | refine wpList_store_new rfl 27 _ _ rfl atRat _ _ _ rfl rfl rfl rfl (rat_one _ _ _ _ _ _ _) ?_
    generalize (w3.alloc (.cells #[.bool ((fr B 1000000000)).neg, .slice a_y n_y c_y, .slice b_y m_y d_y] 27)) = w4 at *
    have c := down_any w4 A B i_a i_b
    rw [DN.out] at c
    refine c.mono ?_
    rintro e w5 ⟨rfl, hb⟩
    clear c
    have B5 := B4.trans (hb.mono B4.size)
    have h_xn_5 := h_xn_4.below hb
    have h_xd_5 := h_xd_4.below hb
    have h_x_5 := h_x_4.later hb
    have h_yn_5 := h_yn_4.below hb
    have h_yd_5 := h_yd_4.below hb
    have h_y_5 := h_y_4.later hb
    clear hb B4 h_xn_4 h_xd_4 h_x_4 h_yn_4 h_yd_4 h_y_4
    go_wp2_with fail
    have c := up_any w5 A B i_a i_b
    rw [UP.out] at c
    refine c.mono ?_
    rintro e w6 ⟨rfl, hb⟩
    clear c
    have B6 := B5.trans (hb.mono B5.size)
    have h_xn_6 := h_xn_5.below hb
    have h_xd_6 := h_xd_5.below hb
    have h_x_6 := h_x_5.later hb
    have h_yn_6 := h_yn_5.below hb
    have h_yd_6 := h_yd_5.below hb
    have h_y_6 := h_y_5.later hb
    clear hb B5 h_xn_5 h_xd_5 h_x_5 h_yn_5 h_yd_5 h_y_5
    have k_x_0 := h_x_6.cell 0 _ rfl
    have k_x_1 := h_x_6.cell 1 _ rfl
    have k_x_2 := h_x_6.cell 2 _ rfl
    have k_y_0 := h_y_6.cell 0 _ rfl
    have k_y_1 := h_y_6.cell 1 _ rfl
    have k_y_2 := h_y_6.cell 2 _ rfl
    go_wp2_with fail
    clear k_x_0 k_x_1 k_x_2 k_y_0 k_y_1 k_y_2
    have c := ratMul_any w6 (g1 := (fr A 1000000000).neg) (g2 := (fr B 1000000000).neg) h_xn_6 h_xd_6 h_yn_6 h_yd_6
    rw [show (⟨(fr A 1000000000).neg, (fr A 1000000000).num, (fr A 1000000000).den⟩ : QV) = fr A 1000000000 from rfl] at c
    rw [show (⟨(fr B 1000000000).neg, (fr B 1000000000).num, (fr B 1000000000).den⟩ : QV) = fr B 1000000000 from rfl] at c
    rw [MU.out] at c
    refine c.mono ?_
    rintro e w7 ⟨a_p, n_p, c_p, b_p, m_p, d_p, rfl, h_pn_7, h_pd_7, hb⟩
    clear c
    have B7 := B6.trans (hb.mono B6.size)
    have h_xn_7 := h_xn_6.below hb
    have h_xd_7 := h_xd_6.below hb
    have h_x_7 := h_x_6.later hb
    have h_yn_7 := h_yn_6.below hb
    have h_yd_7 := h_yd_6.below hb
    have h_y_7 := h_y_6.later hb
    clear hb B6 h_xn_6 h_xd_6 h_x_6 h_yn_6 h_yd_6 h_y_6
    have hb := below_al w7 (.cells #[.bool ((fr P (1000000000 * 1000000000))).neg, .slice a_p n_p c_p, .slice b_p m_p d_p] 27)
    have B8 := B7.trans (hb.mono B7.size)
    have h_xn_8 := h_xn_7.below hb
    have h_xd_8 := h_xd_7.below hb
    have h_x_8 := h_x_7.later hb
    have h_yn_8 := h_yn_7.below hb
    have h_yd_8 := h_yd_7.below hb
    have h_y_8 := h_y_7.later hb
    have h_pn_8 := h_pn_7.below hb
    have h_pd_8 := h_pd_7.below hb
    clear hb B7 h_xn_7 h_xd_7 h_x_7 h_yn_7 h_yd_7 h_y_7 h_pn_7 h_pd_7
    have h_p_8 := Has.new w7 #[.bool ((fr P (1000000000 * 1000000000))).neg, .slice a_p n_p c_p, .slice b_p m_p d_p] 27
    have k_p_0 := h_p_8.cell 0 _ rfl
    have k_p_1 := h_p_8.cell 1 _ rfl
    have k_p_2 := h_p_8.cell 2 _ rfl
    go_wp2_with first | refine wpList_store_new rfl 27 _ _ rfl atRat _ _ _ rfl rfl rfl rfl (rat_one _ _ _ _ _ _ _) ?_
    clear k_p_0 k_p_1 k_p_2
    generalize (w7.alloc (.cells #[.bool ((fr P (1000000000 * 1000000000))).neg, .slice a_p n_p c_p, .slice b_p m_p d_p] 27)) = w8 at *
    have c := bill_any w8 (g := (fr P (1000000000 * 1000000000)).neg) h_pn_8 h_pd_8
    rw [show (⟨(fr P (1000000000 * 1000000000)).neg, (fr P (1000000000 * 1000000000)).num, (fr P (1000000000 * 1000000000)).den⟩ : QV) = fr P (1000000000 * 1000000000) from rfl] at c
    rw [BL.out] at c
    refine c.mono ?_
    rintro e w9 ⟨rfl, hb⟩
    clear c
    have B9 := B8.trans (hb.mono B8.size)
    have h_xn_9 := h_xn_8.below hb
    have h_xd_9 := h_xd_8.below hb
    have h_x_9 := h_x_8.later hb
    have h_yn_9 := h_yn_8.below hb
    have h_yd_9 := h_yd_8.below hb
    have h_y_9 := h_y_8.later hb
    have h_pn_9 := h_pn_8.below hb
    have h_pd_9 := h_pd_8.below hb
    have h_p_9 := h_p_8.later hb
    clear hb B8 h_xn_8 h_xd_8 h_x_8 h_yn_8 h_yd_8 h_y_8 h_pn_8 h_pd_8 h_p_8
    go_wp2_with fail
    have c := wakes_any w9
    refine c.mono ?_
    rintro e w10 ⟨rfl, hb⟩
    clear c
    have B10 := B9.trans (hb.mono B9.size)
    have h_xn_10 := h_xn_9.below hb
    have h_xd_10 := h_xd_9.below hb
    have h_x_10 := h_x_9.later hb
    have h_yn_10 := h_yn_9.below hb
    have h_yd_10 := h_yd_9.below hb
    have h_y_10 := h_y_9.later hb
    have h_pn_10 := h_pn_9.below hb
    have h_pd_10 := h_pd_9.below hb
    have h_p_10 := h_p_9.later hb
    clear hb B9 h_xn_9 h_xd_9 h_x_9 h_yn_9 h_yd_9 h_y_9 h_pn_9 h_pd_9 h_p_9
    go_wp2_with fail
    go_ret
    exact ⟨rfl, B10⟩
  have DN := Lib.hid (show downQ (A : Int) (B : Int) = ((q : Int), 0) by rw [dn, tellN, if_pos ok])
  have D2 := Lib.hid (show downQ (B : Int) (A : Int) = ((q : Int), 0) by rw [dn2, tellN, if_pos ok])
  have BL := Lib.hid (show billC (fr P (1000000000 * 1000000000)) = ((q : Int), 0) by rw [BI, tellN, if_pos ok])
  have RQ := Lib.hid (ratQ_fr ok)
  have i_q : i64 (q : Int) := ⟨by omega, by omega⟩
  obtain ⟨s, hs, s1, s2, s3⟩ := fr_cmp (A := q) (B := 1000000000) (C := P) (D := 1000000000 * 1000000000) (by decide) (by decide) (small48 (by omega)) (small48 (by decide)) ab48 (small48 (by decide))
  have CS := Lib.hid hs
  have x1 : q * (1000000000 * 1000000000) ≤ P * 1000000000 := by
    rw [← Nat.mul_assoc]
    exact Nat.mul_le_mul_right _ (by omega)
  have sl : s ≤ 0 := by
    by_cases h : 0 < s
    · have := s2.1 h
      omega
    · omega
  have sz : s = 0 ↔ m = 0 := by
    rw [s3, ← Nat.mul_assoc]
    constructor
    · intro h
      have := Nat.eq_of_mul_eq_mul_right (show 0 < 1000000000 by decide) h
      omega
    · intro h
      congr 1
      omega
  have dc : decide (0 < s) = false := decide_eq_false (by omega)
  clear dn dn2 BI hs s1 s2 s3 x1 sl
  by_cases m0 : m = 0
  case pos =>
    have UP := Lib.hid (show upQ (A : Int) (B : Int) = ((q : Int), 0) by rw [up, if_pos m0, Nat.add_zero, tellN, if_pos ok])
    obtain rfl : s = 0 := sz.2 m0
    clear up m0 sz ED ml ok b_A b_B ab48
    go_enter Try.func8, Try.ntmps8
    go_wp2_with fail
    have c := qratio_any w A i_a
    rw [RA.out] at c
    refine c.mono ?_
    rintro e w1 ⟨a_x, n_x, c_x, b_x, m_x, d_x, rfl, h_xn_1, h_xd_1, hb⟩
    clear c
    have B1 := B0.trans (hb.mono B0.size)
    clear hb B0
    have hb := below_al w1 (.cells #[.bool ((fr A 1000000000)).neg, .slice a_x n_x c_x, .slice b_x m_x d_x] 27)
    have B2 := B1.trans (hb.mono B1.size)
    have h_xn_2 := h_xn_1.below hb
    have h_xd_2 := h_xd_1.below hb
    clear hb B1 h_xn_1 h_xd_1
    have h_x_2 := Has.new w1 #[.bool ((fr A 1000000000)).neg, .slice a_x n_x c_x, .slice b_x m_x d_x] 27
    go_wp2_with first | refine wpList_store_new rfl 27 _ _ rfl atRat _ _ _ rfl rfl rfl rfl (rat_one _ _ _ _ _ _ _) ?_
    generalize (w1.alloc (.cells #[.bool ((fr A 1000000000)).neg, .slice a_x n_x c_x, .slice b_x m_x d_x] 27)) = w2 at *
    have c := qratio_any w2 B i_b
    rw [RB.out] at c
    refine c.mono ?_
    rintro e w3 ⟨a_y, n_y, c_y, b_y, m_y, d_y, rfl, h_yn_3, h_yd_3, hb⟩
    clear c
    have B3 := B2.trans (hb.mono B2.size)
    have h_xn_3 := h_xn_2.below hb
    have h_xd_3 := h_xd_2.below hb
    have h_x_3 := h_x_2.later hb
    clear hb B2 h_xn_2 h_xd_2 h_x_2
    have hb := below_al w3 (.cells #[.bool ((fr B 1000000000)).neg, .slice a_y n_y c_y, .slice b_y m_y d_y] 27)
    have B4 := B3.trans (hb.mono B3.size)
    have h_xn_4 := h_xn_3.below hb
    have h_xd_4 := h_xd_3.below hb
    have h_x_4 := h_x_3.later hb
    have h_yn_4 := h_yn_3.below hb
    have h_yd_4 := h_yd_3.below hb
    clear hb B3 h_xn_3 h_xd_3 h_x_3 h_yn_3 h_yd_3
    have h_y_4 := Has.new w3 #[.bool ((fr B 1000000000)).neg, .slice a_y n_y c_y, .slice b_y m_y d_y] 27
    go_wp2_with first | refine wpList_store_new rfl 27 _ _ rfl atRat _ _ _ rfl rfl rfl rfl (rat_one _ _ _ _ _ _ _) ?_
    generalize (w3.alloc (.cells #[.bool ((fr B 1000000000)).neg, .slice a_y n_y c_y, .slice b_y m_y d_y] 27)) = w4 at *
    have c := down_any w4 A B i_a i_b
    rw [DN.out] at c
    refine c.mono ?_
    rintro e w5 ⟨rfl, hb⟩
    clear c
    have B5 := B4.trans (hb.mono B4.size)
    have h_xn_5 := h_xn_4.below hb
    have h_xd_5 := h_xd_4.below hb
    have h_x_5 := h_x_4.later hb
    have h_yn_5 := h_yn_4.below hb
    have h_yd_5 := h_yd_4.below hb
    have h_y_5 := h_y_4.later hb
    clear hb B4 h_xn_4 h_xd_4 h_x_4 h_yn_4 h_yd_4 h_y_4
    go_wp2_with fail
    have c := up_any w5 A B i_a i_b
    rw [UP.out] at c
    refine c.mono ?_
    rintro e w6 ⟨rfl, hb⟩
    clear c
    have B6 := B5.trans (hb.mono B5.size)
    have h_xn_6 := h_xn_5.below hb
    have h_xd_6 := h_xd_5.below hb
    have h_x_6 := h_x_5.later hb
    have h_yn_6 := h_yn_5.below hb
    have h_yd_6 := h_yd_5.below hb
    have h_y_6 := h_y_5.later hb
    clear hb B5 h_xn_5 h_xd_5 h_x_5 h_yn_5 h_yd_5 h_y_5
    have k_x_0 := h_x_6.cell 0 _ rfl
    have k_x_1 := h_x_6.cell 1 _ rfl
    have k_x_2 := h_x_6.cell 2 _ rfl
    have k_y_0 := h_y_6.cell 0 _ rfl
    have k_y_1 := h_y_6.cell 1 _ rfl
    have k_y_2 := h_y_6.cell 2 _ rfl
    go_wp2_with fail
    clear k_x_0 k_x_1 k_x_2 k_y_0 k_y_1 k_y_2
    have c := ratMul_any w6 (g1 := (fr A 1000000000).neg) (g2 := (fr B 1000000000).neg) h_xn_6 h_xd_6 h_yn_6 h_yd_6
    rw [show (⟨(fr A 1000000000).neg, (fr A 1000000000).num, (fr A 1000000000).den⟩ : QV) = fr A 1000000000 from rfl] at c
    rw [show (⟨(fr B 1000000000).neg, (fr B 1000000000).num, (fr B 1000000000).den⟩ : QV) = fr B 1000000000 from rfl] at c
    rw [MU.out] at c
    refine c.mono ?_
    rintro e w7 ⟨a_p, n_p, c_p, b_p, m_p, d_p, rfl, h_pn_7, h_pd_7, hb⟩
    clear c
    have B7 := B6.trans (hb.mono B6.size)
    have h_xn_7 := h_xn_6.below hb
    have h_xd_7 := h_xd_6.below hb
    have h_x_7 := h_x_6.later hb
    have h_yn_7 := h_yn_6.below hb
    have h_yd_7 := h_yd_6.below hb
    have h_y_7 := h_y_6.later hb
    clear hb B6 h_xn_6 h_xd_6 h_x_6 h_yn_6 h_yd_6 h_y_6
    have hb := below_al w7 (.cells #[.bool ((fr P (1000000000 * 1000000000))).neg, .slice a_p n_p c_p, .slice b_p m_p d_p] 27)
    have B8 := B7.trans (hb.mono B7.size)
    have h_xn_8 := h_xn_7.below hb
    have h_xd_8 := h_xd_7.below hb
    have h_x_8 := h_x_7.later hb
    have h_yn_8 := h_yn_7.below hb
    have h_yd_8 := h_yd_7.below hb
    have h_y_8 := h_y_7.later hb
    have h_pn_8 := h_pn_7.below hb
    have h_pd_8 := h_pd_7.below hb
    clear hb B7 h_xn_7 h_xd_7 h_x_7 h_yn_7 h_yd_7 h_y_7 h_pn_7 h_pd_7
    have h_p_8 := Has.new w7 #[.bool ((fr P (1000000000 * 1000000000))).neg, .slice a_p n_p c_p, .slice b_p m_p d_p] 27
    have k_p_0 := h_p_8.cell 0 _ rfl
    have k_p_1 := h_p_8.cell 1 _ rfl
    have k_p_2 := h_p_8.cell 2 _ rfl
    go_wp2_with first | refine wpList_store_new rfl 27 _ _ rfl atRat _ _ _ rfl rfl rfl rfl (rat_one _ _ _ _ _ _ _) ?_
    clear k_p_0 k_p_1 k_p_2
    generalize (w7.alloc (.cells #[.bool ((fr P (1000000000 * 1000000000))).neg, .slice a_p n_p c_p, .slice b_p m_p d_p] 27)) = w8 at *
    have c := bill_any w8 (g := (fr P (1000000000 * 1000000000)).neg) h_pn_8 h_pd_8
    rw [show (⟨(fr P (1000000000 * 1000000000)).neg, (fr P (1000000000 * 1000000000)).num, (fr P (1000000000 * 1000000000)).den⟩ : QV) = fr P (1000000000 * 1000000000) from rfl] at c
    rw [BL.out] at c
    refine c.mono ?_
    rintro e w9 ⟨rfl, hb⟩
    clear c
    have B9 := B8.trans (hb.mono B8.size)
    have h_xn_9 := h_xn_8.below hb
    have h_xd_9 := h_xd_8.below hb
    have h_x_9 := h_x_8.later hb
    have h_yn_9 := h_yn_8.below hb
    have h_yd_9 := h_yd_8.below hb
    have h_y_9 := h_y_8.later hb
    have h_pn_9 := h_pn_8.below hb
    have h_pd_9 := h_pd_8.below hb
    have h_p_9 := h_p_8.later hb
    clear hb B8 h_xn_8 h_xd_8 h_x_8 h_yn_8 h_yd_8 h_y_8 h_pn_8 h_pd_8 h_p_8
    go_wp2_with fail
    have c := qratio_any w9 q i_q
    rw [RQ.out] at c
    refine c.mono ?_
    rintro e w10 ⟨a_l, n_l, c_l, b_l, m_l, d_l, rfl, h_ln_10, h_ld_10, hb⟩
    clear c
    have B10 := B9.trans (hb.mono B9.size)
    have h_xn_10 := h_xn_9.below hb
    have h_xd_10 := h_xd_9.below hb
    have h_x_10 := h_x_9.later hb
    have h_yn_10 := h_yn_9.below hb
    have h_yd_10 := h_yd_9.below hb
    have h_y_10 := h_y_9.later hb
    have h_pn_10 := h_pn_9.below hb
    have h_pd_10 := h_pd_9.below hb
    have h_p_10 := h_p_9.later hb
    clear hb B9 h_xn_9 h_xd_9 h_x_9 h_yn_9 h_yd_9 h_y_9 h_pn_9 h_pd_9 h_p_9
    have hb := below_al w10 (.cells #[.bool ((fr q 1000000000)).neg, .slice a_l n_l c_l, .slice b_l m_l d_l] 27)
    have B11 := B10.trans (hb.mono B10.size)
    have h_xn_11 := h_xn_10.below hb
    have h_xd_11 := h_xd_10.below hb
    have h_x_11 := h_x_10.later hb
    have h_yn_11 := h_yn_10.below hb
    have h_yd_11 := h_yd_10.below hb
    have h_y_11 := h_y_10.later hb
    have h_pn_11 := h_pn_10.below hb
    have h_pd_11 := h_pd_10.below hb
    have h_p_11 := h_p_10.later hb
    have h_ln_11 := h_ln_10.below hb
    have h_ld_11 := h_ld_10.below hb
    clear hb B10 h_xn_10 h_xd_10 h_x_10 h_yn_10 h_yd_10 h_y_10 h_pn_10 h_pd_10 h_p_10 h_ln_10 h_ld_10
    have h_l_11 := Has.new w10 #[.bool ((fr q 1000000000)).neg, .slice a_l n_l c_l, .slice b_l m_l d_l] 27
    have k_l_0 := h_l_11.cell 0 _ rfl
    have k_l_1 := h_l_11.cell 1 _ rfl
    have k_l_2 := h_l_11.cell 2 _ rfl
    have k_p_0 := h_p_11.cell 0 _ rfl
    have k_p_1 := h_p_11.cell 1 _ rfl
    have k_p_2 := h_p_11.cell 2 _ rfl
    go_wp2_with first | refine wpList_store_new rfl 27 _ _ rfl atRat _ _ _ rfl rfl rfl rfl (rat_one _ _ _ _ _ _ _) ?_
    clear k_l_0 k_l_1 k_l_2 k_p_0 k_p_1 k_p_2
    generalize (w10.alloc (.cells #[.bool ((fr q 1000000000)).neg, .slice a_l n_l c_l, .slice b_l m_l d_l] 27)) = w11 at *
    have c := ratCmp_any w11 (g1 := (fr q 1000000000).neg) (g2 := (fr P (1000000000 * 1000000000)).neg) h_ln_11 h_ld_11 h_pn_11 h_pd_11
    rw [show (⟨(fr q 1000000000).neg, (fr q 1000000000).num, (fr q 1000000000).den⟩ : QV) = fr q 1000000000 from rfl] at c
    rw [show (⟨(fr P (1000000000 * 1000000000)).neg, (fr P (1000000000 * 1000000000)).num, (fr P (1000000000 * 1000000000)).den⟩ : QV) = fr P (1000000000 * 1000000000) from rfl] at c
    rw [CS.out] at c
    refine c.mono ?_
    rintro e w12 ⟨rfl, hb⟩
    clear c
    have B12 := B11.trans (hb.mono B11.size)
    have h_xn_12 := h_xn_11.below hb
    have h_xd_12 := h_xd_11.below hb
    have h_x_12 := h_x_11.later hb
    have h_yn_12 := h_yn_11.below hb
    have h_yd_12 := h_yd_11.below hb
    have h_y_12 := h_y_11.later hb
    have h_pn_12 := h_pn_11.below hb
    have h_pd_12 := h_pd_11.below hb
    have h_p_12 := h_p_11.later hb
    have h_ln_12 := h_ln_11.below hb
    have h_ld_12 := h_ld_11.below hb
    have h_l_12 := h_l_11.later hb
    clear hb B11 h_xn_11 h_xd_11 h_x_11 h_yn_11 h_yd_11 h_y_11 h_pn_11 h_pd_11 h_p_11 h_ln_11 h_ld_11 h_l_11
    go_wp2_with fail
    have c := down_any w12 B A i_b i_a
    rw [D2.out] at c
    refine c.mono ?_
    rintro e w13 ⟨rfl, hb⟩
    clear c
    have B13 := B12.trans (hb.mono B12.size)
    have h_xn_13 := h_xn_12.below hb
    have h_xd_13 := h_xd_12.below hb
    have h_x_13 := h_x_12.later hb
    have h_yn_13 := h_yn_12.below hb
    have h_yd_13 := h_yd_12.below hb
    have h_y_13 := h_y_12.later hb
    have h_pn_13 := h_pn_12.below hb
    have h_pd_13 := h_pd_12.below hb
    have h_p_13 := h_p_12.later hb
    have h_ln_13 := h_ln_12.below hb
    have h_ld_13 := h_ld_12.below hb
    have h_l_13 := h_l_12.later hb
    clear hb B12 h_xn_12 h_xd_12 h_x_12 h_yn_12 h_yd_12 h_y_12 h_pn_12 h_pd_12 h_p_12 h_ln_12 h_ld_12 h_l_12
    go_wp2_with fail
    have c := down_any w13 A 1000000000 i_a i_U
    rw [ON.out] at c
    refine c.mono ?_
    rintro e w14 ⟨rfl, hb⟩
    clear c
    have B14 := B13.trans (hb.mono B13.size)
    have h_xn_14 := h_xn_13.below hb
    have h_xd_14 := h_xd_13.below hb
    have h_x_14 := h_x_13.later hb
    have h_yn_14 := h_yn_13.below hb
    have h_yd_14 := h_yd_13.below hb
    have h_y_14 := h_y_13.later hb
    have h_pn_14 := h_pn_13.below hb
    have h_pd_14 := h_pd_13.below hb
    have h_p_14 := h_p_13.later hb
    have h_ln_14 := h_ln_13.below hb
    have h_ld_14 := h_ld_13.below hb
    have h_l_14 := h_l_13.later hb
    clear hb B13 h_xn_13 h_xd_13 h_x_13 h_yn_13 h_yd_13 h_y_13 h_pn_13 h_pd_13 h_p_13 h_ln_13 h_ld_13 h_l_13
    go_wp2_with fail
    have c := up_any w14 A 1000000000 i_a i_U
    rw [SM.out] at c
    refine c.mono ?_
    rintro e w15 ⟨rfl, hb⟩
    clear c
    have B15 := B14.trans (hb.mono B14.size)
    have h_xn_15 := h_xn_14.below hb
    have h_xd_15 := h_xd_14.below hb
    have h_x_15 := h_x_14.later hb
    have h_yn_15 := h_yn_14.below hb
    have h_yd_15 := h_yd_14.below hb
    have h_y_15 := h_y_14.later hb
    have h_pn_15 := h_pn_14.below hb
    have h_pd_15 := h_pd_14.below hb
    have h_p_15 := h_p_14.later hb
    have h_ln_15 := h_ln_14.below hb
    have h_ld_15 := h_ld_14.below hb
    have h_l_15 := h_l_14.later hb
    clear hb B14 h_xn_14 h_xd_14 h_x_14 h_yn_14 h_yd_14 h_y_14 h_pn_14 h_pd_14 h_p_14 h_ln_14 h_ld_14 h_l_14
    go_wp2_with fail
    have c := wakes_any w15
    refine c.mono ?_
    rintro e w16 ⟨rfl, hb⟩
    clear c
    have B16 := B15.trans (hb.mono B15.size)
    have h_xn_16 := h_xn_15.below hb
    have h_xd_16 := h_xd_15.below hb
    have h_x_16 := h_x_15.later hb
    have h_yn_16 := h_yn_15.below hb
    have h_yd_16 := h_yd_15.below hb
    have h_y_16 := h_y_15.later hb
    have h_pn_16 := h_pn_15.below hb
    have h_pd_16 := h_pd_15.below hb
    have h_p_16 := h_p_15.later hb
    have h_ln_16 := h_ln_15.below hb
    have h_ld_16 := h_ld_15.below hb
    have h_l_16 := h_l_15.later hb
    clear hb B15 h_xn_15 h_xd_15 h_x_15 h_yn_15 h_yd_15 h_y_15 h_pn_15 h_pd_15 h_p_15 h_ln_15 h_ld_15 h_l_15
    go_wp2_with fail
    go_ret
    exact ⟨rfl, B16⟩
  have sn : ¬ s = 0 := fun h => m0 (sz.1 h)
  have e1 : (s == 0) = false := beq_eq_false_iff_ne.2 sn
  have e2 : (s != 0) = true := by rw [bne_iff_ne]; exact sn
  by_cases ok2 : q + 1 ≤ 1000000000000000
  case pos =>
    obtain ⟨q', hq'⟩ : ∃ q', q' = q + 1 := ⟨_, rfl⟩
    have UP := Lib.hid (show upQ (A : Int) (B : Int) = ((q' : Int), 0) by rw [up, if_neg m0, ← hq', tellN, if_pos (by omega)])
    have n1 : ((q' : Int) != (q : Int)) = true := by rw [bne_iff_ne]; omega
    have n1n : (q' != q) = true := by rw [bne_iff_ne]; omega
    have n2 : ((q' : Int) == (q : Int)) = false := beq_eq_false_iff_ne.2 (by omega)
    have n2n : (q' == q) = false := beq_eq_false_iff_ne.2 (by omega)
    have w1 : IntKind.i64.wrap ((q : Int) + 1) = (q' : Int) := by rw [wrap_i64 (by omega) (by omega)]; omega
    have w1' : wrap64 ((q : Int) + 1) = (q' : Int) := by simp only [wrap64]; omega
    clear up m0 sz ED ml ok ok2 b_A b_B ab48 sn hq'
    go_enter Try.func8, Try.ntmps8
    go_wp2_with fail
    have c := qratio_any w A i_a
    rw [RA.out] at c
    refine c.mono ?_
    rintro e w1 ⟨a_x, n_x, c_x, b_x, m_x, d_x, rfl, h_xn_1, h_xd_1, hb⟩
    clear c
    have B1 := B0.trans (hb.mono B0.size)
    clear hb B0
    have hb := below_al w1 (.cells #[.bool ((fr A 1000000000)).neg, .slice a_x n_x c_x, .slice b_x m_x d_x] 27)
    have B2 := B1.trans (hb.mono B1.size)
    have h_xn_2 := h_xn_1.below hb
    have h_xd_2 := h_xd_1.below hb
    clear hb B1 h_xn_1 h_xd_1
    have h_x_2 := Has.new w1 #[.bool ((fr A 1000000000)).neg, .slice a_x n_x c_x, .slice b_x m_x d_x] 27
    go_wp2_with first | refine wpList_store_new rfl 27 _ _ rfl atRat _ _ _ rfl rfl rfl rfl (rat_one _ _ _ _ _ _ _) ?_
    generalize (w1.alloc (.cells #[.bool ((fr A 1000000000)).neg, .slice a_x n_x c_x, .slice b_x m_x d_x] 27)) = w2 at *
    have c := qratio_any w2 B i_b
    rw [RB.out] at c
    refine c.mono ?_
    rintro e w3 ⟨a_y, n_y, c_y, b_y, m_y, d_y, rfl, h_yn_3, h_yd_3, hb⟩
    clear c
    have B3 := B2.trans (hb.mono B2.size)
    have h_xn_3 := h_xn_2.below hb
    have h_xd_3 := h_xd_2.below hb
    have h_x_3 := h_x_2.later hb
    clear hb B2 h_xn_2 h_xd_2 h_x_2
    have hb := below_al w3 (.cells #[.bool ((fr B 1000000000)).neg, .slice a_y n_y c_y, .slice b_y m_y d_y] 27)
    have B4 := B3.trans (hb.mono B3.size)
    have h_xn_4 := h_xn_3.below hb
    have h_xd_4 := h_xd_3.below hb
    have h_x_4 := h_x_3.later hb
    have h_yn_4 := h_yn_3.below hb
    have h_yd_4 := h_yd_3.below hb
    clear hb B3 h_xn_3 h_xd_3 h_x_3 h_yn_3 h_yd_3
    have h_y_4 := Has.new w3 #[.bool ((fr B 1000000000)).neg, .slice a_y n_y c_y, .slice b_y m_y d_y] 27
    go_wp2_with first | refine wpList_store_new rfl 27 _ _ rfl atRat _ _ _ rfl rfl rfl rfl (rat_one _ _ _ _ _ _ _) ?_
    generalize (w3.alloc (.cells #[.bool ((fr B 1000000000)).neg, .slice a_y n_y c_y, .slice b_y m_y d_y] 27)) = w4 at *
    have c := down_any w4 A B i_a i_b
    rw [DN.out] at c
    refine c.mono ?_
    rintro e w5 ⟨rfl, hb⟩
    clear c
    have B5 := B4.trans (hb.mono B4.size)
    have h_xn_5 := h_xn_4.below hb
    have h_xd_5 := h_xd_4.below hb
    have h_x_5 := h_x_4.later hb
    have h_yn_5 := h_yn_4.below hb
    have h_yd_5 := h_yd_4.below hb
    have h_y_5 := h_y_4.later hb
    clear hb B4 h_xn_4 h_xd_4 h_x_4 h_yn_4 h_yd_4 h_y_4
    go_wp2_with fail
    have c := up_any w5 A B i_a i_b
    rw [UP.out] at c
    refine c.mono ?_
    rintro e w6 ⟨rfl, hb⟩
    clear c
    have B6 := B5.trans (hb.mono B5.size)
    have h_xn_6 := h_xn_5.below hb
    have h_xd_6 := h_xd_5.below hb
    have h_x_6 := h_x_5.later hb
    have h_yn_6 := h_yn_5.below hb
    have h_yd_6 := h_yd_5.below hb
    have h_y_6 := h_y_5.later hb
    clear hb B5 h_xn_5 h_xd_5 h_x_5 h_yn_5 h_yd_5 h_y_5
    have k_x_0 := h_x_6.cell 0 _ rfl
    have k_x_1 := h_x_6.cell 1 _ rfl
    have k_x_2 := h_x_6.cell 2 _ rfl
    have k_y_0 := h_y_6.cell 0 _ rfl
    have k_y_1 := h_y_6.cell 1 _ rfl
    have k_y_2 := h_y_6.cell 2 _ rfl
    go_wp2_with fail
    clear k_x_0 k_x_1 k_x_2 k_y_0 k_y_1 k_y_2
    have c := ratMul_any w6 (g1 := (fr A 1000000000).neg) (g2 := (fr B 1000000000).neg) h_xn_6 h_xd_6 h_yn_6 h_yd_6
    rw [show (⟨(fr A 1000000000).neg, (fr A 1000000000).num, (fr A 1000000000).den⟩ : QV) = fr A 1000000000 from rfl] at c
    rw [show (⟨(fr B 1000000000).neg, (fr B 1000000000).num, (fr B 1000000000).den⟩ : QV) = fr B 1000000000 from rfl] at c
    rw [MU.out] at c
    refine c.mono ?_
    rintro e w7 ⟨a_p, n_p, c_p, b_p, m_p, d_p, rfl, h_pn_7, h_pd_7, hb⟩
    clear c
    have B7 := B6.trans (hb.mono B6.size)
    have h_xn_7 := h_xn_6.below hb
    have h_xd_7 := h_xd_6.below hb
    have h_x_7 := h_x_6.later hb
    have h_yn_7 := h_yn_6.below hb
    have h_yd_7 := h_yd_6.below hb
    have h_y_7 := h_y_6.later hb
    clear hb B6 h_xn_6 h_xd_6 h_x_6 h_yn_6 h_yd_6 h_y_6
    have hb := below_al w7 (.cells #[.bool ((fr P (1000000000 * 1000000000))).neg, .slice a_p n_p c_p, .slice b_p m_p d_p] 27)
    have B8 := B7.trans (hb.mono B7.size)
    have h_xn_8 := h_xn_7.below hb
    have h_xd_8 := h_xd_7.below hb
    have h_x_8 := h_x_7.later hb
    have h_yn_8 := h_yn_7.below hb
    have h_yd_8 := h_yd_7.below hb
    have h_y_8 := h_y_7.later hb
    have h_pn_8 := h_pn_7.below hb
    have h_pd_8 := h_pd_7.below hb
    clear hb B7 h_xn_7 h_xd_7 h_x_7 h_yn_7 h_yd_7 h_y_7 h_pn_7 h_pd_7
    have h_p_8 := Has.new w7 #[.bool ((fr P (1000000000 * 1000000000))).neg, .slice a_p n_p c_p, .slice b_p m_p d_p] 27
    have k_p_0 := h_p_8.cell 0 _ rfl
    have k_p_1 := h_p_8.cell 1 _ rfl
    have k_p_2 := h_p_8.cell 2 _ rfl
    go_wp2_with first | refine wpList_store_new rfl 27 _ _ rfl atRat _ _ _ rfl rfl rfl rfl (rat_one _ _ _ _ _ _ _) ?_
    clear k_p_0 k_p_1 k_p_2
    generalize (w7.alloc (.cells #[.bool ((fr P (1000000000 * 1000000000))).neg, .slice a_p n_p c_p, .slice b_p m_p d_p] 27)) = w8 at *
    have c := bill_any w8 (g := (fr P (1000000000 * 1000000000)).neg) h_pn_8 h_pd_8
    rw [show (⟨(fr P (1000000000 * 1000000000)).neg, (fr P (1000000000 * 1000000000)).num, (fr P (1000000000 * 1000000000)).den⟩ : QV) = fr P (1000000000 * 1000000000) from rfl] at c
    rw [BL.out] at c
    refine c.mono ?_
    rintro e w9 ⟨rfl, hb⟩
    clear c
    have B9 := B8.trans (hb.mono B8.size)
    have h_xn_9 := h_xn_8.below hb
    have h_xd_9 := h_xd_8.below hb
    have h_x_9 := h_x_8.later hb
    have h_yn_9 := h_yn_8.below hb
    have h_yd_9 := h_yd_8.below hb
    have h_y_9 := h_y_8.later hb
    have h_pn_9 := h_pn_8.below hb
    have h_pd_9 := h_pd_8.below hb
    have h_p_9 := h_p_8.later hb
    clear hb B8 h_xn_8 h_xd_8 h_x_8 h_yn_8 h_yd_8 h_y_8 h_pn_8 h_pd_8 h_p_8
    go_wp2_with fail
    have c := qratio_any w9 q i_q
    rw [RQ.out] at c
    refine c.mono ?_
    rintro e w10 ⟨a_l, n_l, c_l, b_l, m_l, d_l, rfl, h_ln_10, h_ld_10, hb⟩
    clear c
    have B10 := B9.trans (hb.mono B9.size)
    have h_xn_10 := h_xn_9.below hb
    have h_xd_10 := h_xd_9.below hb
    have h_x_10 := h_x_9.later hb
    have h_yn_10 := h_yn_9.below hb
    have h_yd_10 := h_yd_9.below hb
    have h_y_10 := h_y_9.later hb
    have h_pn_10 := h_pn_9.below hb
    have h_pd_10 := h_pd_9.below hb
    have h_p_10 := h_p_9.later hb
    clear hb B9 h_xn_9 h_xd_9 h_x_9 h_yn_9 h_yd_9 h_y_9 h_pn_9 h_pd_9 h_p_9
    have hb := below_al w10 (.cells #[.bool ((fr q 1000000000)).neg, .slice a_l n_l c_l, .slice b_l m_l d_l] 27)
    have B11 := B10.trans (hb.mono B10.size)
    have h_xn_11 := h_xn_10.below hb
    have h_xd_11 := h_xd_10.below hb
    have h_x_11 := h_x_10.later hb
    have h_yn_11 := h_yn_10.below hb
    have h_yd_11 := h_yd_10.below hb
    have h_y_11 := h_y_10.later hb
    have h_pn_11 := h_pn_10.below hb
    have h_pd_11 := h_pd_10.below hb
    have h_p_11 := h_p_10.later hb
    have h_ln_11 := h_ln_10.below hb
    have h_ld_11 := h_ld_10.below hb
    clear hb B10 h_xn_10 h_xd_10 h_x_10 h_yn_10 h_yd_10 h_y_10 h_pn_10 h_pd_10 h_p_10 h_ln_10 h_ld_10
    have h_l_11 := Has.new w10 #[.bool ((fr q 1000000000)).neg, .slice a_l n_l c_l, .slice b_l m_l d_l] 27
    have k_l_0 := h_l_11.cell 0 _ rfl
    have k_l_1 := h_l_11.cell 1 _ rfl
    have k_l_2 := h_l_11.cell 2 _ rfl
    have k_p_0 := h_p_11.cell 0 _ rfl
    have k_p_1 := h_p_11.cell 1 _ rfl
    have k_p_2 := h_p_11.cell 2 _ rfl
    go_wp2_with first | refine wpList_store_new rfl 27 _ _ rfl atRat _ _ _ rfl rfl rfl rfl (rat_one _ _ _ _ _ _ _) ?_
    clear k_l_0 k_l_1 k_l_2 k_p_0 k_p_1 k_p_2
    generalize (w10.alloc (.cells #[.bool ((fr q 1000000000)).neg, .slice a_l n_l c_l, .slice b_l m_l d_l] 27)) = w11 at *
    have c := ratCmp_any w11 (g1 := (fr q 1000000000).neg) (g2 := (fr P (1000000000 * 1000000000)).neg) h_ln_11 h_ld_11 h_pn_11 h_pd_11
    rw [show (⟨(fr q 1000000000).neg, (fr q 1000000000).num, (fr q 1000000000).den⟩ : QV) = fr q 1000000000 from rfl] at c
    rw [show (⟨(fr P (1000000000 * 1000000000)).neg, (fr P (1000000000 * 1000000000)).num, (fr P (1000000000 * 1000000000)).den⟩ : QV) = fr P (1000000000 * 1000000000) from rfl] at c
    rw [CS.out] at c
    refine c.mono ?_
    rintro e w12 ⟨rfl, hb⟩
    clear c
    have B12 := B11.trans (hb.mono B11.size)
    have h_xn_12 := h_xn_11.below hb
    have h_xd_12 := h_xd_11.below hb
    have h_x_12 := h_x_11.later hb
    have h_yn_12 := h_yn_11.below hb
    have h_yd_12 := h_yd_11.below hb
    have h_y_12 := h_y_11.later hb
    have h_pn_12 := h_pn_11.below hb
    have h_pd_12 := h_pd_11.below hb
    have h_p_12 := h_p_11.later hb
    have h_ln_12 := h_ln_11.below hb
    have h_ld_12 := h_ld_11.below hb
    have h_l_12 := h_l_11.later hb
    clear hb B11 h_xn_11 h_xd_11 h_x_11 h_yn_11 h_yd_11 h_y_11 h_pn_11 h_pd_11 h_p_11 h_ln_11 h_ld_11 h_l_11
    go_wp2_with fail
    have c := down_any w12 B A i_b i_a
    rw [D2.out] at c
    refine c.mono ?_
    rintro e w13 ⟨rfl, hb⟩
    clear c
    have B13 := B12.trans (hb.mono B12.size)
    have h_xn_13 := h_xn_12.below hb
    have h_xd_13 := h_xd_12.below hb
    have h_x_13 := h_x_12.later hb
    have h_yn_13 := h_yn_12.below hb
    have h_yd_13 := h_yd_12.below hb
    have h_y_13 := h_y_12.later hb
    have h_pn_13 := h_pn_12.below hb
    have h_pd_13 := h_pd_12.below hb
    have h_p_13 := h_p_12.later hb
    have h_ln_13 := h_ln_12.below hb
    have h_ld_13 := h_ld_12.below hb
    have h_l_13 := h_l_12.later hb
    clear hb B12 h_xn_12 h_xd_12 h_x_12 h_yn_12 h_yd_12 h_y_12 h_pn_12 h_pd_12 h_p_12 h_ln_12 h_ld_12 h_l_12
    go_wp2_with fail
    have c := down_any w13 A 1000000000 i_a i_U
    rw [ON.out] at c
    refine c.mono ?_
    rintro e w14 ⟨rfl, hb⟩
    clear c
    have B14 := B13.trans (hb.mono B13.size)
    have h_xn_14 := h_xn_13.below hb
    have h_xd_14 := h_xd_13.below hb
    have h_x_14 := h_x_13.later hb
    have h_yn_14 := h_yn_13.below hb
    have h_yd_14 := h_yd_13.below hb
    have h_y_14 := h_y_13.later hb
    have h_pn_14 := h_pn_13.below hb
    have h_pd_14 := h_pd_13.below hb
    have h_p_14 := h_p_13.later hb
    have h_ln_14 := h_ln_13.below hb
    have h_ld_14 := h_ld_13.below hb
    have h_l_14 := h_l_13.later hb
    clear hb B13 h_xn_13 h_xd_13 h_x_13 h_yn_13 h_yd_13 h_y_13 h_pn_13 h_pd_13 h_p_13 h_ln_13 h_ld_13 h_l_13
    go_wp2_with fail
    have c := up_any w14 A 1000000000 i_a i_U
    rw [SM.out] at c
    refine c.mono ?_
    rintro e w15 ⟨rfl, hb⟩
    clear c
    have B15 := B14.trans (hb.mono B14.size)
    have h_xn_15 := h_xn_14.below hb
    have h_xd_15 := h_xd_14.below hb
    have h_x_15 := h_x_14.later hb
    have h_yn_15 := h_yn_14.below hb
    have h_yd_15 := h_yd_14.below hb
    have h_y_15 := h_y_14.later hb
    have h_pn_15 := h_pn_14.below hb
    have h_pd_15 := h_pd_14.below hb
    have h_p_15 := h_p_14.later hb
    have h_ln_15 := h_ln_14.below hb
    have h_ld_15 := h_ld_14.below hb
    have h_l_15 := h_l_14.later hb
    clear hb B14 h_xn_14 h_xd_14 h_x_14 h_yn_14 h_yd_14 h_y_14 h_pn_14 h_pd_14 h_p_14 h_ln_14 h_ld_14 h_l_14
    go_wp2_with fail
    have c := wakes_any w15
    refine c.mono ?_
    rintro e w16 ⟨rfl, hb⟩
    clear c
    have B16 := B15.trans (hb.mono B15.size)
    have h_xn_16 := h_xn_15.below hb
    have h_xd_16 := h_xd_15.below hb
    have h_x_16 := h_x_15.later hb
    have h_yn_16 := h_yn_15.below hb
    have h_yd_16 := h_yd_15.below hb
    have h_y_16 := h_y_15.later hb
    have h_pn_16 := h_pn_15.below hb
    have h_pd_16 := h_pd_15.below hb
    have h_p_16 := h_p_15.later hb
    have h_ln_16 := h_ln_15.below hb
    have h_ld_16 := h_ld_15.below hb
    have h_l_16 := h_l_15.later hb
    clear hb B15 h_xn_15 h_xd_15 h_x_15 h_yn_15 h_yd_15 h_y_15 h_pn_15 h_pd_15 h_p_15 h_ln_15 h_ld_15 h_l_15
    go_wp2_with fail
    go_ret
    exact ⟨rfl, B16⟩
  have qX : q = 1000000000000000 := by omega
  have n3 : ((q : Int) != 1000000000000000) = false := by rw [bne_eq_false_iff_eq]; omega
  have UP := Lib.hid (show upQ (A : Int) (B : Int) = (0, 30) by rw [up, if_neg m0, tellN, if_neg ok2])
  clear up m0 sz ED ml ok ok2 b_A b_B ab48 sn qX
  go_enter Try.func8, Try.ntmps8
  go_wp2_with fail
  have c := qratio_any w A i_a
  rw [RA.out] at c
  refine c.mono ?_
  rintro e w1 ⟨a_x, n_x, c_x, b_x, m_x, d_x, rfl, h_xn_1, h_xd_1, hb⟩
  clear c
  have B1 := B0.trans (hb.mono B0.size)
  clear hb B0
  have hb := below_al w1 (.cells #[.bool ((fr A 1000000000)).neg, .slice a_x n_x c_x, .slice b_x m_x d_x] 27)
  have B2 := B1.trans (hb.mono B1.size)
  have h_xn_2 := h_xn_1.below hb
  have h_xd_2 := h_xd_1.below hb
  clear hb B1 h_xn_1 h_xd_1
  have h_x_2 := Has.new w1 #[.bool ((fr A 1000000000)).neg, .slice a_x n_x c_x, .slice b_x m_x d_x] 27
  go_wp2_with first | refine wpList_store_new rfl 27 _ _ rfl atRat _ _ _ rfl rfl rfl rfl (rat_one _ _ _ _ _ _ _) ?_
  generalize (w1.alloc (.cells #[.bool ((fr A 1000000000)).neg, .slice a_x n_x c_x, .slice b_x m_x d_x] 27)) = w2 at *
  have c := qratio_any w2 B i_b
  rw [RB.out] at c
  refine c.mono ?_
  rintro e w3 ⟨a_y, n_y, c_y, b_y, m_y, d_y, rfl, h_yn_3, h_yd_3, hb⟩
  clear c
  have B3 := B2.trans (hb.mono B2.size)
  have h_xn_3 := h_xn_2.below hb
  have h_xd_3 := h_xd_2.below hb
  have h_x_3 := h_x_2.later hb
  clear hb B2 h_xn_2 h_xd_2 h_x_2
  have hb := below_al w3 (.cells #[.bool ((fr B 1000000000)).neg, .slice a_y n_y c_y, .slice b_y m_y d_y] 27)
  have B4 := B3.trans (hb.mono B3.size)
  have h_xn_4 := h_xn_3.below hb
  have h_xd_4 := h_xd_3.below hb
  have h_x_4 := h_x_3.later hb
  have h_yn_4 := h_yn_3.below hb
  have h_yd_4 := h_yd_3.below hb
  clear hb B3 h_xn_3 h_xd_3 h_x_3 h_yn_3 h_yd_3
  have h_y_4 := Has.new w3 #[.bool ((fr B 1000000000)).neg, .slice a_y n_y c_y, .slice b_y m_y d_y] 27
  go_wp2_with first | refine wpList_store_new rfl 27 _ _ rfl atRat _ _ _ rfl rfl rfl rfl (rat_one _ _ _ _ _ _ _) ?_
  generalize (w3.alloc (.cells #[.bool ((fr B 1000000000)).neg, .slice a_y n_y c_y, .slice b_y m_y d_y] 27)) = w4 at *
  have c := down_any w4 A B i_a i_b
  rw [DN.out] at c
  refine c.mono ?_
  rintro e w5 ⟨rfl, hb⟩
  clear c
  have B5 := B4.trans (hb.mono B4.size)
  have h_xn_5 := h_xn_4.below hb
  have h_xd_5 := h_xd_4.below hb
  have h_x_5 := h_x_4.later hb
  have h_yn_5 := h_yn_4.below hb
  have h_yd_5 := h_yd_4.below hb
  have h_y_5 := h_y_4.later hb
  clear hb B4 h_xn_4 h_xd_4 h_x_4 h_yn_4 h_yd_4 h_y_4
  go_wp2_with fail
  have c := up_any w5 A B i_a i_b
  rw [UP.out] at c
  refine c.mono ?_
  rintro e w6 ⟨rfl, hb⟩
  clear c
  have B6 := B5.trans (hb.mono B5.size)
  have h_xn_6 := h_xn_5.below hb
  have h_xd_6 := h_xd_5.below hb
  have h_x_6 := h_x_5.later hb
  have h_yn_6 := h_yn_5.below hb
  have h_yd_6 := h_yd_5.below hb
  have h_y_6 := h_y_5.later hb
  clear hb B5 h_xn_5 h_xd_5 h_x_5 h_yn_5 h_yd_5 h_y_5
  have k_x_0 := h_x_6.cell 0 _ rfl
  have k_x_1 := h_x_6.cell 1 _ rfl
  have k_x_2 := h_x_6.cell 2 _ rfl
  have k_y_0 := h_y_6.cell 0 _ rfl
  have k_y_1 := h_y_6.cell 1 _ rfl
  have k_y_2 := h_y_6.cell 2 _ rfl
  go_wp2_with fail
  clear k_x_0 k_x_1 k_x_2 k_y_0 k_y_1 k_y_2
  have c := ratMul_any w6 (g1 := (fr A 1000000000).neg) (g2 := (fr B 1000000000).neg) h_xn_6 h_xd_6 h_yn_6 h_yd_6
  rw [show (⟨(fr A 1000000000).neg, (fr A 1000000000).num, (fr A 1000000000).den⟩ : QV) = fr A 1000000000 from rfl] at c
  rw [show (⟨(fr B 1000000000).neg, (fr B 1000000000).num, (fr B 1000000000).den⟩ : QV) = fr B 1000000000 from rfl] at c
  rw [MU.out] at c
  refine c.mono ?_
  rintro e w7 ⟨a_p, n_p, c_p, b_p, m_p, d_p, rfl, h_pn_7, h_pd_7, hb⟩
  clear c
  have B7 := B6.trans (hb.mono B6.size)
  have h_xn_7 := h_xn_6.below hb
  have h_xd_7 := h_xd_6.below hb
  have h_x_7 := h_x_6.later hb
  have h_yn_7 := h_yn_6.below hb
  have h_yd_7 := h_yd_6.below hb
  have h_y_7 := h_y_6.later hb
  clear hb B6 h_xn_6 h_xd_6 h_x_6 h_yn_6 h_yd_6 h_y_6
  have hb := below_al w7 (.cells #[.bool ((fr P (1000000000 * 1000000000))).neg, .slice a_p n_p c_p, .slice b_p m_p d_p] 27)
  have B8 := B7.trans (hb.mono B7.size)
  have h_xn_8 := h_xn_7.below hb
  have h_xd_8 := h_xd_7.below hb
  have h_x_8 := h_x_7.later hb
  have h_yn_8 := h_yn_7.below hb
  have h_yd_8 := h_yd_7.below hb
  have h_y_8 := h_y_7.later hb
  have h_pn_8 := h_pn_7.below hb
  have h_pd_8 := h_pd_7.below hb
  clear hb B7 h_xn_7 h_xd_7 h_x_7 h_yn_7 h_yd_7 h_y_7 h_pn_7 h_pd_7
  have h_p_8 := Has.new w7 #[.bool ((fr P (1000000000 * 1000000000))).neg, .slice a_p n_p c_p, .slice b_p m_p d_p] 27
  have k_p_0 := h_p_8.cell 0 _ rfl
  have k_p_1 := h_p_8.cell 1 _ rfl
  have k_p_2 := h_p_8.cell 2 _ rfl
  go_wp2_with first | refine wpList_store_new rfl 27 _ _ rfl atRat _ _ _ rfl rfl rfl rfl (rat_one _ _ _ _ _ _ _) ?_
  clear k_p_0 k_p_1 k_p_2
  generalize (w7.alloc (.cells #[.bool ((fr P (1000000000 * 1000000000))).neg, .slice a_p n_p c_p, .slice b_p m_p d_p] 27)) = w8 at *
  have c := bill_any w8 (g := (fr P (1000000000 * 1000000000)).neg) h_pn_8 h_pd_8
  rw [show (⟨(fr P (1000000000 * 1000000000)).neg, (fr P (1000000000 * 1000000000)).num, (fr P (1000000000 * 1000000000)).den⟩ : QV) = fr P (1000000000 * 1000000000) from rfl] at c
  rw [BL.out] at c
  refine c.mono ?_
  rintro e w9 ⟨rfl, hb⟩
  clear c
  have B9 := B8.trans (hb.mono B8.size)
  have h_xn_9 := h_xn_8.below hb
  have h_xd_9 := h_xd_8.below hb
  have h_x_9 := h_x_8.later hb
  have h_yn_9 := h_yn_8.below hb
  have h_yd_9 := h_yd_8.below hb
  have h_y_9 := h_y_8.later hb
  have h_pn_9 := h_pn_8.below hb
  have h_pd_9 := h_pd_8.below hb
  have h_p_9 := h_p_8.later hb
  clear hb B8 h_xn_8 h_xd_8 h_x_8 h_yn_8 h_yd_8 h_y_8 h_pn_8 h_pd_8 h_p_8
  go_wp2_with fail
  have c := qratio_any w9 q i_q
  rw [RQ.out] at c
  refine c.mono ?_
  rintro e w10 ⟨a_l, n_l, c_l, b_l, m_l, d_l, rfl, h_ln_10, h_ld_10, hb⟩
  clear c
  have B10 := B9.trans (hb.mono B9.size)
  have h_xn_10 := h_xn_9.below hb
  have h_xd_10 := h_xd_9.below hb
  have h_x_10 := h_x_9.later hb
  have h_yn_10 := h_yn_9.below hb
  have h_yd_10 := h_yd_9.below hb
  have h_y_10 := h_y_9.later hb
  have h_pn_10 := h_pn_9.below hb
  have h_pd_10 := h_pd_9.below hb
  have h_p_10 := h_p_9.later hb
  clear hb B9 h_xn_9 h_xd_9 h_x_9 h_yn_9 h_yd_9 h_y_9 h_pn_9 h_pd_9 h_p_9
  have hb := below_al w10 (.cells #[.bool ((fr q 1000000000)).neg, .slice a_l n_l c_l, .slice b_l m_l d_l] 27)
  have B11 := B10.trans (hb.mono B10.size)
  have h_xn_11 := h_xn_10.below hb
  have h_xd_11 := h_xd_10.below hb
  have h_x_11 := h_x_10.later hb
  have h_yn_11 := h_yn_10.below hb
  have h_yd_11 := h_yd_10.below hb
  have h_y_11 := h_y_10.later hb
  have h_pn_11 := h_pn_10.below hb
  have h_pd_11 := h_pd_10.below hb
  have h_p_11 := h_p_10.later hb
  have h_ln_11 := h_ln_10.below hb
  have h_ld_11 := h_ld_10.below hb
  clear hb B10 h_xn_10 h_xd_10 h_x_10 h_yn_10 h_yd_10 h_y_10 h_pn_10 h_pd_10 h_p_10 h_ln_10 h_ld_10
  have h_l_11 := Has.new w10 #[.bool ((fr q 1000000000)).neg, .slice a_l n_l c_l, .slice b_l m_l d_l] 27
  have k_l_0 := h_l_11.cell 0 _ rfl
  have k_l_1 := h_l_11.cell 1 _ rfl
  have k_l_2 := h_l_11.cell 2 _ rfl
  have k_p_0 := h_p_11.cell 0 _ rfl
  have k_p_1 := h_p_11.cell 1 _ rfl
  have k_p_2 := h_p_11.cell 2 _ rfl
  go_wp2_with first | refine wpList_store_new rfl 27 _ _ rfl atRat _ _ _ rfl rfl rfl rfl (rat_one _ _ _ _ _ _ _) ?_
  clear k_l_0 k_l_1 k_l_2 k_p_0 k_p_1 k_p_2
  generalize (w10.alloc (.cells #[.bool ((fr q 1000000000)).neg, .slice a_l n_l c_l, .slice b_l m_l d_l] 27)) = w11 at *
  have c := ratCmp_any w11 (g1 := (fr q 1000000000).neg) (g2 := (fr P (1000000000 * 1000000000)).neg) h_ln_11 h_ld_11 h_pn_11 h_pd_11
  rw [show (⟨(fr q 1000000000).neg, (fr q 1000000000).num, (fr q 1000000000).den⟩ : QV) = fr q 1000000000 from rfl] at c
  rw [show (⟨(fr P (1000000000 * 1000000000)).neg, (fr P (1000000000 * 1000000000)).num, (fr P (1000000000 * 1000000000)).den⟩ : QV) = fr P (1000000000 * 1000000000) from rfl] at c
  rw [CS.out] at c
  refine c.mono ?_
  rintro e w12 ⟨rfl, hb⟩
  clear c
  have B12 := B11.trans (hb.mono B11.size)
  have h_xn_12 := h_xn_11.below hb
  have h_xd_12 := h_xd_11.below hb
  have h_x_12 := h_x_11.later hb
  have h_yn_12 := h_yn_11.below hb
  have h_yd_12 := h_yd_11.below hb
  have h_y_12 := h_y_11.later hb
  have h_pn_12 := h_pn_11.below hb
  have h_pd_12 := h_pd_11.below hb
  have h_p_12 := h_p_11.later hb
  have h_ln_12 := h_ln_11.below hb
  have h_ld_12 := h_ld_11.below hb
  have h_l_12 := h_l_11.later hb
  clear hb B11 h_xn_11 h_xd_11 h_x_11 h_yn_11 h_yd_11 h_y_11 h_pn_11 h_pd_11 h_p_11 h_ln_11 h_ld_11 h_l_11
  go_wp2_with fail
  have c := down_any w12 B A i_b i_a
  rw [D2.out] at c
  refine c.mono ?_
  rintro e w13 ⟨rfl, hb⟩
  clear c
  have B13 := B12.trans (hb.mono B12.size)
  have h_xn_13 := h_xn_12.below hb
  have h_xd_13 := h_xd_12.below hb
  have h_x_13 := h_x_12.later hb
  have h_yn_13 := h_yn_12.below hb
  have h_yd_13 := h_yd_12.below hb
  have h_y_13 := h_y_12.later hb
  have h_pn_13 := h_pn_12.below hb
  have h_pd_13 := h_pd_12.below hb
  have h_p_13 := h_p_12.later hb
  have h_ln_13 := h_ln_12.below hb
  have h_ld_13 := h_ld_12.below hb
  have h_l_13 := h_l_12.later hb
  clear hb B12 h_xn_12 h_xd_12 h_x_12 h_yn_12 h_yd_12 h_y_12 h_pn_12 h_pd_12 h_p_12 h_ln_12 h_ld_12 h_l_12
  go_wp2_with fail
  have c := down_any w13 A 1000000000 i_a i_U
  rw [ON.out] at c
  refine c.mono ?_
  rintro e w14 ⟨rfl, hb⟩
  clear c
  have B14 := B13.trans (hb.mono B13.size)
  have h_xn_14 := h_xn_13.below hb
  have h_xd_14 := h_xd_13.below hb
  have h_x_14 := h_x_13.later hb
  have h_yn_14 := h_yn_13.below hb
  have h_yd_14 := h_yd_13.below hb
  have h_y_14 := h_y_13.later hb
  have h_pn_14 := h_pn_13.below hb
  have h_pd_14 := h_pd_13.below hb
  have h_p_14 := h_p_13.later hb
  have h_ln_14 := h_ln_13.below hb
  have h_ld_14 := h_ld_13.below hb
  have h_l_14 := h_l_13.later hb
  clear hb B13 h_xn_13 h_xd_13 h_x_13 h_yn_13 h_yd_13 h_y_13 h_pn_13 h_pd_13 h_p_13 h_ln_13 h_ld_13 h_l_13
  go_wp2_with fail
  have c := up_any w14 A 1000000000 i_a i_U
  rw [SM.out] at c
  refine c.mono ?_
  rintro e w15 ⟨rfl, hb⟩
  clear c
  have B15 := B14.trans (hb.mono B14.size)
  have h_xn_15 := h_xn_14.below hb
  have h_xd_15 := h_xd_14.below hb
  have h_x_15 := h_x_14.later hb
  have h_yn_15 := h_yn_14.below hb
  have h_yd_15 := h_yd_14.below hb
  have h_y_15 := h_y_14.later hb
  have h_pn_15 := h_pn_14.below hb
  have h_pd_15 := h_pd_14.below hb
  have h_p_15 := h_p_14.later hb
  have h_ln_15 := h_ln_14.below hb
  have h_ld_15 := h_ld_14.below hb
  have h_l_15 := h_l_14.later hb
  clear hb B14 h_xn_14 h_xd_14 h_x_14 h_yn_14 h_yd_14 h_y_14 h_pn_14 h_pd_14 h_p_14 h_ln_14 h_ld_14 h_l_14
  go_wp2_with fail
  have c := wakes_any w15
  refine c.mono ?_
  rintro e w16 ⟨rfl, hb⟩
  clear c
  have B16 := B15.trans (hb.mono B15.size)
  have h_xn_16 := h_xn_15.below hb
  have h_xd_16 := h_xd_15.below hb
  have h_x_16 := h_x_15.later hb
  have h_yn_16 := h_yn_15.below hb
  have h_yd_16 := h_yd_15.below hb
  have h_y_16 := h_y_15.later hb
  have h_pn_16 := h_pn_15.below hb
  have h_pd_16 := h_pd_15.below hb
  have h_p_16 := h_p_15.later hb
  have h_ln_16 := h_ln_15.below hb
  have h_ld_16 := h_ld_15.below hb
  have h_l_16 := h_l_15.later hb
  clear hb B15 h_xn_15 h_xd_15 h_x_15 h_yn_15 h_yd_15 h_y_15 h_pn_15 h_pd_15 h_p_15 h_ln_15 h_ld_15 h_l_15
  go_wp2_with fail
  go_ret
  exact ⟨rfl, B16⟩

end Go.Proofs.Ytfcejgeckcoefaa
