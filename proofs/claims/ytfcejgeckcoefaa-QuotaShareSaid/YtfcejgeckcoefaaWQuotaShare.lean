/- The walk of the law QuotaShare: it returns true and turns nothing that was there. No condition. Printed by gen_quolaws.py. -/
import Derived.Test.YtfcejgeckcoefaaQuoG
import Derived.Test.YtfcejgeckcoefaaQuoH
import Derived.BigQuiet
import Derived.Deep.CutRange
namespace Go.Proofs.Ytfcejgeckcoefaa
open Go.RowKit Go.Suf
set_option linter.unusedVariables false
set_option linter.unusedSimpArgs false

theorem w64_small {x : Int} (h : -9223372036854775808 ≤ x) (h2 : x < 9223372036854775808) : wrap64 x = x := by
  simp only [wrap64]
  omega

theorem share_sum {A B C : Nat} (hC : 0 < C) (h : B ≤ C) : A * B / C + A * (C - B) / C ≤ A ∧ A ≤ A * B / C + A * (C - B) / C + 1 := by
  have e : A * B + A * (C - B) = A * C := by rw [← Nat.mul_add]; congr 1; omega
  have e1 := Nat.div_add_mod (A * B) C
  have e2 := Nat.div_add_mod (A * (C - B)) C
  have m1 := Nat.mod_lt (A * B) hC
  have m2 := Nat.mod_lt (A * (C - B)) hC
  generalize A * B % C = r1 at *
  generalize A * (C - B) % C = r2 at *
  generalize A * B / C = x at *
  generalize A * (C - B) / C = y at *
  have e3 : C * (x + y) + (r1 + r2) = C * A := by
    rw [Nat.mul_add, Nat.mul_comm C A, ← e]
    omega
  constructor
  · have h1 : C * (x + y) ≤ C * A := by omega
    exact Nat.le_of_mul_le_mul_left h1 hC
  · have h1 : C * A < C * (x + y + 2) := by
      rw [Nat.mul_add C (x + y) 2]
      omega
    have := Nat.lt_of_mul_lt_mul_left h1
    omega

theorem share_exact {A B C : Nat} (hC : 0 < C) : A * B * 1000000000 * 1000000000 / (1000000000 * 1000000000 * C) = A * B / C := by
  rw [Nat.mul_assoc (A * B), Nat.mul_comm (A * B) (1000000000 * 1000000000), Nat.mul_div_mul_left _ _ (by decide)]

theorem shareQ_nat {A B C : Nat} (a : A ≤ 1000000000000000) (b : B ≤ 1000000000000000) (c : C ≤ 1000000000000000) (hC : C ≠ 0) : shareQ A B C = tellN (A * B / C) := by
  rw [shareQ, if_pos ⟨by unfold inQ; omega, by unfold inQ; omega, by unfold inQ; omega⟩, if_neg (by omega)]
  rfl

set_option maxRecDepth 100000 in
set_option maxHeartbeats 8000000 in
theorem quotaShare_walk (w : World) (a : Int) (h_a1 : -9223372036854775808 ≤ a) (h_a2 : a ≤ 9223372036854775807) (b : Int) (h_b1 : -9223372036854775808 ≤ b) (h_b2 : b ≤ 9223372036854775807) (c : Int) (h_c1 : -9223372036854775808 ≤ c) (h_c2 : c ≤ 9223372036854775807) :
    Calls Try.prog 6 #[.int .i64 a, .int .i64 b, .int .i64 c] w fun e w' => e = .returned (.bool true) ∧ Below w.heap.size w w' := by
  have i_a : i64 a := ⟨h_a1, h_a2⟩
  have i_b : i64 b := ⟨h_b1, h_b2⟩
  have i_c : i64 c := ⟨h_c1, h_c2⟩
  have l_a : a < 9223372036854775808 := by omega
  have l_b : b < 9223372036854775808 := by omega
  have l_c : c < 9223372036854775808 := by omega
  have B0 : Below w.heap.size w w := Below.refl _ _
  by_cases q_a : inQ a
  case neg =>
    have n_a := q_a
    clear q_a
    have SH := Lib.hid (show shareQ a b c = (0, 2) by rw [shareQ, if_neg (fun h => n_a h.1)])
    have RN := Lib.hid (show ratQ a = (zeroV, 2) by rw [ratQ, if_neg n_a])
    clear  n_a
    go_enter Try.func6, Try.ntmps6
    go_wp2_with fail
    have c := share_any w a b c i_a i_b i_c
    rw [SH.out] at c
    refine c.mono ?_
    rintro e w1 ⟨rfl, hb⟩
    clear c
    have B1 := B0.trans (hb.mono B0.size)
    clear hb B0
    go_wp2_with fail
    have c := qratio_any w1 a i_a
    rw [RN.out] at c
    refine c.mono ?_
    rintro e w2 ⟨a_x, n_x, c_x, b_x, m_x, d_x, rfl, h_xn_2, h_xd_2, hb⟩
    clear c
    have B2 := B1.trans (hb.mono B1.size)
    clear hb B1
    have hb := below_al w2 (.cells #[.bool (zeroV).neg, .slice a_x n_x c_x, .slice b_x m_x d_x] 27)
    have B3 := B2.trans (hb.mono B2.size)
    have h_xn_3 := h_xn_2.below hb
    have h_xd_3 := h_xd_2.below hb
    clear hb B2 h_xn_2 h_xd_2
    have h_x_3 := Has.new w2 #[.bool (zeroV).neg, .slice a_x n_x c_x, .slice b_x m_x d_x] 27
    go_wp2_with first | refine wpList_store_new rfl 27 _ _ rfl atRat _ _ _ rfl rfl rfl rfl (rat_one _ _ _ _ _ _ _) ?_
    generalize (w2.alloc (.cells #[.bool (zeroV).neg, .slice a_x n_x c_x, .slice b_x m_x d_x] 27)) = w3 at *
    have c := qratio_any w3 b i_b
    refine c.mono ?_
    rintro e w4 ⟨a_y, n_y, c_y, b_y, m_y, d_y, rfl, h_yn_4, h_yd_4, hb⟩
    clear c
    have B4 := B3.trans (hb.mono B3.size)
    have h_xn_4 := h_xn_3.below hb
    have h_xd_4 := h_xd_3.below hb
    have h_x_4 := h_x_3.later hb
    clear hb B3 h_xn_3 h_xd_3 h_x_3
    have hb := below_al w4 (.cells #[.bool ((ratQ b).1).neg, .slice a_y n_y c_y, .slice b_y m_y d_y] 27)
    have B5 := B4.trans (hb.mono B4.size)
    have h_xn_5 := h_xn_4.below hb
    have h_xd_5 := h_xd_4.below hb
    have h_x_5 := h_x_4.later hb
    have h_yn_5 := h_yn_4.below hb
    have h_yd_5 := h_yd_4.below hb
    clear hb B4 h_xn_4 h_xd_4 h_x_4 h_yn_4 h_yd_4
    have h_y_5 := Has.new w4 #[.bool ((ratQ b).1).neg, .slice a_y n_y c_y, .slice b_y m_y d_y] 27
    go_wp2_with first | refine wpList_store_new rfl 27 _ _ rfl atRat _ _ _ rfl rfl rfl rfl (rat_one _ _ _ _ _ _ _) ?_
    generalize (w4.alloc (.cells #[.bool ((ratQ b).1).neg, .slice a_y n_y c_y, .slice b_y m_y d_y] 27)) = w5 at *
    have c := qratio_any w5 c i_c
    refine c.mono ?_
    rintro e w6 ⟨a_z, n_z, c_z, b_z, m_z, d_z, rfl, h_zn_6, h_zd_6, hb⟩
    clear c
    have B6 := B5.trans (hb.mono B5.size)
    have h_xn_6 := h_xn_5.below hb
    have h_xd_6 := h_xd_5.below hb
    have h_x_6 := h_x_5.later hb
    have h_yn_6 := h_yn_5.below hb
    have h_yd_6 := h_yd_5.below hb
    have h_y_6 := h_y_5.later hb
    clear hb B5 h_xn_5 h_xd_5 h_x_5 h_yn_5 h_yd_5 h_y_5
    have hb := below_al w6 (.cells #[.bool ((ratQ c).1).neg, .slice a_z n_z c_z, .slice b_z m_z d_z] 27)
    have B7 := B6.trans (hb.mono B6.size)
    have h_xn_7 := h_xn_6.below hb
    have h_xd_7 := h_xd_6.below hb
    have h_x_7 := h_x_6.later hb
    have h_yn_7 := h_yn_6.below hb
    have h_yd_7 := h_yd_6.below hb
    have h_y_7 := h_y_6.later hb
    have h_zn_7 := h_zn_6.below hb
    have h_zd_7 := h_zd_6.below hb
    clear hb B6 h_xn_6 h_xd_6 h_x_6 h_yn_6 h_yd_6 h_y_6 h_zn_6 h_zd_6
    have h_z_7 := Has.new w6 #[.bool ((ratQ c).1).neg, .slice a_z n_z c_z, .slice b_z m_z d_z] 27
    go_wp2_with first | refine wpList_store_new rfl 27 _ _ rfl atRat _ _ _ rfl rfl rfl rfl (rat_one _ _ _ _ _ _ _) ?_
    generalize (w6.alloc (.cells #[.bool ((ratQ c).1).neg, .slice a_z n_z c_z, .slice b_z m_z d_z] 27)) = w7 at *
    have c := wakes_any w7
    refine c.mono ?_
    rintro e w8 ⟨rfl, hb⟩
    clear c
    have B8 := B7.trans (hb.mono B7.size)
    have h_xn_8 := h_xn_7.below hb
    have h_xd_8 := h_xd_7.below hb
    have h_x_8 := h_x_7.later hb
    have h_yn_8 := h_yn_7.below hb
    have h_yd_8 := h_yd_7.below hb
    have h_y_8 := h_y_7.later hb
    have h_zn_8 := h_zn_7.below hb
    have h_zd_8 := h_zd_7.below hb
    have h_z_8 := h_z_7.later hb
    clear hb B7 h_xn_7 h_xd_7 h_x_7 h_yn_7 h_yd_7 h_y_7 h_zn_7 h_zd_7 h_z_7
    go_wp2_with fail
    go_ret
    exact ⟨rfl, B8⟩
  by_cases q_b : inQ b
  case neg =>
    have n_b := q_b
    clear q_b
    have SH := Lib.hid (show shareQ a b c = (0, 2) by rw [shareQ, if_neg (fun h => n_b h.2.1)])
    have RN := Lib.hid (show ratQ b = (zeroV, 2) by rw [ratQ, if_neg n_b])
    have R0 := Lib.hid (show (ratQ a).2 = 0 by rw [ratQ, if_pos q_a]; exact congrArg Prod.snd (ofC_pair (by decide)))
    obtain ⟨v0, hv0⟩ : ∃ v, v = (ratQ a).1 := ⟨_, rfl⟩
    have V0 := Lib.hid (show ratQ a = (v0, 0) from Prod.ext hv0.symm R0.out)
    clear hv0
    clear q_a n_b
    go_enter Try.func6, Try.ntmps6
    go_wp2_with fail
    have c := share_any w a b c i_a i_b i_c
    rw [SH.out] at c
    refine c.mono ?_
    rintro e w1 ⟨rfl, hb⟩
    clear c
    have B1 := B0.trans (hb.mono B0.size)
    clear hb B0
    go_wp2_with fail
    have c := qratio_any w1 a i_a
    rw [V0.out] at c
    refine c.mono ?_
    rintro e w2 ⟨a_x, n_x, c_x, b_x, m_x, d_x, rfl, h_xn_2, h_xd_2, hb⟩
    clear c
    have B2 := B1.trans (hb.mono B1.size)
    clear hb B1
    have hb := below_al w2 (.cells #[.bool (v0).neg, .slice a_x n_x c_x, .slice b_x m_x d_x] 27)
    have B3 := B2.trans (hb.mono B2.size)
    have h_xn_3 := h_xn_2.below hb
    have h_xd_3 := h_xd_2.below hb
    clear hb B2 h_xn_2 h_xd_2
    have h_x_3 := Has.new w2 #[.bool (v0).neg, .slice a_x n_x c_x, .slice b_x m_x d_x] 27
    go_wp2_with first | refine wpList_store_new rfl 27 _ _ rfl atRat _ _ _ rfl rfl rfl rfl (rat_one _ _ _ _ _ _ _) ?_
    generalize (w2.alloc (.cells #[.bool (v0).neg, .slice a_x n_x c_x, .slice b_x m_x d_x] 27)) = w3 at *
    have c := qratio_any w3 b i_b
    rw [RN.out] at c
    refine c.mono ?_
    rintro e w4 ⟨a_y, n_y, c_y, b_y, m_y, d_y, rfl, h_yn_4, h_yd_4, hb⟩
    clear c
    have B4 := B3.trans (hb.mono B3.size)
    have h_xn_4 := h_xn_3.below hb
    have h_xd_4 := h_xd_3.below hb
    have h_x_4 := h_x_3.later hb
    clear hb B3 h_xn_3 h_xd_3 h_x_3
    have hb := below_al w4 (.cells #[.bool (zeroV).neg, .slice a_y n_y c_y, .slice b_y m_y d_y] 27)
    have B5 := B4.trans (hb.mono B4.size)
    have h_xn_5 := h_xn_4.below hb
    have h_xd_5 := h_xd_4.below hb
    have h_x_5 := h_x_4.later hb
    have h_yn_5 := h_yn_4.below hb
    have h_yd_5 := h_yd_4.below hb
    clear hb B4 h_xn_4 h_xd_4 h_x_4 h_yn_4 h_yd_4
    have h_y_5 := Has.new w4 #[.bool (zeroV).neg, .slice a_y n_y c_y, .slice b_y m_y d_y] 27
    go_wp2_with first | refine wpList_store_new rfl 27 _ _ rfl atRat _ _ _ rfl rfl rfl rfl (rat_one _ _ _ _ _ _ _) ?_
    generalize (w4.alloc (.cells #[.bool (zeroV).neg, .slice a_y n_y c_y, .slice b_y m_y d_y] 27)) = w5 at *
    have c := qratio_any w5 c i_c
    refine c.mono ?_
    rintro e w6 ⟨a_z, n_z, c_z, b_z, m_z, d_z, rfl, h_zn_6, h_zd_6, hb⟩
    clear c
    have B6 := B5.trans (hb.mono B5.size)
    have h_xn_6 := h_xn_5.below hb
    have h_xd_6 := h_xd_5.below hb
    have h_x_6 := h_x_5.later hb
    have h_yn_6 := h_yn_5.below hb
    have h_yd_6 := h_yd_5.below hb
    have h_y_6 := h_y_5.later hb
    clear hb B5 h_xn_5 h_xd_5 h_x_5 h_yn_5 h_yd_5 h_y_5
    have hb := below_al w6 (.cells #[.bool ((ratQ c).1).neg, .slice a_z n_z c_z, .slice b_z m_z d_z] 27)
    have B7 := B6.trans (hb.mono B6.size)
    have h_xn_7 := h_xn_6.below hb
    have h_xd_7 := h_xd_6.below hb
    have h_x_7 := h_x_6.later hb
    have h_yn_7 := h_yn_6.below hb
    have h_yd_7 := h_yd_6.below hb
    have h_y_7 := h_y_6.later hb
    have h_zn_7 := h_zn_6.below hb
    have h_zd_7 := h_zd_6.below hb
    clear hb B6 h_xn_6 h_xd_6 h_x_6 h_yn_6 h_yd_6 h_y_6 h_zn_6 h_zd_6
    have h_z_7 := Has.new w6 #[.bool ((ratQ c).1).neg, .slice a_z n_z c_z, .slice b_z m_z d_z] 27
    go_wp2_with first | refine wpList_store_new rfl 27 _ _ rfl atRat _ _ _ rfl rfl rfl rfl (rat_one _ _ _ _ _ _ _) ?_
    generalize (w6.alloc (.cells #[.bool ((ratQ c).1).neg, .slice a_z n_z c_z, .slice b_z m_z d_z] 27)) = w7 at *
    have c := wakes_any w7
    refine c.mono ?_
    rintro e w8 ⟨rfl, hb⟩
    clear c
    have B8 := B7.trans (hb.mono B7.size)
    have h_xn_8 := h_xn_7.below hb
    have h_xd_8 := h_xd_7.below hb
    have h_x_8 := h_x_7.later hb
    have h_yn_8 := h_yn_7.below hb
    have h_yd_8 := h_yd_7.below hb
    have h_y_8 := h_y_7.later hb
    have h_zn_8 := h_zn_7.below hb
    have h_zd_8 := h_zd_7.below hb
    have h_z_8 := h_z_7.later hb
    clear hb B7 h_xn_7 h_xd_7 h_x_7 h_yn_7 h_yd_7 h_y_7 h_zn_7 h_zd_7 h_z_7
    go_wp2_with fail
    go_ret
    exact ⟨rfl, B8⟩
  by_cases q_c : inQ c
  case neg =>
    have n_c := q_c
    clear q_c
    have SH := Lib.hid (show shareQ a b c = (0, 2) by rw [shareQ, if_neg (fun h => n_c h.2.2)])
    have RN := Lib.hid (show ratQ c = (zeroV, 2) by rw [ratQ, if_neg n_c])
    have R0 := Lib.hid (show (ratQ a).2 = 0 by rw [ratQ, if_pos q_a]; exact congrArg Prod.snd (ofC_pair (by decide)))
    obtain ⟨v0, hv0⟩ : ∃ v, v = (ratQ a).1 := ⟨_, rfl⟩
    have V0 := Lib.hid (show ratQ a = (v0, 0) from Prod.ext hv0.symm R0.out)
    clear hv0
    have R1 := Lib.hid (show (ratQ b).2 = 0 by rw [ratQ, if_pos q_b]; exact congrArg Prod.snd (ofC_pair (by decide)))
    obtain ⟨v1, hv1⟩ : ∃ v, v = (ratQ b).1 := ⟨_, rfl⟩
    have V1 := Lib.hid (show ratQ b = (v1, 0) from Prod.ext hv1.symm R1.out)
    clear hv1
    clear q_a q_b n_c
    go_enter Try.func6, Try.ntmps6
    go_wp2_with fail
    have c := share_any w a b c i_a i_b i_c
    rw [SH.out] at c
    refine c.mono ?_
    rintro e w1 ⟨rfl, hb⟩
    clear c
    have B1 := B0.trans (hb.mono B0.size)
    clear hb B0
    go_wp2_with fail
    have c := qratio_any w1 a i_a
    rw [V0.out] at c
    refine c.mono ?_
    rintro e w2 ⟨a_x, n_x, c_x, b_x, m_x, d_x, rfl, h_xn_2, h_xd_2, hb⟩
    clear c
    have B2 := B1.trans (hb.mono B1.size)
    clear hb B1
    have hb := below_al w2 (.cells #[.bool (v0).neg, .slice a_x n_x c_x, .slice b_x m_x d_x] 27)
    have B3 := B2.trans (hb.mono B2.size)
    have h_xn_3 := h_xn_2.below hb
    have h_xd_3 := h_xd_2.below hb
    clear hb B2 h_xn_2 h_xd_2
    have h_x_3 := Has.new w2 #[.bool (v0).neg, .slice a_x n_x c_x, .slice b_x m_x d_x] 27
    go_wp2_with first | refine wpList_store_new rfl 27 _ _ rfl atRat _ _ _ rfl rfl rfl rfl (rat_one _ _ _ _ _ _ _) ?_
    generalize (w2.alloc (.cells #[.bool (v0).neg, .slice a_x n_x c_x, .slice b_x m_x d_x] 27)) = w3 at *
    have c := qratio_any w3 b i_b
    rw [V1.out] at c
    refine c.mono ?_
    rintro e w4 ⟨a_y, n_y, c_y, b_y, m_y, d_y, rfl, h_yn_4, h_yd_4, hb⟩
    clear c
    have B4 := B3.trans (hb.mono B3.size)
    have h_xn_4 := h_xn_3.below hb
    have h_xd_4 := h_xd_3.below hb
    have h_x_4 := h_x_3.later hb
    clear hb B3 h_xn_3 h_xd_3 h_x_3
    have hb := below_al w4 (.cells #[.bool (v1).neg, .slice a_y n_y c_y, .slice b_y m_y d_y] 27)
    have B5 := B4.trans (hb.mono B4.size)
    have h_xn_5 := h_xn_4.below hb
    have h_xd_5 := h_xd_4.below hb
    have h_x_5 := h_x_4.later hb
    have h_yn_5 := h_yn_4.below hb
    have h_yd_5 := h_yd_4.below hb
    clear hb B4 h_xn_4 h_xd_4 h_x_4 h_yn_4 h_yd_4
    have h_y_5 := Has.new w4 #[.bool (v1).neg, .slice a_y n_y c_y, .slice b_y m_y d_y] 27
    go_wp2_with first | refine wpList_store_new rfl 27 _ _ rfl atRat _ _ _ rfl rfl rfl rfl (rat_one _ _ _ _ _ _ _) ?_
    generalize (w4.alloc (.cells #[.bool (v1).neg, .slice a_y n_y c_y, .slice b_y m_y d_y] 27)) = w5 at *
    have c := qratio_any w5 c i_c
    rw [RN.out] at c
    refine c.mono ?_
    rintro e w6 ⟨a_z, n_z, c_z, b_z, m_z, d_z, rfl, h_zn_6, h_zd_6, hb⟩
    clear c
    have B6 := B5.trans (hb.mono B5.size)
    have h_xn_6 := h_xn_5.below hb
    have h_xd_6 := h_xd_5.below hb
    have h_x_6 := h_x_5.later hb
    have h_yn_6 := h_yn_5.below hb
    have h_yd_6 := h_yd_5.below hb
    have h_y_6 := h_y_5.later hb
    clear hb B5 h_xn_5 h_xd_5 h_x_5 h_yn_5 h_yd_5 h_y_5
    have hb := below_al w6 (.cells #[.bool (zeroV).neg, .slice a_z n_z c_z, .slice b_z m_z d_z] 27)
    have B7 := B6.trans (hb.mono B6.size)
    have h_xn_7 := h_xn_6.below hb
    have h_xd_7 := h_xd_6.below hb
    have h_x_7 := h_x_6.later hb
    have h_yn_7 := h_yn_6.below hb
    have h_yd_7 := h_yd_6.below hb
    have h_y_7 := h_y_6.later hb
    have h_zn_7 := h_zn_6.below hb
    have h_zd_7 := h_zd_6.below hb
    clear hb B6 h_xn_6 h_xd_6 h_x_6 h_yn_6 h_yd_6 h_y_6 h_zn_6 h_zd_6
    have h_z_7 := Has.new w6 #[.bool (zeroV).neg, .slice a_z n_z c_z, .slice b_z m_z d_z] 27
    go_wp2_with first | refine wpList_store_new rfl 27 _ _ rfl atRat _ _ _ rfl rfl rfl rfl (rat_one _ _ _ _ _ _ _) ?_
    generalize (w6.alloc (.cells #[.bool (zeroV).neg, .slice a_z n_z c_z, .slice b_z m_z d_z] 27)) = w7 at *
    have c := wakes_any w7
    refine c.mono ?_
    rintro e w8 ⟨rfl, hb⟩
    clear c
    have B8 := B7.trans (hb.mono B7.size)
    have h_xn_8 := h_xn_7.below hb
    have h_xd_8 := h_xd_7.below hb
    have h_x_8 := h_x_7.later hb
    have h_yn_8 := h_yn_7.below hb
    have h_yd_8 := h_yd_7.below hb
    have h_y_8 := h_y_7.later hb
    have h_zn_8 := h_zn_7.below hb
    have h_zd_8 := h_zd_7.below hb
    have h_z_8 := h_z_7.later hb
    clear hb B7 h_xn_7 h_xd_7 h_x_7 h_yn_7 h_yd_7 h_y_7 h_zn_7 h_zd_7 h_z_7
    go_wp2_with fail
    go_ret
    exact ⟨rfl, B8⟩
  obtain ⟨A, rfl, b_A, -⟩ := inQ_nat q_a
  obtain ⟨B, rfl, b_B, -⟩ := inQ_nat q_b
  obtain ⟨C, rfl, b_C, -⟩ := inQ_nat q_c
  clear q_a q_b q_c
  have RA := Lib.hid (ratQ_fr b_A)
  have RB := Lib.hid (ratQ_fr b_B)
  have RC := Lib.hid (ratQ_fr b_C)
  by_cases z : C = 0
  case pos =>
    subst z
    have RC := Lib.hid (show ratQ 0 = (fr 0 1000000000, 0) from RC.out)
    have SH := Lib.hid (show shareQ (A : Int) (B : Int) 0 = (0, 40) by rw [shareQ, if_pos ⟨by unfold inQ; omega, by unfold inQ; omega, by unfold inQ; omega⟩, if_pos rfl])
    go_enter Try.func6, Try.ntmps6
    go_wp2_with fail
    have c := share_any w A B 0 i_a i_b i_c
    rw [SH.out] at c
    refine c.mono ?_
    rintro e w1 ⟨rfl, hb⟩
    clear c
    have B1 := B0.trans (hb.mono B0.size)
    clear hb B0
    go_wp2_with fail
    have c := qratio_any w1 A i_a
    rw [RA.out] at c
    refine c.mono ?_
    rintro e w2 ⟨a_x, n_x, c_x, b_x, m_x, d_x, rfl, h_xn_2, h_xd_2, hb⟩
    clear c
    have B2 := B1.trans (hb.mono B1.size)
    clear hb B1
    have hb := below_al w2 (.cells #[.bool ((fr A 1000000000)).neg, .slice a_x n_x c_x, .slice b_x m_x d_x] 27)
    have B3 := B2.trans (hb.mono B2.size)
    have h_xn_3 := h_xn_2.below hb
    have h_xd_3 := h_xd_2.below hb
    clear hb B2 h_xn_2 h_xd_2
    have h_x_3 := Has.new w2 #[.bool ((fr A 1000000000)).neg, .slice a_x n_x c_x, .slice b_x m_x d_x] 27
    go_wp2_with first | refine wpList_store_new rfl 27 _ _ rfl atRat _ _ _ rfl rfl rfl rfl (rat_one _ _ _ _ _ _ _) ?_
    generalize (w2.alloc (.cells #[.bool ((fr A 1000000000)).neg, .slice a_x n_x c_x, .slice b_x m_x d_x] 27)) = w3 at *
    have c := qratio_any w3 B i_b
    rw [RB.out] at c
    refine c.mono ?_
    rintro e w4 ⟨a_y, n_y, c_y, b_y, m_y, d_y, rfl, h_yn_4, h_yd_4, hb⟩
    clear c
    have B4 := B3.trans (hb.mono B3.size)
    have h_xn_4 := h_xn_3.below hb
    have h_xd_4 := h_xd_3.below hb
    have h_x_4 := h_x_3.later hb
    clear hb B3 h_xn_3 h_xd_3 h_x_3
    have hb := below_al w4 (.cells #[.bool ((fr B 1000000000)).neg, .slice a_y n_y c_y, .slice b_y m_y d_y] 27)
    have B5 := B4.trans (hb.mono B4.size)
    have h_xn_5 := h_xn_4.below hb
    have h_xd_5 := h_xd_4.below hb
    have h_x_5 := h_x_4.later hb
    have h_yn_5 := h_yn_4.below hb
    have h_yd_5 := h_yd_4.below hb
    clear hb B4 h_xn_4 h_xd_4 h_x_4 h_yn_4 h_yd_4
    have h_y_5 := Has.new w4 #[.bool ((fr B 1000000000)).neg, .slice a_y n_y c_y, .slice b_y m_y d_y] 27
    go_wp2_with first | refine wpList_store_new rfl 27 _ _ rfl atRat _ _ _ rfl rfl rfl rfl (rat_one _ _ _ _ _ _ _) ?_
    generalize (w4.alloc (.cells #[.bool ((fr B 1000000000)).neg, .slice a_y n_y c_y, .slice b_y m_y d_y] 27)) = w5 at *
    have c := qratio_any w5 0 i_c
    rw [RC.out] at c
    refine c.mono ?_
    rintro e w6 ⟨a_z, n_z, c_z, b_z, m_z, d_z, rfl, h_zn_6, h_zd_6, hb⟩
    clear c
    have B6 := B5.trans (hb.mono B5.size)
    have h_xn_6 := h_xn_5.below hb
    have h_xd_6 := h_xd_5.below hb
    have h_x_6 := h_x_5.later hb
    have h_yn_6 := h_yn_5.below hb
    have h_yd_6 := h_yd_5.below hb
    have h_y_6 := h_y_5.later hb
    clear hb B5 h_xn_5 h_xd_5 h_x_5 h_yn_5 h_yd_5 h_y_5
    have hb := below_al w6 (.cells #[.bool ((fr 0 1000000000)).neg, .slice a_z n_z c_z, .slice b_z m_z d_z] 27)
    have B7 := B6.trans (hb.mono B6.size)
    have h_xn_7 := h_xn_6.below hb
    have h_xd_7 := h_xd_6.below hb
    have h_x_7 := h_x_6.later hb
    have h_yn_7 := h_yn_6.below hb
    have h_yd_7 := h_yd_6.below hb
    have h_y_7 := h_y_6.later hb
    have h_zn_7 := h_zn_6.below hb
    have h_zd_7 := h_zd_6.below hb
    clear hb B6 h_xn_6 h_xd_6 h_x_6 h_yn_6 h_yd_6 h_y_6 h_zn_6 h_zd_6
    have h_z_7 := Has.new w6 #[.bool ((fr 0 1000000000)).neg, .slice a_z n_z c_z, .slice b_z m_z d_z] 27
    go_wp2_with first | refine wpList_store_new rfl 27 _ _ rfl atRat _ _ _ rfl rfl rfl rfl (rat_one _ _ _ _ _ _ _) ?_
    generalize (w6.alloc (.cells #[.bool ((fr 0 1000000000)).neg, .slice a_z n_z c_z, .slice b_z m_z d_z] 27)) = w7 at *
    have c := wakes_any w7
    refine c.mono ?_
    rintro e w8 ⟨rfl, hb⟩
    clear c
    have B8 := B7.trans (hb.mono B7.size)
    have h_xn_8 := h_xn_7.below hb
    have h_xd_8 := h_xd_7.below hb
    have h_x_8 := h_x_7.later hb
    have h_yn_8 := h_yn_7.below hb
    have h_yd_8 := h_yd_7.below hb
    have h_y_8 := h_y_7.later hb
    have h_zn_8 := h_zn_7.below hb
    have h_zd_8 := h_zd_7.below hb
    have h_z_8 := h_z_7.later hb
    clear hb B7 h_xn_7 h_xd_7 h_x_7 h_yn_7 h_yd_7 h_y_7 h_zn_7 h_zd_7 h_z_7
    go_wp2_with fail
    go_ret
    exact ⟨rfl, B8⟩
  have z0 : ((C : Int) == 0) = false := beq_eq_false_iff_ne.2 (by omega)
  have CP := Lib.hid (show 0 < C by omega)
  have SH := Lib.hid (shareQ_nat b_A b_B b_C z)
  obtain ⟨t, ht⟩ : ∃ t, t = tellN (A * B / C) := ⟨_, rfl⟩
  have SH := Lib.hid (SH.out.trans ht.symm)
  have MU := Lib.hid (fr_mul (A := A) (B := 1000000000) (C := B) (D := 1000000000) (by decide) (by decide) (small48 (by omega)) (small48 (by decide)) (small48 (by omega)) (small48 (by decide)))
  have DI := Lib.hid (fr_div (A := A * B) (B := 1000000000 * 1000000000) (C := C) (D := 1000000000) (by decide) z (by decide) (sq48 b_A b_B) (small48 (by decide)) (small48 (by omega)) (small48 (by decide)))
  have BI := Lib.hid (show billC (fr (A * B * 1000000000) (1000000000 * 1000000000 * C)) = t by
    rw [fr_bill, ht]
    · rw [share_exact CP.out]
    · exact Nat.mul_ne_zero (by decide) z
    · exact Nat.lt_of_lt_of_le (mul_lt_pw (show A * B < pw 4 from Nat.lt_of_le_of_lt (Nat.mul_le_mul b_A b_B) (by decide)) (show 1000000000 < pw 1 by decide)) (pw_le (by decide))
    · exact Nat.lt_of_lt_of_le (mul_lt_pw (show 1000000000 * 1000000000 < pw 2 by decide) (show C < pw 2 from Nat.lt_of_le_of_lt b_C (by decide))) (pw_le (by decide)))
  have WH := Lib.hid (show shareQ (A : Int) (C : Int) (C : Int) = ((A : Int), 0) by
    rw [shareQ_nat b_A b_C b_C z, Nat.mul_div_cancel _ CP.out, tellN, if_pos b_A])
  have NB := Lib.hid (show A ≤ 1000000000000000 ∧ B ≤ 1000000000000000 ∧ C ≤ 1000000000000000 from ⟨b_A, b_B, b_C⟩)
  by_cases bc : C < B
  case pos =>
    have dbc : decide ((C : Int) < (B : Int)) = true := decide_eq_true (by omega)
    have dbn : decide (C < B) = true := decide_eq_true bc
    clear bc z b_A b_B b_C ht
    go_enter Try.func6, Try.ntmps6
    go_wp2_with fail
    have c := share_any w A B C i_a i_b i_c
    rw [SH.out] at c
    refine c.mono ?_
    rintro e w1 ⟨rfl, hb⟩
    clear c
    have B1 := B0.trans (hb.mono B0.size)
    clear hb B0
    go_wp2_with fail
    have c := qratio_any w1 A i_a
    rw [RA.out] at c
    refine c.mono ?_
    rintro e w2 ⟨a_x, n_x, c_x, b_x, m_x, d_x, rfl, h_xn_2, h_xd_2, hb⟩
    clear c
    have B2 := B1.trans (hb.mono B1.size)
    clear hb B1
    have hb := below_al w2 (.cells #[.bool ((fr A 1000000000)).neg, .slice a_x n_x c_x, .slice b_x m_x d_x] 27)
    have B3 := B2.trans (hb.mono B2.size)
    have h_xn_3 := h_xn_2.below hb
    have h_xd_3 := h_xd_2.below hb
    clear hb B2 h_xn_2 h_xd_2
    have h_x_3 := Has.new w2 #[.bool ((fr A 1000000000)).neg, .slice a_x n_x c_x, .slice b_x m_x d_x] 27
    go_wp2_with first | refine wpList_store_new rfl 27 _ _ rfl atRat _ _ _ rfl rfl rfl rfl (rat_one _ _ _ _ _ _ _) ?_
    generalize (w2.alloc (.cells #[.bool ((fr A 1000000000)).neg, .slice a_x n_x c_x, .slice b_x m_x d_x] 27)) = w3 at *
    have c := qratio_any w3 B i_b
    rw [RB.out] at c
    refine c.mono ?_
    rintro e w4 ⟨a_y, n_y, c_y, b_y, m_y, d_y, rfl, h_yn_4, h_yd_4, hb⟩
    clear c
    have B4 := B3.trans (hb.mono B3.size)
    have h_xn_4 := h_xn_3.below hb
    have h_xd_4 := h_xd_3.below hb
    have h_x_4 := h_x_3.later hb
    clear hb B3 h_xn_3 h_xd_3 h_x_3
    have hb := below_al w4 (.cells #[.bool ((fr B 1000000000)).neg, .slice a_y n_y c_y, .slice b_y m_y d_y] 27)
    have B5 := B4.trans (hb.mono B4.size)
    have h_xn_5 := h_xn_4.below hb
    have h_xd_5 := h_xd_4.below hb
    have h_x_5 := h_x_4.later hb
    have h_yn_5 := h_yn_4.below hb
    have h_yd_5 := h_yd_4.below hb
    clear hb B4 h_xn_4 h_xd_4 h_x_4 h_yn_4 h_yd_4
    have h_y_5 := Has.new w4 #[.bool ((fr B 1000000000)).neg, .slice a_y n_y c_y, .slice b_y m_y d_y] 27
    go_wp2_with first | refine wpList_store_new rfl 27 _ _ rfl atRat _ _ _ rfl rfl rfl rfl (rat_one _ _ _ _ _ _ _) ?_
    generalize (w4.alloc (.cells #[.bool ((fr B 1000000000)).neg, .slice a_y n_y c_y, .slice b_y m_y d_y] 27)) = w5 at *
    have c := qratio_any w5 C i_c
    rw [RC.out] at c
    refine c.mono ?_
    rintro e w6 ⟨a_z, n_z, c_z, b_z, m_z, d_z, rfl, h_zn_6, h_zd_6, hb⟩
    clear c
    have B6 := B5.trans (hb.mono B5.size)
    have h_xn_6 := h_xn_5.below hb
    have h_xd_6 := h_xd_5.below hb
    have h_x_6 := h_x_5.later hb
    have h_yn_6 := h_yn_5.below hb
    have h_yd_6 := h_yd_5.below hb
    have h_y_6 := h_y_5.later hb
    clear hb B5 h_xn_5 h_xd_5 h_x_5 h_yn_5 h_yd_5 h_y_5
    have hb := below_al w6 (.cells #[.bool ((fr C 1000000000)).neg, .slice a_z n_z c_z, .slice b_z m_z d_z] 27)
    have B7 := B6.trans (hb.mono B6.size)
    have h_xn_7 := h_xn_6.below hb
    have h_xd_7 := h_xd_6.below hb
    have h_x_7 := h_x_6.later hb
    have h_yn_7 := h_yn_6.below hb
    have h_yd_7 := h_yd_6.below hb
    have h_y_7 := h_y_6.later hb
    have h_zn_7 := h_zn_6.below hb
    have h_zd_7 := h_zd_6.below hb
    clear hb B6 h_xn_6 h_xd_6 h_x_6 h_yn_6 h_yd_6 h_y_6 h_zn_6 h_zd_6
    have h_z_7 := Has.new w6 #[.bool ((fr C 1000000000)).neg, .slice a_z n_z c_z, .slice b_z m_z d_z] 27
    have k_x_0 := h_x_7.cell 0 _ rfl
    have k_x_1 := h_x_7.cell 1 _ rfl
    have k_x_2 := h_x_7.cell 2 _ rfl
    have k_y_0 := h_y_7.cell 0 _ rfl
    have k_y_1 := h_y_7.cell 1 _ rfl
    have k_y_2 := h_y_7.cell 2 _ rfl
    go_wp2_with first | refine wpList_store_new rfl 27 _ _ rfl atRat _ _ _ rfl rfl rfl rfl (rat_one _ _ _ _ _ _ _) ?_
    clear k_x_0 k_x_1 k_x_2 k_y_0 k_y_1 k_y_2
    generalize (w6.alloc (.cells #[.bool ((fr C 1000000000)).neg, .slice a_z n_z c_z, .slice b_z m_z d_z] 27)) = w7 at *
    have c := ratMul_any w7 (g1 := (fr A 1000000000).neg) (g2 := (fr B 1000000000).neg) h_xn_7 h_xd_7 h_yn_7 h_yd_7
    rw [show (⟨(fr A 1000000000).neg, (fr A 1000000000).num, (fr A 1000000000).den⟩ : QV) = fr A 1000000000 from rfl] at c
    rw [show (⟨(fr B 1000000000).neg, (fr B 1000000000).num, (fr B 1000000000).den⟩ : QV) = fr B 1000000000 from rfl] at c
    rw [MU.out] at c
    refine c.mono ?_
    rintro e w8 ⟨a_p, n_p, c_p, b_p, m_p, d_p, rfl, h_pn_8, h_pd_8, hb⟩
    clear c
    have B8 := B7.trans (hb.mono B7.size)
    have h_xn_8 := h_xn_7.below hb
    have h_xd_8 := h_xd_7.below hb
    have h_x_8 := h_x_7.later hb
    have h_yn_8 := h_yn_7.below hb
    have h_yd_8 := h_yd_7.below hb
    have h_y_8 := h_y_7.later hb
    have h_zn_8 := h_zn_7.below hb
    have h_zd_8 := h_zd_7.below hb
    have h_z_8 := h_z_7.later hb
    clear hb B7 h_xn_7 h_xd_7 h_x_7 h_yn_7 h_yd_7 h_y_7 h_zn_7 h_zd_7 h_z_7
    have hb := below_al w8 (.cells #[.bool ((fr (A * B) (1000000000 * 1000000000))).neg, .slice a_p n_p c_p, .slice b_p m_p d_p] 27)
    have B9 := B8.trans (hb.mono B8.size)
    have h_xn_9 := h_xn_8.below hb
    have h_xd_9 := h_xd_8.below hb
    have h_x_9 := h_x_8.later hb
    have h_yn_9 := h_yn_8.below hb
    have h_yd_9 := h_yd_8.below hb
    have h_y_9 := h_y_8.later hb
    have h_zn_9 := h_zn_8.below hb
    have h_zd_9 := h_zd_8.below hb
    have h_z_9 := h_z_8.later hb
    have h_pn_9 := h_pn_8.below hb
    have h_pd_9 := h_pd_8.below hb
    clear hb B8 h_xn_8 h_xd_8 h_x_8 h_yn_8 h_yd_8 h_y_8 h_zn_8 h_zd_8 h_z_8 h_pn_8 h_pd_8
    have h_p_9 := Has.new w8 #[.bool ((fr (A * B) (1000000000 * 1000000000))).neg, .slice a_p n_p c_p, .slice b_p m_p d_p] 27
    have k_p_0 := h_p_9.cell 0 _ rfl
    have k_p_1 := h_p_9.cell 1 _ rfl
    have k_p_2 := h_p_9.cell 2 _ rfl
    have k_z_0 := h_z_9.cell 0 _ rfl
    have k_z_1 := h_z_9.cell 1 _ rfl
    have k_z_2 := h_z_9.cell 2 _ rfl
    go_wp2_with first | refine wpList_store_new rfl 27 _ _ rfl atRat _ _ _ rfl rfl rfl rfl (rat_one _ _ _ _ _ _ _) ?_
    clear k_p_0 k_p_1 k_p_2 k_z_0 k_z_1 k_z_2
    generalize (w8.alloc (.cells #[.bool ((fr (A * B) (1000000000 * 1000000000))).neg, .slice a_p n_p c_p, .slice b_p m_p d_p] 27)) = w9 at *
    have c := ratDiv_any w9 (g1 := (fr (A * B) (1000000000 * 1000000000)).neg) (g2 := (fr C 1000000000).neg) h_pn_9 h_pd_9 h_zn_9 h_zd_9
    rw [show (⟨(fr (A * B) (1000000000 * 1000000000)).neg, (fr (A * B) (1000000000 * 1000000000)).num, (fr (A * B) (1000000000 * 1000000000)).den⟩ : QV) = fr (A * B) (1000000000 * 1000000000) from rfl] at c
    rw [show (⟨(fr C 1000000000).neg, (fr C 1000000000).num, (fr C 1000000000).den⟩ : QV) = fr C 1000000000 from rfl] at c
    rw [DI.out] at c
    refine c.mono ?_
    rintro e w10 ⟨a_e, n_e, c_e, b_e, m_e, d_e, rfl, h_en_10, h_ed_10, hb⟩
    clear c
    have B10 := B9.trans (hb.mono B9.size)
    have h_xn_10 := h_xn_9.below hb
    have h_xd_10 := h_xd_9.below hb
    have h_x_10 := h_x_9.later hb
    have h_yn_10 := h_yn_9.below hb
    have h_yd_10 := h_yd_9.below hb
    have h_y_10 := h_y_9.later hb
    have h_zn_10 := h_zn_9.below hb
    have h_zd_10 := h_zd_9.below hb
    have h_z_10 := h_z_9.later hb
    have h_pn_10 := h_pn_9.below hb
    have h_pd_10 := h_pd_9.below hb
    have h_p_10 := h_p_9.later hb
    clear hb B9 h_xn_9 h_xd_9 h_x_9 h_yn_9 h_yd_9 h_y_9 h_zn_9 h_zd_9 h_z_9 h_pn_9 h_pd_9 h_p_9
    have hb := below_al w10 (.cells #[.bool ((fr (A * B * 1000000000) (1000000000 * 1000000000 * C))).neg, .slice a_e n_e c_e, .slice b_e m_e d_e] 27)
    have B11 := B10.trans (hb.mono B10.size)
    have h_xn_11 := h_xn_10.below hb
    have h_xd_11 := h_xd_10.below hb
    have h_x_11 := h_x_10.later hb
    have h_yn_11 := h_yn_10.below hb
    have h_yd_11 := h_yd_10.below hb
    have h_y_11 := h_y_10.later hb
    have h_zn_11 := h_zn_10.below hb
    have h_zd_11 := h_zd_10.below hb
    have h_z_11 := h_z_10.later hb
    have h_pn_11 := h_pn_10.below hb
    have h_pd_11 := h_pd_10.below hb
    have h_p_11 := h_p_10.later hb
    have h_en_11 := h_en_10.below hb
    have h_ed_11 := h_ed_10.below hb
    clear hb B10 h_xn_10 h_xd_10 h_x_10 h_yn_10 h_yd_10 h_y_10 h_zn_10 h_zd_10 h_z_10 h_pn_10 h_pd_10 h_p_10 h_en_10 h_ed_10
    have h_e_11 := Has.new w10 #[.bool ((fr (A * B * 1000000000) (1000000000 * 1000000000 * C))).neg, .slice a_e n_e c_e, .slice b_e m_e d_e] 27
    have k_e_0 := h_e_11.cell 0 _ rfl
    have k_e_1 := h_e_11.cell 1 _ rfl
    have k_e_2 := h_e_11.cell 2 _ rfl
    go_wp2_with first | refine wpList_store_new rfl 27 _ _ rfl atRat _ _ _ rfl rfl rfl rfl (rat_one _ _ _ _ _ _ _) ?_
    clear k_e_0 k_e_1 k_e_2
    generalize (w10.alloc (.cells #[.bool ((fr (A * B * 1000000000) (1000000000 * 1000000000 * C))).neg, .slice a_e n_e c_e, .slice b_e m_e d_e] 27)) = w11 at *
    have c := bill_any w11 (g := (fr (A * B * 1000000000) (1000000000 * 1000000000 * C)).neg) h_en_11 h_ed_11
    rw [show (⟨(fr (A * B * 1000000000) (1000000000 * 1000000000 * C)).neg, (fr (A * B * 1000000000) (1000000000 * 1000000000 * C)).num, (fr (A * B * 1000000000) (1000000000 * 1000000000 * C)).den⟩ : QV) = fr (A * B * 1000000000) (1000000000 * 1000000000 * C) from rfl] at c
    rw [BI.out] at c
    refine c.mono ?_
    rintro e w12 ⟨rfl, hb⟩
    clear c
    have B12 := B11.trans (hb.mono B11.size)
    have h_xn_12 := h_xn_11.below hb
    have h_xd_12 := h_xd_11.below hb
    have h_x_12 := h_x_11.later hb
    have h_yn_12 := h_yn_11.below hb
    have h_yd_12 := h_yd_11.below hb
    have h_y_12 := h_y_11.later hb
    have h_zn_12 := h_zn_11.below hb
    have h_zd_12 := h_zd_11.below hb
    have h_z_12 := h_z_11.later hb
    have h_pn_12 := h_pn_11.below hb
    have h_pd_12 := h_pd_11.below hb
    have h_p_12 := h_p_11.later hb
    have h_en_12 := h_en_11.below hb
    have h_ed_12 := h_ed_11.below hb
    have h_e_12 := h_e_11.later hb
    clear hb B11 h_xn_11 h_xd_11 h_x_11 h_yn_11 h_yd_11 h_y_11 h_zn_11 h_zd_11 h_z_11 h_pn_11 h_pd_11 h_p_11 h_en_11 h_ed_11 h_e_11
    go_wp2_with fail
    have c := share_any w12 A C C i_a i_c i_c
    rw [WH.out] at c
    refine c.mono ?_
    rintro e w13 ⟨rfl, hb⟩
    clear c
    have B13 := B12.trans (hb.mono B12.size)
    have h_xn_13 := h_xn_12.below hb
    have h_xd_13 := h_xd_12.below hb
    have h_x_13 := h_x_12.later hb
    have h_yn_13 := h_yn_12.below hb
    have h_yd_13 := h_yd_12.below hb
    have h_y_13 := h_y_12.later hb
    have h_zn_13 := h_zn_12.below hb
    have h_zd_13 := h_zd_12.below hb
    have h_z_13 := h_z_12.later hb
    have h_pn_13 := h_pn_12.below hb
    have h_pd_13 := h_pd_12.below hb
    have h_p_13 := h_p_12.later hb
    have h_en_13 := h_en_12.below hb
    have h_ed_13 := h_ed_12.below hb
    have h_e_13 := h_e_12.later hb
    clear hb B12 h_xn_12 h_xd_12 h_x_12 h_yn_12 h_yd_12 h_y_12 h_zn_12 h_zd_12 h_z_12 h_pn_12 h_pd_12 h_p_12 h_en_12 h_ed_12 h_e_12
    go_wp2_with fail
    have c := wakes_any w13
    refine c.mono ?_
    rintro e w14 ⟨rfl, hb⟩
    clear c
    have B14 := B13.trans (hb.mono B13.size)
    have h_xn_14 := h_xn_13.below hb
    have h_xd_14 := h_xd_13.below hb
    have h_x_14 := h_x_13.later hb
    have h_yn_14 := h_yn_13.below hb
    have h_yd_14 := h_yd_13.below hb
    have h_y_14 := h_y_13.later hb
    have h_zn_14 := h_zn_13.below hb
    have h_zd_14 := h_zd_13.below hb
    have h_z_14 := h_z_13.later hb
    have h_pn_14 := h_pn_13.below hb
    have h_pd_14 := h_pd_13.below hb
    have h_p_14 := h_p_13.later hb
    have h_en_14 := h_en_13.below hb
    have h_ed_14 := h_ed_13.below hb
    have h_e_14 := h_e_13.later hb
    clear hb B13 h_xn_13 h_xd_13 h_x_13 h_yn_13 h_yd_13 h_y_13 h_zn_13 h_zd_13 h_z_13 h_pn_13 h_pd_13 h_p_13 h_en_13 h_ed_13 h_e_13
    go_wp2_with fail
    go_ret
    exact ⟨rfl, B14⟩
  have dbc : decide ((C : Int) < (B : Int)) = false := decide_eq_false (by omega)
  have dbn : decide (C < B) = false := decide_eq_false bc
  have su := share_sum (A := A) CP.out (show B ≤ C by omega)
  obtain ⟨x, hx⟩ : ∃ x, x = A * B / C := ⟨_, rfl⟩
  obtain ⟨y, hy⟩ : ∃ y, y = A * (C - B) / C := ⟨_, rfl⟩
  rw [← hx, ← hy] at su
  obtain rfl : t = ((x : Int), 0) := by rw [ht, ← hx, tellN, if_pos (by omega)]
  obtain ⟨D, hD⟩ : ∃ D, D = C - B := ⟨_, rfl⟩
  have sb : IntKind.i64.wrap ((C : Int) - (B : Int)) = (D : Int) := by rw [wrap_i64 (by omega) (by omega)]; omega
  have sb' : wrap64 ((C : Int) - (B : Int)) = (D : Int) := by rw [w64_small (by omega) (by omega)]; omega
  have sb2 : (C : Int) - (B : Int) = (D : Int) := by omega
  have RE := Lib.hid (show shareQ (A : Int) (D : Int) (C : Int) = ((y : Int), 0) by
    rw [shareQ_nat b_A (by omega) b_C z, hD, ← hy, tellN, if_pos (by omega)])
  have i_D : i64 (D : Int) := ⟨by omega, by omega⟩
  obtain ⟨S, hS⟩ : ∃ S, S = x + y := ⟨_, rfl⟩
  have ss : IntKind.i64.wrap ((x : Int) + (y : Int)) = (S : Int) := by rw [wrap_i64 (by omega) (by omega)]; omega
  have ss' : wrap64 ((x : Int) + (y : Int)) = (S : Int) := by rw [w64_small (by omega) (by omega)]; omega
  obtain ⟨A1, hA1⟩ : ∃ A1 : Int, A1 = (A : Int) - 1 := ⟨_, rfl⟩
  have sa : IntKind.i64.wrap ((A : Int) - 1) = A1 := by rw [wrap_i64 (by omega) (by omega), hA1]
  have sa' : wrap64 ((A : Int) - 1) = A1 := by rw [w64_small (by omega) (by omega), hA1]
  have d1 : decide ((S : Int) ≤ (A : Int)) = true := decide_eq_true (by clear sb sb' sb2 ss ss' sa sa' hx hy ht hD RE; omega)
  have d1n : decide (S ≤ A) = true := decide_eq_true (by clear sb sb' sb2 ss ss' sa sa' hx hy ht hD RE; omega)
  have d2 : decide (A1 ≤ (S : Int)) = true := decide_eq_true (by clear sb sb' sb2 ss ss' sa sa' hx hy ht hD RE; omega)
  clear bc z b_A b_B b_C ht hx hy su hD hS hA1
  go_enter Try.func6, Try.ntmps6
  go_wp2_with fail
  have c := share_any w A B C i_a i_b i_c
  rw [SH.out] at c
  refine c.mono ?_
  rintro e w1 ⟨rfl, hb⟩
  clear c
  have B1 := B0.trans (hb.mono B0.size)
  clear hb B0
  go_wp2_with fail
  have c := qratio_any w1 A i_a
  rw [RA.out] at c
  refine c.mono ?_
  rintro e w2 ⟨a_x, n_x, c_x, b_x, m_x, d_x, rfl, h_xn_2, h_xd_2, hb⟩
  clear c
  have B2 := B1.trans (hb.mono B1.size)
  clear hb B1
  have hb := below_al w2 (.cells #[.bool ((fr A 1000000000)).neg, .slice a_x n_x c_x, .slice b_x m_x d_x] 27)
  have B3 := B2.trans (hb.mono B2.size)
  have h_xn_3 := h_xn_2.below hb
  have h_xd_3 := h_xd_2.below hb
  clear hb B2 h_xn_2 h_xd_2
  have h_x_3 := Has.new w2 #[.bool ((fr A 1000000000)).neg, .slice a_x n_x c_x, .slice b_x m_x d_x] 27
  go_wp2_with first | refine wpList_store_new rfl 27 _ _ rfl atRat _ _ _ rfl rfl rfl rfl (rat_one _ _ _ _ _ _ _) ?_
  generalize (w2.alloc (.cells #[.bool ((fr A 1000000000)).neg, .slice a_x n_x c_x, .slice b_x m_x d_x] 27)) = w3 at *
  have c := qratio_any w3 B i_b
  rw [RB.out] at c
  refine c.mono ?_
  rintro e w4 ⟨a_y, n_y, c_y, b_y, m_y, d_y, rfl, h_yn_4, h_yd_4, hb⟩
  clear c
  have B4 := B3.trans (hb.mono B3.size)
  have h_xn_4 := h_xn_3.below hb
  have h_xd_4 := h_xd_3.below hb
  have h_x_4 := h_x_3.later hb
  clear hb B3 h_xn_3 h_xd_3 h_x_3
  have hb := below_al w4 (.cells #[.bool ((fr B 1000000000)).neg, .slice a_y n_y c_y, .slice b_y m_y d_y] 27)
  have B5 := B4.trans (hb.mono B4.size)
  have h_xn_5 := h_xn_4.below hb
  have h_xd_5 := h_xd_4.below hb
  have h_x_5 := h_x_4.later hb
  have h_yn_5 := h_yn_4.below hb
  have h_yd_5 := h_yd_4.below hb
  clear hb B4 h_xn_4 h_xd_4 h_x_4 h_yn_4 h_yd_4
  have h_y_5 := Has.new w4 #[.bool ((fr B 1000000000)).neg, .slice a_y n_y c_y, .slice b_y m_y d_y] 27
  go_wp2_with first | refine wpList_store_new rfl 27 _ _ rfl atRat _ _ _ rfl rfl rfl rfl (rat_one _ _ _ _ _ _ _) ?_
  generalize (w4.alloc (.cells #[.bool ((fr B 1000000000)).neg, .slice a_y n_y c_y, .slice b_y m_y d_y] 27)) = w5 at *
  have c := qratio_any w5 C i_c
  rw [RC.out] at c
  refine c.mono ?_
  rintro e w6 ⟨a_z, n_z, c_z, b_z, m_z, d_z, rfl, h_zn_6, h_zd_6, hb⟩
  clear c
  have B6 := B5.trans (hb.mono B5.size)
  have h_xn_6 := h_xn_5.below hb
  have h_xd_6 := h_xd_5.below hb
  have h_x_6 := h_x_5.later hb
  have h_yn_6 := h_yn_5.below hb
  have h_yd_6 := h_yd_5.below hb
  have h_y_6 := h_y_5.later hb
  clear hb B5 h_xn_5 h_xd_5 h_x_5 h_yn_5 h_yd_5 h_y_5
  have hb := below_al w6 (.cells #[.bool ((fr C 1000000000)).neg, .slice a_z n_z c_z, .slice b_z m_z d_z] 27)
  have B7 := B6.trans (hb.mono B6.size)
  have h_xn_7 := h_xn_6.below hb
  have h_xd_7 := h_xd_6.below hb
  have h_x_7 := h_x_6.later hb
  have h_yn_7 := h_yn_6.below hb
  have h_yd_7 := h_yd_6.below hb
  have h_y_7 := h_y_6.later hb
  have h_zn_7 := h_zn_6.below hb
  have h_zd_7 := h_zd_6.below hb
  clear hb B6 h_xn_6 h_xd_6 h_x_6 h_yn_6 h_yd_6 h_y_6 h_zn_6 h_zd_6
  have h_z_7 := Has.new w6 #[.bool ((fr C 1000000000)).neg, .slice a_z n_z c_z, .slice b_z m_z d_z] 27
  have k_x_0 := h_x_7.cell 0 _ rfl
  have k_x_1 := h_x_7.cell 1 _ rfl
  have k_x_2 := h_x_7.cell 2 _ rfl
  have k_y_0 := h_y_7.cell 0 _ rfl
  have k_y_1 := h_y_7.cell 1 _ rfl
  have k_y_2 := h_y_7.cell 2 _ rfl
  go_wp2_with first | refine wpList_store_new rfl 27 _ _ rfl atRat _ _ _ rfl rfl rfl rfl (rat_one _ _ _ _ _ _ _) ?_
  clear k_x_0 k_x_1 k_x_2 k_y_0 k_y_1 k_y_2
  generalize (w6.alloc (.cells #[.bool ((fr C 1000000000)).neg, .slice a_z n_z c_z, .slice b_z m_z d_z] 27)) = w7 at *
  have c := ratMul_any w7 (g1 := (fr A 1000000000).neg) (g2 := (fr B 1000000000).neg) h_xn_7 h_xd_7 h_yn_7 h_yd_7
  rw [show (⟨(fr A 1000000000).neg, (fr A 1000000000).num, (fr A 1000000000).den⟩ : QV) = fr A 1000000000 from rfl] at c
  rw [show (⟨(fr B 1000000000).neg, (fr B 1000000000).num, (fr B 1000000000).den⟩ : QV) = fr B 1000000000 from rfl] at c
  rw [MU.out] at c
  refine c.mono ?_
  rintro e w8 ⟨a_p, n_p, c_p, b_p, m_p, d_p, rfl, h_pn_8, h_pd_8, hb⟩
  clear c
  have B8 := B7.trans (hb.mono B7.size)
  have h_xn_8 := h_xn_7.below hb
  have h_xd_8 := h_xd_7.below hb
  have h_x_8 := h_x_7.later hb
  have h_yn_8 := h_yn_7.below hb
  have h_yd_8 := h_yd_7.below hb
  have h_y_8 := h_y_7.later hb
  have h_zn_8 := h_zn_7.below hb
  have h_zd_8 := h_zd_7.below hb
  have h_z_8 := h_z_7.later hb
  clear hb B7 h_xn_7 h_xd_7 h_x_7 h_yn_7 h_yd_7 h_y_7 h_zn_7 h_zd_7 h_z_7
  have hb := below_al w8 (.cells #[.bool ((fr (A * B) (1000000000 * 1000000000))).neg, .slice a_p n_p c_p, .slice b_p m_p d_p] 27)
  have B9 := B8.trans (hb.mono B8.size)
  have h_xn_9 := h_xn_8.below hb
  have h_xd_9 := h_xd_8.below hb
  have h_x_9 := h_x_8.later hb
  have h_yn_9 := h_yn_8.below hb
  have h_yd_9 := h_yd_8.below hb
  have h_y_9 := h_y_8.later hb
  have h_zn_9 := h_zn_8.below hb
  have h_zd_9 := h_zd_8.below hb
  have h_z_9 := h_z_8.later hb
  have h_pn_9 := h_pn_8.below hb
  have h_pd_9 := h_pd_8.below hb
  clear hb B8 h_xn_8 h_xd_8 h_x_8 h_yn_8 h_yd_8 h_y_8 h_zn_8 h_zd_8 h_z_8 h_pn_8 h_pd_8
  have h_p_9 := Has.new w8 #[.bool ((fr (A * B) (1000000000 * 1000000000))).neg, .slice a_p n_p c_p, .slice b_p m_p d_p] 27
  have k_p_0 := h_p_9.cell 0 _ rfl
  have k_p_1 := h_p_9.cell 1 _ rfl
  have k_p_2 := h_p_9.cell 2 _ rfl
  have k_z_0 := h_z_9.cell 0 _ rfl
  have k_z_1 := h_z_9.cell 1 _ rfl
  have k_z_2 := h_z_9.cell 2 _ rfl
  go_wp2_with first | refine wpList_store_new rfl 27 _ _ rfl atRat _ _ _ rfl rfl rfl rfl (rat_one _ _ _ _ _ _ _) ?_
  clear k_p_0 k_p_1 k_p_2 k_z_0 k_z_1 k_z_2
  generalize (w8.alloc (.cells #[.bool ((fr (A * B) (1000000000 * 1000000000))).neg, .slice a_p n_p c_p, .slice b_p m_p d_p] 27)) = w9 at *
  have c := ratDiv_any w9 (g1 := (fr (A * B) (1000000000 * 1000000000)).neg) (g2 := (fr C 1000000000).neg) h_pn_9 h_pd_9 h_zn_9 h_zd_9
  rw [show (⟨(fr (A * B) (1000000000 * 1000000000)).neg, (fr (A * B) (1000000000 * 1000000000)).num, (fr (A * B) (1000000000 * 1000000000)).den⟩ : QV) = fr (A * B) (1000000000 * 1000000000) from rfl] at c
  rw [show (⟨(fr C 1000000000).neg, (fr C 1000000000).num, (fr C 1000000000).den⟩ : QV) = fr C 1000000000 from rfl] at c
  rw [DI.out] at c
  refine c.mono ?_
  rintro e w10 ⟨a_e, n_e, c_e, b_e, m_e, d_e, rfl, h_en_10, h_ed_10, hb⟩
  clear c
  have B10 := B9.trans (hb.mono B9.size)
  have h_xn_10 := h_xn_9.below hb
  have h_xd_10 := h_xd_9.below hb
  have h_x_10 := h_x_9.later hb
  have h_yn_10 := h_yn_9.below hb
  have h_yd_10 := h_yd_9.below hb
  have h_y_10 := h_y_9.later hb
  have h_zn_10 := h_zn_9.below hb
  have h_zd_10 := h_zd_9.below hb
  have h_z_10 := h_z_9.later hb
  have h_pn_10 := h_pn_9.below hb
  have h_pd_10 := h_pd_9.below hb
  have h_p_10 := h_p_9.later hb
  clear hb B9 h_xn_9 h_xd_9 h_x_9 h_yn_9 h_yd_9 h_y_9 h_zn_9 h_zd_9 h_z_9 h_pn_9 h_pd_9 h_p_9
  have hb := below_al w10 (.cells #[.bool ((fr (A * B * 1000000000) (1000000000 * 1000000000 * C))).neg, .slice a_e n_e c_e, .slice b_e m_e d_e] 27)
  have B11 := B10.trans (hb.mono B10.size)
  have h_xn_11 := h_xn_10.below hb
  have h_xd_11 := h_xd_10.below hb
  have h_x_11 := h_x_10.later hb
  have h_yn_11 := h_yn_10.below hb
  have h_yd_11 := h_yd_10.below hb
  have h_y_11 := h_y_10.later hb
  have h_zn_11 := h_zn_10.below hb
  have h_zd_11 := h_zd_10.below hb
  have h_z_11 := h_z_10.later hb
  have h_pn_11 := h_pn_10.below hb
  have h_pd_11 := h_pd_10.below hb
  have h_p_11 := h_p_10.later hb
  have h_en_11 := h_en_10.below hb
  have h_ed_11 := h_ed_10.below hb
  clear hb B10 h_xn_10 h_xd_10 h_x_10 h_yn_10 h_yd_10 h_y_10 h_zn_10 h_zd_10 h_z_10 h_pn_10 h_pd_10 h_p_10 h_en_10 h_ed_10
  have h_e_11 := Has.new w10 #[.bool ((fr (A * B * 1000000000) (1000000000 * 1000000000 * C))).neg, .slice a_e n_e c_e, .slice b_e m_e d_e] 27
  have k_e_0 := h_e_11.cell 0 _ rfl
  have k_e_1 := h_e_11.cell 1 _ rfl
  have k_e_2 := h_e_11.cell 2 _ rfl
  go_wp2_with first | refine wpList_store_new rfl 27 _ _ rfl atRat _ _ _ rfl rfl rfl rfl (rat_one _ _ _ _ _ _ _) ?_
  clear k_e_0 k_e_1 k_e_2
  generalize (w10.alloc (.cells #[.bool ((fr (A * B * 1000000000) (1000000000 * 1000000000 * C))).neg, .slice a_e n_e c_e, .slice b_e m_e d_e] 27)) = w11 at *
  have c := bill_any w11 (g := (fr (A * B * 1000000000) (1000000000 * 1000000000 * C)).neg) h_en_11 h_ed_11
  rw [show (⟨(fr (A * B * 1000000000) (1000000000 * 1000000000 * C)).neg, (fr (A * B * 1000000000) (1000000000 * 1000000000 * C)).num, (fr (A * B * 1000000000) (1000000000 * 1000000000 * C)).den⟩ : QV) = fr (A * B * 1000000000) (1000000000 * 1000000000 * C) from rfl] at c
  rw [BI.out] at c
  refine c.mono ?_
  rintro e w12 ⟨rfl, hb⟩
  clear c
  have B12 := B11.trans (hb.mono B11.size)
  have h_xn_12 := h_xn_11.below hb
  have h_xd_12 := h_xd_11.below hb
  have h_x_12 := h_x_11.later hb
  have h_yn_12 := h_yn_11.below hb
  have h_yd_12 := h_yd_11.below hb
  have h_y_12 := h_y_11.later hb
  have h_zn_12 := h_zn_11.below hb
  have h_zd_12 := h_zd_11.below hb
  have h_z_12 := h_z_11.later hb
  have h_pn_12 := h_pn_11.below hb
  have h_pd_12 := h_pd_11.below hb
  have h_p_12 := h_p_11.later hb
  have h_en_12 := h_en_11.below hb
  have h_ed_12 := h_ed_11.below hb
  have h_e_12 := h_e_11.later hb
  clear hb B11 h_xn_11 h_xd_11 h_x_11 h_yn_11 h_yd_11 h_y_11 h_zn_11 h_zd_11 h_z_11 h_pn_11 h_pd_11 h_p_11 h_en_11 h_ed_11 h_e_11
  go_wp2_with fail
  have c := share_any w12 A C C i_a i_c i_c
  rw [WH.out] at c
  refine c.mono ?_
  rintro e w13 ⟨rfl, hb⟩
  clear c
  have B13 := B12.trans (hb.mono B12.size)
  have h_xn_13 := h_xn_12.below hb
  have h_xd_13 := h_xd_12.below hb
  have h_x_13 := h_x_12.later hb
  have h_yn_13 := h_yn_12.below hb
  have h_yd_13 := h_yd_12.below hb
  have h_y_13 := h_y_12.later hb
  have h_zn_13 := h_zn_12.below hb
  have h_zd_13 := h_zd_12.below hb
  have h_z_13 := h_z_12.later hb
  have h_pn_13 := h_pn_12.below hb
  have h_pd_13 := h_pd_12.below hb
  have h_p_13 := h_p_12.later hb
  have h_en_13 := h_en_12.below hb
  have h_ed_13 := h_ed_12.below hb
  have h_e_13 := h_e_12.later hb
  clear hb B12 h_xn_12 h_xd_12 h_x_12 h_yn_12 h_yd_12 h_y_12 h_zn_12 h_zd_12 h_z_12 h_pn_12 h_pd_12 h_p_12 h_en_12 h_ed_12 h_e_12
  go_wp2_with fail
  first | rw [sb2] | rw [sb'] | rw [sb] | skip
  have c := share_any w13 A D C i_a i_D i_c
  rw [RE.out] at c
  refine c.mono ?_
  rintro e w14 ⟨rfl, hb⟩
  clear c
  have B14 := B13.trans (hb.mono B13.size)
  have h_xn_14 := h_xn_13.below hb
  have h_xd_14 := h_xd_13.below hb
  have h_x_14 := h_x_13.later hb
  have h_yn_14 := h_yn_13.below hb
  have h_yd_14 := h_yd_13.below hb
  have h_y_14 := h_y_13.later hb
  have h_zn_14 := h_zn_13.below hb
  have h_zd_14 := h_zd_13.below hb
  have h_z_14 := h_z_13.later hb
  have h_pn_14 := h_pn_13.below hb
  have h_pd_14 := h_pd_13.below hb
  have h_p_14 := h_p_13.later hb
  have h_en_14 := h_en_13.below hb
  have h_ed_14 := h_ed_13.below hb
  have h_e_14 := h_e_13.later hb
  clear hb B13 h_xn_13 h_xd_13 h_x_13 h_yn_13 h_yd_13 h_y_13 h_zn_13 h_zd_13 h_z_13 h_pn_13 h_pd_13 h_p_13 h_en_13 h_ed_13 h_e_13
  go_wp2_with fail
  have c := wakes_any w14
  refine c.mono ?_
  rintro e w15 ⟨rfl, hb⟩
  clear c
  have B15 := B14.trans (hb.mono B14.size)
  have h_xn_15 := h_xn_14.below hb
  have h_xd_15 := h_xd_14.below hb
  have h_x_15 := h_x_14.later hb
  have h_yn_15 := h_yn_14.below hb
  have h_yd_15 := h_yd_14.below hb
  have h_y_15 := h_y_14.later hb
  have h_zn_15 := h_zn_14.below hb
  have h_zd_15 := h_zd_14.below hb
  have h_z_15 := h_z_14.later hb
  have h_pn_15 := h_pn_14.below hb
  have h_pd_15 := h_pd_14.below hb
  have h_p_15 := h_p_14.later hb
  have h_en_15 := h_en_14.below hb
  have h_ed_15 := h_ed_14.below hb
  have h_e_15 := h_e_14.later hb
  clear hb B14 h_xn_14 h_xd_14 h_x_14 h_yn_14 h_yd_14 h_y_14 h_zn_14 h_zd_14 h_z_14 h_pn_14 h_pd_14 h_p_14 h_en_14 h_ed_14 h_e_14
  go_wp2_with fail
  go_ret
  exact ⟨rfl, B15⟩

end Go.Proofs.Ytfcejgeckcoefaa
