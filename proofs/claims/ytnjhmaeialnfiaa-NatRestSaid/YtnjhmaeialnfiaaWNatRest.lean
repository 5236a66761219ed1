/- The walk of the law NatRest: it returns true and turns nothing that was there. No condition. Printed by gen_nat.py. -/
import Derived.Test.YtnjhmaeialnfiaaNatY
import Derived.Test.YtnjhmaeialnfiaaNatApi
namespace Go.Proofs.Ytnjhmaeialnfiaa
open Go.RowKit Go.Suf
set_option linter.unusedVariables false
set_option linter.unusedSimpArgs false

set_option maxRecDepth 100000 in
set_option maxHeartbeats 8000000 in
theorem natRest_walk (w : World) {a0 : Option Addr} {n0 cap0 : Nat} {xs : List Nat} (h0 : Rd .u32 w a0 n0 cap0 xs) {a1 : Option Addr} {n1 cap1 : Nat} {ys : List Nat} (h1 : Rd .u32 w a1 n1 cap1 ys) :
    Calls Try.prog 8 #[.slice a0 n0 cap0, .slice a1 n1 cap1] w fun e w' => e = .returned (.bool true) ∧ Below w.heap.size w w' := by
  have hlit := rdNL_lit2 w h0 h1
  have hv0 := right_any _ hlit 96 (by decide)
  by_cases hv : rightB 96 [xs, ys] = true
  case neg =>
    have hf : rightB 96 [xs, ys] = false := by simpa using hv
    rw [hf] at hv0
    clear hv hf hlit
    go_enter Try.func8, Try.ntmps8
    go_wp2_with fail
    refine hv0.mono ?_
    rintro e w1 ⟨rfl, rfl⟩
    clear hv0
    go_wp2_with fail
    refine (wakes_any _).mono ?_
    rintro e w2 ⟨rfl, hb⟩
    go_wp2_with fail
    go_ret
    exact ⟨rfl, ((Below.refl _ _).alloc (Nat.le_refl _) _).trans (hb.mono (by simp))⟩
  rw [hv] at hv0
  have hall : ∀ x ∈ [xs, ys], vldN 96 x = true := by
    unfold rightB at hv
    rwa [decide_eq_true_eq] at hv
  obtain ⟨A, rfl, hA⟩ := vldN_limbs h0 (hall _ (by simp)) (by decide)
  obtain ⟨B, rfl, hB⟩ := vldN_limbs h1 (hall _ (by simp)) (by decide)
  clear hall hv hlit
  have hn1 := h1.len
  rcases Nat.eq_zero_or_pos B with hz | hz
  · subst hz
    obtain rfl : n1 = 0 := by rw [← hn1, limbs_zero]; rfl
    clear hn1
    go_enter Try.func8, Try.ntmps8
    go_wp2_with fail
    refine hv0.mono ?_
    rintro e w_ ⟨rfl, rfl⟩
    clear hv0
    have B0 : Below w.heap.size w w := Below.refl _ _
    have h_a_0 := h0
    have h_b_0 := h1
    have hb := (Below.refl w.heap.size w).alloc (Nat.le_refl _) (.cells #[.slice a0 n0 cap0, .slice a1 0 cap1] 22)
    have B1 := B0.trans (hb.mono B0.size)
    have h_a_1 := h_a_0.below hb
    have h_b_1 := h_b_0.below hb
    clear B0 h_a_0 h_b_0
    clear hb
    generalize w.alloc (.cells #[.slice a0 n0 cap0, .slice a1 0 cap1] 22) = w1 at *
    go_wp2_with fail
    have c := Div_any _ h_a_1 h_b_1
    rw [div_zero hA] at c
    refine c.mono ?_
    rintro e w2 ⟨a_q, n_q, c_q, a_r, n_r, c_r, rfl, h_q_2, h_r_2, hb⟩
    clear c
    have B2 := B1.trans (hb.mono B1.size)
    have h_a_2 := h_a_1.below hb
    have h_b_2 := h_b_1.below hb
    clear B1 h_a_1 h_b_1
    clear hb
    obtain rfl := h_q_2.len
    obtain rfl := h_r_2.len
    clear h_q_2 h_r_2
    go_wp2_with fail
    have c := wakes_any w2
    refine c.mono ?_
    rintro e w3 ⟨rfl, hb⟩
    clear c
    have B3 := B2.trans (hb.mono B2.size)
    have h_a_3 := h_a_2.below hb
    have h_b_3 := h_b_2.below hb
    clear B2 h_a_2 h_b_2
    clear hb
    go_wp2_with fail
    go_ret
    exact ⟨rfl, B3⟩
  · have hn0 : n1 ≠ 0 := by rw [← hn1]; exact limbs_len0 hz
    have hb0 : ((n1 : Int) == 0) = false := by rw [beq_eq_false_iff_ne]; omega
    have hle : A / B * B ≤ A := Nat.div_mul_le_self A B
    have hmd : A % B < B := Nat.mod_lt A hz
    have hqle : A / B ≤ A := Nat.div_le_self A B
    have HS := Lib.hid (show A / B * B + A % B = A by rw [Nat.mul_comm]; exact Nat.div_add_mod A B)
    clear hn1
    go_enter Try.func8, Try.ntmps8
    go_wp2_with fail
    refine hv0.mono ?_
    rintro e w_ ⟨rfl, rfl⟩
    clear hv0
    have B0 : Below w.heap.size w w := Below.refl _ _
    have h_a_0 := h0
    have h_b_0 := h1
    have hb := (Below.refl w.heap.size w).alloc (Nat.le_refl _) (.cells #[.slice a0 n0 cap0, .slice a1 n1 cap1] 22)
    have B1 := B0.trans (hb.mono B0.size)
    have h_a_1 := h_a_0.below hb
    have h_b_1 := h_b_0.below hb
    clear B0 h_a_0 h_b_0
    clear hb
    generalize w.alloc (.cells #[.slice a0 n0 cap0, .slice a1 n1 cap1] 22) = w1 at *
    go_wp2_with fail
    have c := Div_any _ h_a_1 h_b_1
    rw [div_ok hA hB hz] at c
    refine c.mono ?_
    rintro e w2 ⟨a_q, n_q, c_q, a_r, n_r, c_r, rfl, h_q_2, h_r_2, hb⟩
    clear c
    have B2 := B1.trans (hb.mono B1.size)
    have h_a_2 := h_a_1.below hb
    have h_b_2 := h_b_1.below hb
    clear B1 h_a_1 h_b_1
    clear hb
    go_wp2_with fail
    have c := Mul_any _ h_q_2 h_b_2
    rw [mul_ok (Nat.lt_of_le_of_lt hqle hA) hB (Nat.lt_of_le_of_lt hle hA)] at c
    refine c.mono ?_
    rintro e w3 ⟨a_p, n_p, c_p, rfl, h_p_3, hb⟩
    clear c
    have B3 := B2.trans (hb.mono B2.size)
    have h_a_3 := h_a_2.below hb
    have h_b_3 := h_b_2.below hb
    have h_q_3 := h_q_2.below hb
    have h_r_3 := h_r_2.below hb
    clear B2 h_a_2 h_b_2 h_q_2 h_r_2
    clear hb
    go_wp2_with fail
    have c := Add_any _ h_p_3 h_r_3
    rw [add_ok (by rw [HS.out]; exact hA)] at c
    refine c.mono ?_
    rintro e w4 ⟨a_s, n_s, c_s, rfl, h_s_4, hb⟩
    clear c
    have B4 := B3.trans (hb.mono B3.size)
    have h_a_4 := h_a_3.below hb
    have h_b_4 := h_b_3.below hb
    have h_q_4 := h_q_3.below hb
    have h_r_4 := h_r_3.below hb
    have h_p_4 := h_p_3.below hb
    clear B3 h_a_3 h_b_3 h_q_3 h_r_3 h_p_3
    clear hb
    go_wp2_with fail
    have c := Cmp_any _ h_r_4 h_b_4
    rw [cmp_ok (Nat.lt_trans hmd hB) hB] at c
    rw [show cmpN (A % B) B = -1 from by unfold cmpN; rw [if_pos hmd]] at c
    refine c.mono ?_
    rintro e w_ ⟨rfl, nq, rfl⟩
    clear c
    have hb := below_drewN (Below.refl w4.heap.size w4) nq
    have B5 := B4.trans (hb.mono B4.size)
    have h_a_5 := h_a_4.below hb
    have h_b_5 := h_b_4.below hb
    have h_q_5 := h_q_4.below hb
    have h_r_5 := h_r_4.below hb
    have h_p_5 := h_p_4.below hb
    have h_s_5 := h_s_4.below hb
    clear B4 h_a_4 h_b_4 h_q_4 h_r_4 h_p_4 h_s_4
    clear hb
    generalize w4.drewN nq = w5 at *
    go_wp2_with fail
    have c := refSame_any _ h_s_5 h_a_5
    rw [same_eq HS.out] at c
    refine c.mono ?_
    rintro e w_ ⟨rfl, nq, rfl⟩
    clear c
    have hb := below_drewN (Below.refl w5.heap.size w5) nq
    have B6 := B5.trans (hb.mono B5.size)
    have h_a_6 := h_a_5.below hb
    have h_b_6 := h_b_5.below hb
    have h_q_6 := h_q_5.below hb
    have h_r_6 := h_r_5.below hb
    have h_p_6 := h_p_5.below hb
    have h_s_6 := h_s_5.below hb
    clear B5 h_a_5 h_b_5 h_q_5 h_r_5 h_p_5 h_s_5
    clear hb
    generalize w5.drewN nq = w6 at *
    go_wp2_with fail
    have c := Check_any _ h_q_6
    rw [chk_limbs (Nat.lt_of_le_of_lt hqle hA)] at c
    refine c.mono ?_
    rintro e w_ ⟨rfl, rfl⟩
    clear c
    go_wp2_with fail
    have c := wakes_any w6
    refine c.mono ?_
    rintro e w7 ⟨rfl, hb⟩
    clear c
    have B7 := B6.trans (hb.mono B6.size)
    have h_a_7 := h_a_6.below hb
    have h_b_7 := h_b_6.below hb
    have h_q_7 := h_q_6.below hb
    have h_r_7 := h_r_6.below hb
    have h_p_7 := h_p_6.below hb
    have h_s_7 := h_s_6.below hb
    clear B6 h_a_6 h_b_6 h_q_6 h_r_6 h_p_6 h_s_6
    clear hb
    go_wp2_with fail
    go_ret
    exact ⟨rfl, B7⟩
end Go.Proofs.Ytnjhmaeialnfiaa
