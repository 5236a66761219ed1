/- The walk of the law NatCommon: it returns true and turns nothing that was there. No condition. Printed by gen_nat.py. -/
import Derived.Test.YtnjhmaeialnfiaaNatY
import Derived.Test.YtnjhmaeialnfiaaNatApi
namespace Go.Proofs.Ytnjhmaeialnfiaa
open Go.RowKit Go.Suf
set_option linter.unusedVariables false
set_option linter.unusedSimpArgs false

theorem gcd_scale (A B C : Nat) : Nat.gcd (A * C) (B * C) = Nat.gcd A B * C := Nat.gcd_mul_right A C B

theorem gcd_quot {A B : Nat} (h : 0 < Nat.gcd A B) : Nat.gcd (A / Nat.gcd A B) (B / Nat.gcd A B) = 1 := Nat.coprime_div_gcd_div_gcd h

set_option maxRecDepth 100000 in
set_option maxHeartbeats 8000000 in
theorem natCommon_walk (w : World) {a0 : Option Addr} {n0 cap0 : Nat} {xs : List Nat} (h0 : Rd .u32 w a0 n0 cap0 xs) {a1 : Option Addr} {n1 cap1 : Nat} {ys : List Nat} (h1 : Rd .u32 w a1 n1 cap1 ys) {a2 : Option Addr} {n2 cap2 : Nat} {zs : List Nat} (h2 : Rd .u32 w a2 n2 cap2 zs) :
    Calls Try.prog 4 #[.slice a0 n0 cap0, .slice a1 n1 cap1, .slice a2 n2 cap2] w fun e w' => e = .returned (.bool true) ∧ Below w.heap.size w w' := by
  have hlit := rdNL_lit3 w h0 h1 h2
  have hv0 := right_any _ hlit 24 (by decide)
  by_cases hv : rightB 24 [xs, ys, zs] = true
  case neg =>
    have hf : rightB 24 [xs, ys, zs] = false := by simpa using hv
    rw [hf] at hv0
    clear hv hf hlit
    go_enter Try.func4, Try.ntmps4
    go_wp2_with fail
    refine hv0.mono ?_
    rintro e w1 ⟨rfl, rfl⟩
    clear hv0
    go_wp2_with fail
    refine (wakes_any _).mono ?_
    rintro e w2 ⟨rfl, hb⟩
    go_wp2_with fail
    go_ret
    exact ⟨rfl, ((Below.refl _ _).alloc (Nat.le_refl _) _).trans (hb.mono (by simp))⟩
  rw [hv] at hv0
  have hall : ∀ x ∈ [xs, ys, zs], vldN 24 x = true := by
    unfold rightB at hv
    rwa [decide_eq_true_eq] at hv
  obtain ⟨A, rfl, hA⟩ := vldN_limbs h0 (hall _ (by simp)) (by decide)
  obtain ⟨B, rfl, hB⟩ := vldN_limbs h1 (hall _ (by simp)) (by decide)
  obtain ⟨C, rfl, hC⟩ := vldN_limbs h2 (hall _ (by simp)) (by decide)
  clear hall hv hlit
  have hn0 := h0.len
  have hn1 := h1.len
  have hA' : A < pw 96 := pw_wide hA (by decide)
  have hB' : B < pw 96 := pw_wide hB (by decide)
  have hC' : C < pw 96 := pw_wide hC (by decide)
  by_cases hz : A = 0 ∧ B = 0
  · obtain ⟨rfl, rfl⟩ := hz
    obtain rfl : n0 = 0 := by rw [← hn0, limbs_zero]; rfl
    obtain rfl : n1 = 0 := by rw [← hn1, limbs_zero]; rfl
    clear hn0 hn1
    go_enter Try.func4, Try.ntmps4
    go_wp2_with fail
    refine hv0.mono ?_
    rintro e w_ ⟨rfl, rfl⟩
    clear hv0
    have B0 : Below w.heap.size w w := Below.refl _ _
    have h_a_0 := h0
    have h_b_0 := h1
    have h_c_0 := h2
    have hb := (Below.refl w.heap.size w).alloc (Nat.le_refl _) (.cells #[.slice a0 0 cap0, .slice a1 0 cap1, .slice a2 n2 cap2] 22)
    have B1 := B0.trans (hb.mono B0.size)
    have h_a_1 := h_a_0.below hb
    have h_b_1 := h_b_0.below hb
    have h_c_1 := h_c_0.below hb
    clear B0 h_a_0 h_b_0 h_c_0
    clear hb
    generalize w.alloc (.cells #[.slice a0 0 cap0, .slice a1 0 cap1, .slice a2 n2 cap2] 22) = w1 at *
    go_wp2_with fail
    have c := Gcd_any _ h_a_1 h_b_1
    rw [gcd_ok hA' hB', Nat.gcd_zero_left, limbs_zero] at c
    refine c.mono ?_
    rintro e w2 ⟨a_d, n_d, c_d, rfl, h_d_2, hb⟩
    clear c
    have B2 := B1.trans (hb.mono B1.size)
    have h_a_2 := h_a_1.below hb
    have h_b_2 := h_b_1.below hb
    have h_c_2 := h_c_1.below hb
    clear B1 h_a_1 h_b_1 h_c_1
    clear hb
    obtain rfl := h_d_2.len
    clear h_d_2
    go_wp2_with fail
    have c := wakes_any w2
    refine c.mono ?_
    rintro e w3 ⟨rfl, hb⟩
    clear c
    have B3 := B2.trans (hb.mono B2.size)
    have h_a_3 := h_a_2.below hb
    have h_b_3 := h_b_2.below hb
    have h_c_3 := h_c_2.below hb
    clear B2 h_a_2 h_b_2 h_c_2
    clear hb
    go_wp2_with fail
    go_ret
    exact ⟨rfl, B3⟩
  · have hD : 0 < Nat.gcd A B := Nat.pos_of_ne_zero fun e => hz (Nat.gcd_eq_zero_iff.1 e)
    have hn : (((n0 : Int) + (n1 : Int)) == 0) = false := by
      rw [beq_eq_false_iff_ne]
      intro e
      apply hz
      have e0 : n0 = 0 := by omega
      have e1 : n1 = 0 := by omega
      refine ⟨?_, ?_⟩
      · rcases Nat.eq_zero_or_pos A with h | h
        · exact h
        · exact absurd (hn0.trans e0) (limbs_len0 h)
      · rcases Nat.eq_zero_or_pos B with h | h
        · exact h
        · exact absurd (hn1.trans e1) (limbs_len0 h)
    have hl0 : n0 ≤ 24 := by rw [← hn0]; exact limbs_len_le hA
    have hl1 : n1 ≤ 24 := by rw [← hn1]; exact limbs_len_le hB
    have hda := Nat.mod_eq_zero_of_dvd (Nat.gcd_dvd_left A B)
    have hdb := Nat.mod_eq_zero_of_dvd (Nat.gcd_dvd_right A B)
    have hsc := gcd_scale A B C
    have hq := gcd_quot hD
    have hDl : Nat.gcd A B < pw 24 := by
      rcases Nat.eq_zero_or_pos A with h | h
      · subst h
        rw [Nat.gcd_zero_left]
        exact hB
      · exact Nat.lt_of_le_of_lt (Nat.gcd_le_left _ h) hA
    obtain ⟨D, hDD⟩ : ∃ D, D = Nat.gcd A B := ⟨_, rfl⟩
    rw [← hDD] at hD hda hdb hsc hq hDl
    have HDA := Lib.hid hda
    have HDB := Lib.hid hdb
    have HSC := Lib.hid hsc
    have HQ := Lib.hid hq
    have HDD := Lib.hid hDD
    have hD' : D < pw 96 := pw_wide hDl (by decide)
    have qa : A / D < pw 96 := Nat.lt_of_le_of_lt (Nat.div_le_self _ _) hA'
    have qb : B / D < pw 96 := Nat.lt_of_le_of_lt (Nat.div_le_self _ _) hB'
    clear hn0 hn1 hz hda hdb hsc hq hDD
    go_enter Try.func4, Try.ntmps4
    go_wp2_with fail
    refine hv0.mono ?_
    rintro e w_ ⟨rfl, rfl⟩
    clear hv0
    have B0 : Below w.heap.size w w := Below.refl _ _
    have h_a_0 := h0
    have h_b_0 := h1
    have h_c_0 := h2
    have hb := (Below.refl w.heap.size w).alloc (Nat.le_refl _) (.cells #[.slice a0 n0 cap0, .slice a1 n1 cap1, .slice a2 n2 cap2] 22)
    have B1 := B0.trans (hb.mono B0.size)
    have h_a_1 := h_a_0.below hb
    have h_b_1 := h_b_0.below hb
    have h_c_1 := h_c_0.below hb
    clear B0 h_a_0 h_b_0 h_c_0
    clear hb
    generalize w.alloc (.cells #[.slice a0 n0 cap0, .slice a1 n1 cap1, .slice a2 n2 cap2] 22) = w1 at *
    go_wp2_with fail
    have c := Gcd_any _ h_a_1 h_b_1
    rw [gcd_ok hA' hB', ← HDD.out] at c
    refine c.mono ?_
    rintro e w2 ⟨a_d, n_d, c_d, rfl, h_d_2, hb⟩
    clear c
    have B2 := B1.trans (hb.mono B1.size)
    have h_a_2 := h_a_1.below hb
    have h_b_2 := h_b_1.below hb
    have h_c_2 := h_c_1.below hb
    clear B1 h_a_1 h_b_1 h_c_1
    clear hb
    go_wp2_with fail
    have c := Div_any _ h_a_2 h_d_2
    rw [div_ok hA' hD' hD, HDA.out, limbs_zero] at c
    refine c.mono ?_
    rintro e w3 ⟨a_x, n_x, c_x, a_r, n_r, c_r, rfl, h_x_3, h_r_3, hb⟩
    clear c
    have B3 := B2.trans (hb.mono B2.size)
    have h_a_3 := h_a_2.below hb
    have h_b_3 := h_b_2.below hb
    have h_c_3 := h_c_2.below hb
    have h_d_3 := h_d_2.below hb
    clear B2 h_a_2 h_b_2 h_c_2 h_d_2
    clear hb
    obtain rfl := h_r_3.len
    clear h_r_3
    go_wp2_with fail
    have c := Div_any _ h_b_3 h_d_3
    rw [div_ok hB' hD' hD, HDB.out, limbs_zero] at c
    refine c.mono ?_
    rintro e w4 ⟨a_y, n_y, c_y, a_s, n_s, c_s, rfl, h_y_4, h_s_4, hb⟩
    clear c
    have B4 := B3.trans (hb.mono B3.size)
    have h_a_4 := h_a_3.below hb
    have h_b_4 := h_b_3.below hb
    have h_c_4 := h_c_3.below hb
    have h_d_4 := h_d_3.below hb
    have h_x_4 := h_x_3.below hb
    clear B3 h_a_3 h_b_3 h_c_3 h_d_3 h_x_3
    clear hb
    obtain rfl := h_s_4.len
    clear h_s_4
    go_wp2_with fail
    have c := Gcd_any _ h_x_4 h_y_4
    rw [gcd_ok qa qb, HQ.out] at c
    refine c.mono ?_
    rintro e w5 ⟨a_one, n_one, c_one, rfl, h_one_5, hb⟩
    clear c
    have B5 := B4.trans (hb.mono B4.size)
    have h_a_5 := h_a_4.below hb
    have h_b_5 := h_b_4.below hb
    have h_c_5 := h_c_4.below hb
    have h_d_5 := h_d_4.below hb
    have h_x_5 := h_x_4.below hb
    have h_y_5 := h_y_4.below hb
    clear B4 h_a_4 h_b_4 h_c_4 h_d_4 h_x_4 h_y_4
    clear hb
    clear h_x_5 h_y_5
    go_wp2_with fail
    have c := Mul_any _ h_a_5 h_c_5
    rw [mul_ok hA' hC' (pw_mul_lt hA hC (by decide))] at c
    refine c.mono ?_
    rintro e w6 ⟨a_ac, n_ac, c_ac, rfl, h_ac_6, hb⟩
    clear c
    have B6 := B5.trans (hb.mono B5.size)
    have h_a_6 := h_a_5.below hb
    have h_b_6 := h_b_5.below hb
    have h_c_6 := h_c_5.below hb
    have h_d_6 := h_d_5.below hb
    have h_one_6 := h_one_5.below hb
    clear B5 h_a_5 h_b_5 h_c_5 h_d_5 h_one_5
    clear hb
    go_wp2_with fail
    have c := Mul_any _ h_b_6 h_c_6
    rw [mul_ok hB' hC' (pw_mul_lt hB hC (by decide))] at c
    refine c.mono ?_
    rintro e w7 ⟨a_bc, n_bc, c_bc, rfl, h_bc_7, hb⟩
    clear c
    have B7 := B6.trans (hb.mono B6.size)
    have h_a_7 := h_a_6.below hb
    have h_b_7 := h_b_6.below hb
    have h_c_7 := h_c_6.below hb
    have h_d_7 := h_d_6.below hb
    have h_one_7 := h_one_6.below hb
    have h_ac_7 := h_ac_6.below hb
    clear B6 h_a_6 h_b_6 h_c_6 h_d_6 h_one_6 h_ac_6
    clear hb
    go_wp2_with fail
    have c := Mul_any _ h_d_7 h_c_7
    rw [mul_ok hD' hC' (pw_mul_lt hDl hC (by decide))] at c
    refine c.mono ?_
    rintro e w8 ⟨a_dc, n_dc, c_dc, rfl, h_dc_8, hb⟩
    clear c
    have B8 := B7.trans (hb.mono B7.size)
    have h_a_8 := h_a_7.below hb
    have h_b_8 := h_b_7.below hb
    have h_c_8 := h_c_7.below hb
    have h_d_8 := h_d_7.below hb
    have h_one_8 := h_one_7.below hb
    have h_ac_8 := h_ac_7.below hb
    have h_bc_8 := h_bc_7.below hb
    clear B7 h_a_7 h_b_7 h_c_7 h_d_7 h_one_7 h_ac_7 h_bc_7
    clear hb
    go_wp2_with fail
    have c := Gcd_any _ h_ac_8 h_bc_8
    rw [gcd_ok (pw_mul_lt hA hC (by decide)) (pw_mul_lt hB hC (by decide)), HSC.out] at c
    refine c.mono ?_
    rintro e w9 ⟨a_more, n_more, c_more, rfl, h_more_9, hb⟩
    clear c
    have B9 := B8.trans (hb.mono B8.size)
    have h_a_9 := h_a_8.below hb
    have h_b_9 := h_b_8.below hb
    have h_c_9 := h_c_8.below hb
    have h_d_9 := h_d_8.below hb
    have h_one_9 := h_one_8.below hb
    have h_ac_9 := h_ac_8.below hb
    have h_bc_9 := h_bc_8.below hb
    have h_dc_9 := h_dc_8.below hb
    clear B8 h_a_8 h_b_8 h_c_8 h_d_8 h_one_8 h_ac_8 h_bc_8 h_dc_8
    clear hb
    go_wp2_with fail
    have hb := al w9 (.cells #[.int .u32 (1 : Nat)] 36)
    have B10 := B9.trans (hb.mono B9.size)
    have h_l_10 := lit1 w9 1 (by decide)
    have h_a_10 := h_a_9.below hb
    have h_b_10 := h_b_9.below hb
    have h_c_10 := h_c_9.below hb
    have h_d_10 := h_d_9.below hb
    have h_one_10 := h_one_9.below hb
    have h_ac_10 := h_ac_9.below hb
    have h_bc_10 := h_bc_9.below hb
    have h_dc_10 := h_dc_9.below hb
    have h_more_10 := h_more_9.below hb
    clear B9 h_a_9 h_b_9 h_c_9 h_d_9 h_one_9 h_ac_9 h_bc_9 h_dc_9 h_more_9
    clear hb
    generalize w9.alloc (.cells #[.int .u32 (1 : Nat)] 36) = w10 at *
    go_wp2_with fail
    have c := refSame_any _ h_one_10 h_l_10
    rw [show sameN (limbs 1) [1] = true from by rw [limbs_of (xs := [1]) (by decide) (by unfold small32; decide) (by unfold canon; decide)]; exact same_self _] at c
    refine c.mono ?_
    rintro e w_ ⟨rfl, nq, rfl⟩
    clear c
    have hb := below_drewN (Below.refl w10.heap.size w10) nq
    have B11 := B10.trans (hb.mono B10.size)
    have h_a_11 := h_a_10.below hb
    have h_b_11 := h_b_10.below hb
    have h_c_11 := h_c_10.below hb
    have h_d_11 := h_d_10.below hb
    have h_one_11 := h_one_10.below hb
    have h_ac_11 := h_ac_10.below hb
    have h_bc_11 := h_bc_10.below hb
    have h_dc_11 := h_dc_10.below hb
    have h_more_11 := h_more_10.below hb
    have h_l_11 := h_l_10.below hb
    clear B10 h_a_10 h_b_10 h_c_10 h_d_10 h_one_10 h_ac_10 h_bc_10 h_dc_10 h_more_10 h_l_10
    clear hb
    generalize w10.drewN nq = w11 at *
    go_wp2_with fail
    have c := refSame_any _ h_more_11 h_dc_11
    rw [same_eq rfl] at c
    refine c.mono ?_
    rintro e w_ ⟨rfl, nq, rfl⟩
    clear c
    have hb := below_drewN (Below.refl w11.heap.size w11) nq
    have B12 := B11.trans (hb.mono B11.size)
    have h_a_12 := h_a_11.below hb
    have h_b_12 := h_b_11.below hb
    have h_c_12 := h_c_11.below hb
    have h_d_12 := h_d_11.below hb
    have h_one_12 := h_one_11.below hb
    have h_ac_12 := h_ac_11.below hb
    have h_bc_12 := h_bc_11.below hb
    have h_dc_12 := h_dc_11.below hb
    have h_more_12 := h_more_11.below hb
    have h_l_12 := h_l_11.below hb
    clear B11 h_a_11 h_b_11 h_c_11 h_d_11 h_one_11 h_ac_11 h_bc_11 h_dc_11 h_more_11 h_l_11
    clear hb
    generalize w11.drewN nq = w12 at *
    go_wp2_with fail
    have c := wakes_any w12
    refine c.mono ?_
    rintro e w13 ⟨rfl, hb⟩
    clear c
    have B13 := B12.trans (hb.mono B12.size)
    have h_a_13 := h_a_12.below hb
    have h_b_13 := h_b_12.below hb
    have h_c_13 := h_c_12.below hb
    have h_d_13 := h_d_12.below hb
    have h_one_13 := h_one_12.below hb
    have h_ac_13 := h_ac_12.below hb
    have h_bc_13 := h_bc_12.below hb
    have h_dc_13 := h_dc_12.below hb
    have h_more_13 := h_more_12.below hb
    have h_l_13 := h_l_12.below hb
    clear B12 h_a_12 h_b_12 h_c_12 h_d_12 h_one_12 h_ac_12 h_bc_12 h_dc_12 h_more_12 h_l_12
    clear hb
    go_wp2_with fail
    go_ret
    exact ⟨rfl, B13⟩
end Go.Proofs.Ytnjhmaeialnfiaa
