/- The walk of the law NatLess: it returns true and turns nothing that was there. No condition. Printed by gen_nat.py. -/
import Derived.Test.YtnjhmaeialnfiaaNatY
import Derived.Test.YtnjhmaeialnfiaaNatApi
namespace Go.Proofs.Ytnjhmaeialnfiaa
open Go.RowKit Go.Suf
set_option linter.unusedVariables false
set_option linter.unusedSimpArgs false

set_option maxRecDepth 100000 in
set_option maxHeartbeats 8000000 in
theorem natLess_walk (w : World) {a0 : Option Addr} {n0 cap0 : Nat} {xs : List Nat} (h0 : Rd .u32 w a0 n0 cap0 xs) {a1 : Option Addr} {n1 cap1 : Nat} {ys : List Nat} (h1 : Rd .u32 w a1 n1 cap1 ys) {a2 : Option Addr} {n2 cap2 : Nat} {zs : List Nat} (h2 : Rd .u32 w a2 n2 cap2 zs) :
    Calls Try.prog 7 #[.slice a0 n0 cap0, .slice a1 n1 cap1, .slice a2 n2 cap2] w fun e w' => e = .returned (.bool true) ∧ Below w.heap.size w w' := by
  have hlit := rdNL_lit3 w h0 h1 h2
  have hv0 := right_any _ hlit 90 (by decide)
  by_cases hv : rightB 90 [xs, ys, zs] = true
  case neg =>
    have hf : rightB 90 [xs, ys, zs] = false := by simpa using hv
    rw [hf] at hv0
    clear hv hf hlit
    go_enter Try.func7, Try.ntmps7
    go_wp2_with fail
    refine hv0.mono ?_
    rintro e w1 ⟨rfl, rfl⟩
    clear hv0
    go_wp2_with fail
    refine (wakes_any _).mono ?_
    rintro e w2 ⟨rfl, hb⟩
    go_wp2_with fail
    go_ret
    exact ⟨rfl, ((Below.refl _ _).alloc (Nat.le_refl _) _).trans (hb.mono (by simp))⟩
  rw [hv] at hv0
  have hall : ∀ x ∈ [xs, ys, zs], vldN 90 x = true := by
    unfold rightB at hv
    rwa [decide_eq_true_eq] at hv
  obtain ⟨A, rfl, hA⟩ := vldN_limbs h0 (hall _ (by simp)) (by decide)
  obtain ⟨B, rfl, hB⟩ := vldN_limbs h1 (hall _ (by simp)) (by decide)
  obtain ⟨C, rfl, hC⟩ := vldN_limbs h2 (hall _ (by simp)) (by decide)
  clear hall hv hlit
  have hAB : A + B < pw 96 := pw_add_lt hA hB (by decide)
  have hAC : A + C < pw 96 := pw_add_lt hA hC (by decide)
  have hBC : B + C < pw 96 := pw_add_lt hB hC (by decide)
  have hA' : A < pw 96 := pw_wide hA (by decide)
  have hB' : B < pw 96 := pw_wide hB (by decide)
  rcases Nat.lt_trichotomy A B with hlt | heq | hlt
  · skip
    go_enter Try.func7, Try.ntmps7
    go_wp2_with fail
    refine hv0.mono ?_
    rintro e w_ ⟨rfl, rfl⟩
    clear hv0
    have B0 : Below w.heap.size w w := Below.refl _ _
    have h_a_0 := h0
    have h_b_0 := h1
    have h_c_0 := h2
    have hb := (Below.refl w.heap.size w).alloc (Nat.le_refl _) (.cells #[.slice a0 n0 cap0, .slice a1 n1 cap1, .slice a2 n2 cap2] 22)
    have B1 := B0.trans (hb.mono B0.size)
    have h_a_1 := h_a_0.below hb
    have h_b_1 := h_b_0.below hb
    have h_c_1 := h_c_0.below hb
    clear B0 h_a_0 h_b_0 h_c_0
    clear hb
    generalize w.alloc (.cells #[.slice a0 n0 cap0, .slice a1 n1 cap1, .slice a2 n2 cap2] 22) = w1 at *
    go_wp2_with fail
    have c := Add_any _ h_a_1 h_b_1
    rw [add_ok hAB] at c
    refine c.mono ?_
    rintro e w2 ⟨a_ab, n_ab, c_ab, rfl, h_ab_2, hb⟩
    clear c
    have B2 := B1.trans (hb.mono B1.size)
    have h_a_2 := h_a_1.below hb
    have h_b_2 := h_b_1.below hb
    have h_c_2 := h_c_1.below hb
    clear B1 h_a_1 h_b_1 h_c_1
    clear hb
    go_wp2_with fail
    have c := Sub_any _ h_ab_2 h_b_2
    rw [sub_ok hAB (by omega)] at c
    refine c.mono ?_
    rintro e w3 ⟨a_x, n_x, c_x, rfl, h_x_3, hb⟩
    clear c
    have B3 := B2.trans (hb.mono B2.size)
    have h_a_3 := h_a_2.below hb
    have h_b_3 := h_b_2.below hb
    have h_c_3 := h_c_2.below hb
    have h_ab_3 := h_ab_2.below hb
    clear B2 h_a_2 h_b_2 h_c_2 h_ab_2
    clear hb
    go_wp2_with fail
    have c := refSame_any _ h_x_3 h_a_3
    rw [same_eq (by omega)] at c
    refine c.mono ?_
    rintro e w_ ⟨rfl, nq, rfl⟩
    clear c
    have hb := below_drewN (Below.refl w3.heap.size w3) nq
    have B4 := B3.trans (hb.mono B3.size)
    have h_a_4 := h_a_3.below hb
    have h_b_4 := h_b_3.below hb
    have h_c_4 := h_c_3.below hb
    have h_ab_4 := h_ab_3.below hb
    have h_x_4 := h_x_3.below hb
    clear B3 h_a_3 h_b_3 h_c_3 h_ab_3 h_x_3
    clear hb
    generalize w3.drewN nq = w4 at *
    clear h_x_4 h_ab_4
    go_wp2_with fail
    have c := Add_any _ h_a_4 h_c_4
    rw [add_ok hAC] at c
    refine c.mono ?_
    rintro e w5 ⟨a_ac, n_ac, c_ac, rfl, h_ac_5, hb⟩
    clear c
    have B5 := B4.trans (hb.mono B4.size)
    have h_a_5 := h_a_4.below hb
    have h_b_5 := h_b_4.below hb
    have h_c_5 := h_c_4.below hb
    clear B4 h_a_4 h_b_4 h_c_4
    clear hb
    go_wp2_with fail
    have c := Add_any _ h_b_5 h_c_5
    rw [add_ok hBC] at c
    refine c.mono ?_
    rintro e w6 ⟨a_bc, n_bc, c_bc, rfl, h_bc_6, hb⟩
    clear c
    have B6 := B5.trans (hb.mono B5.size)
    have h_a_6 := h_a_5.below hb
    have h_b_6 := h_b_5.below hb
    have h_c_6 := h_c_5.below hb
    have h_ac_6 := h_ac_5.below hb
    clear B5 h_a_5 h_b_5 h_c_5 h_ac_5
    clear hb
    go_wp2_with fail
    have c := Cmp_any _ h_a_6 h_b_6
    rw [cmp_ok hA' hB'] at c
    rw [show cmpN (A) (B) = -1 from by unfold cmpN; rw [if_pos (by omega)]] at c
    refine c.mono ?_
    rintro e w_ ⟨rfl, nq, rfl⟩
    clear c
    have hb := below_drewN (Below.refl w6.heap.size w6) nq
    have B7 := B6.trans (hb.mono B6.size)
    have h_a_7 := h_a_6.below hb
    have h_b_7 := h_b_6.below hb
    have h_c_7 := h_c_6.below hb
    have h_ac_7 := h_ac_6.below hb
    have h_bc_7 := h_bc_6.below hb
    clear B6 h_a_6 h_b_6 h_c_6 h_ac_6 h_bc_6
    clear hb
    generalize w6.drewN nq = w7 at *
    go_wp2_with fail
    have c := Cmp_any _ h_ac_7 h_bc_7
    rw [cmp_ok hAC hBC] at c
    rw [show cmpN (A + C) (B + C) = -1 from by unfold cmpN; rw [if_pos (by omega)]] at c
    refine c.mono ?_
    rintro e w_ ⟨rfl, nq, rfl⟩
    clear c
    have hb := below_drewN (Below.refl w7.heap.size w7) nq
    have B8 := B7.trans (hb.mono B7.size)
    have h_a_8 := h_a_7.below hb
    have h_b_8 := h_b_7.below hb
    have h_c_8 := h_c_7.below hb
    have h_ac_8 := h_ac_7.below hb
    have h_bc_8 := h_bc_7.below hb
    clear B7 h_a_7 h_b_7 h_c_7 h_ac_7 h_bc_7
    clear hb
    generalize w7.drewN nq = w8 at *
    go_wp2_with fail
    have c := Cmp_any _ h_b_8 h_a_8
    rw [cmp_ok hB' hA'] at c
    rw [show cmpN (B) (A) = 1 from by unfold cmpN; rw [if_neg (by omega), if_pos (by omega)]] at c
    refine c.mono ?_
    rintro e w_ ⟨rfl, nq, rfl⟩
    clear c
    have hb := below_drewN (Below.refl w8.heap.size w8) nq
    have B9 := B8.trans (hb.mono B8.size)
    have h_a_9 := h_a_8.below hb
    have h_b_9 := h_b_8.below hb
    have h_c_9 := h_c_8.below hb
    have h_ac_9 := h_ac_8.below hb
    have h_bc_9 := h_bc_8.below hb
    clear B8 h_a_8 h_b_8 h_c_8 h_ac_8 h_bc_8
    clear hb
    generalize w8.drewN nq = w9 at *
    clear h_ac_9 h_bc_9 h_c_9
    go_wp2_with fail
    have c := Sub_any _ h_a_9 h_b_9
    rw [sub_none hB' hlt] at c
    refine c.mono ?_
    rintro e w10 ⟨a_x10, n_x10, c_x10, rfl, hd, hb⟩
    clear c
    have B10 := B9.trans (hb.mono B9.size)
    have h_a_10 := h_a_9.below hb
    have h_b_10 := h_b_9.below hb
    clear B9 h_a_9 h_b_9
    clear hb
    obtain rfl := hd.len
    clear hd
    go_wp2_with fail
    have c := Same_any _ h_a_10 h_b_10
    rw [same_ok, show decide (A = B) = false from by rw [decide_eq_false_iff_not]; omega] at c
    refine c.mono ?_
    rintro e w_ ⟨rfl, nq, rfl⟩
    clear c
    have hb := below_drewN (Below.refl w10.heap.size w10) nq
    have B11 := B10.trans (hb.mono B10.size)
    have h_a_11 := h_a_10.below hb
    have h_b_11 := h_b_10.below hb
    clear B10 h_a_10 h_b_10
    clear hb
    generalize w10.drewN nq = w11 at *
    go_wp2_with fail
    have c := wakes_any w11
    refine c.mono ?_
    rintro e w12 ⟨rfl, hb⟩
    clear c
    have B12 := B11.trans (hb.mono B11.size)
    have h_a_12 := h_a_11.below hb
    have h_b_12 := h_b_11.below hb
    clear B11 h_a_11 h_b_11
    clear hb
    go_wp2_with fail
    go_ret
    exact ⟨rfl, B12⟩
  · skip
    have HEQ := Lib.hid heq
    clear heq
    go_enter Try.func7, Try.ntmps7
    go_wp2_with fail
    refine hv0.mono ?_
    rintro e w_ ⟨rfl, rfl⟩
    clear hv0
    have B0 : Below w.heap.size w w := Below.refl _ _
    have h_a_0 := h0
    have h_b_0 := h1
    have h_c_0 := h2
    have hb := (Below.refl w.heap.size w).alloc (Nat.le_refl _) (.cells #[.slice a0 n0 cap0, .slice a1 n1 cap1, .slice a2 n2 cap2] 22)
    have B1 := B0.trans (hb.mono B0.size)
    have h_a_1 := h_a_0.below hb
    have h_b_1 := h_b_0.below hb
    have h_c_1 := h_c_0.below hb
    clear B0 h_a_0 h_b_0 h_c_0
    clear hb
    generalize w.alloc (.cells #[.slice a0 n0 cap0, .slice a1 n1 cap1, .slice a2 n2 cap2] 22) = w1 at *
    go_wp2_with fail
    have c := Add_any _ h_a_1 h_b_1
    rw [add_ok hAB] at c
    refine c.mono ?_
    rintro e w2 ⟨a_ab, n_ab, c_ab, rfl, h_ab_2, hb⟩
    clear c
    have B2 := B1.trans (hb.mono B1.size)
    have h_a_2 := h_a_1.below hb
    have h_b_2 := h_b_1.below hb
    have h_c_2 := h_c_1.below hb
    clear B1 h_a_1 h_b_1 h_c_1
    clear hb
    go_wp2_with fail
    have c := Sub_any _ h_ab_2 h_b_2
    rw [sub_ok hAB (by omega)] at c
    refine c.mono ?_
    rintro e w3 ⟨a_x, n_x, c_x, rfl, h_x_3, hb⟩
    clear c
    have B3 := B2.trans (hb.mono B2.size)
    have h_a_3 := h_a_2.below hb
    have h_b_3 := h_b_2.below hb
    have h_c_3 := h_c_2.below hb
    have h_ab_3 := h_ab_2.below hb
    clear B2 h_a_2 h_b_2 h_c_2 h_ab_2
    clear hb
    go_wp2_with fail
    have c := refSame_any _ h_x_3 h_a_3
    rw [same_eq (by omega)] at c
    refine c.mono ?_
    rintro e w_ ⟨rfl, nq, rfl⟩
    clear c
    have hb := below_drewN (Below.refl w3.heap.size w3) nq
    have B4 := B3.trans (hb.mono B3.size)
    have h_a_4 := h_a_3.below hb
    have h_b_4 := h_b_3.below hb
    have h_c_4 := h_c_3.below hb
    have h_ab_4 := h_ab_3.below hb
    have h_x_4 := h_x_3.below hb
    clear B3 h_a_3 h_b_3 h_c_3 h_ab_3 h_x_3
    clear hb
    generalize w3.drewN nq = w4 at *
    clear h_x_4 h_ab_4
    go_wp2_with fail
    have c := Add_any _ h_a_4 h_c_4
    rw [add_ok hAC] at c
    refine c.mono ?_
    rintro e w5 ⟨a_ac, n_ac, c_ac, rfl, h_ac_5, hb⟩
    clear c
    have B5 := B4.trans (hb.mono B4.size)
    have h_a_5 := h_a_4.below hb
    have h_b_5 := h_b_4.below hb
    have h_c_5 := h_c_4.below hb
    clear B4 h_a_4 h_b_4 h_c_4
    clear hb
    go_wp2_with fail
    have c := Add_any _ h_b_5 h_c_5
    rw [add_ok hBC] at c
    refine c.mono ?_
    rintro e w6 ⟨a_bc, n_bc, c_bc, rfl, h_bc_6, hb⟩
    clear c
    have B6 := B5.trans (hb.mono B5.size)
    have h_a_6 := h_a_5.below hb
    have h_b_6 := h_b_5.below hb
    have h_c_6 := h_c_5.below hb
    have h_ac_6 := h_ac_5.below hb
    clear B5 h_a_5 h_b_5 h_c_5 h_ac_5
    clear hb
    go_wp2_with fail
    have c := Cmp_any _ h_a_6 h_b_6
    rw [cmp_ok hA' hB'] at c
    rw [show cmpN (A) (B) = 0 from by unfold cmpN; rw [if_neg (by have := HEQ.out; omega), if_neg (by have := HEQ.out; omega)]] at c
    refine c.mono ?_
    rintro e w_ ⟨rfl, nq, rfl⟩
    clear c
    have hb := below_drewN (Below.refl w6.heap.size w6) nq
    have B7 := B6.trans (hb.mono B6.size)
    have h_a_7 := h_a_6.below hb
    have h_b_7 := h_b_6.below hb
    have h_c_7 := h_c_6.below hb
    have h_ac_7 := h_ac_6.below hb
    have h_bc_7 := h_bc_6.below hb
    clear B6 h_a_6 h_b_6 h_c_6 h_ac_6 h_bc_6
    clear hb
    generalize w6.drewN nq = w7 at *
    go_wp2_with fail
    have c := Cmp_any _ h_ac_7 h_bc_7
    rw [cmp_ok hAC hBC] at c
    rw [show cmpN (A + C) (B + C) = 0 from by unfold cmpN; rw [if_neg (by have := HEQ.out; omega), if_neg (by have := HEQ.out; omega)]] at c
    refine c.mono ?_
    rintro e w_ ⟨rfl, nq, rfl⟩
    clear c
    have hb := below_drewN (Below.refl w7.heap.size w7) nq
    have B8 := B7.trans (hb.mono B7.size)
    have h_a_8 := h_a_7.below hb
    have h_b_8 := h_b_7.below hb
    have h_c_8 := h_c_7.below hb
    have h_ac_8 := h_ac_7.below hb
    have h_bc_8 := h_bc_7.below hb
    clear B7 h_a_7 h_b_7 h_c_7 h_ac_7 h_bc_7
    clear hb
    generalize w7.drewN nq = w8 at *
    go_wp2_with fail
    have c := Cmp_any _ h_b_8 h_a_8
    rw [cmp_ok hB' hA'] at c
    rw [show cmpN (B) (A) = 0 from by unfold cmpN; rw [if_neg (by have := HEQ.out; omega), if_neg (by have := HEQ.out; omega)]] at c
    refine c.mono ?_
    rintro e w_ ⟨rfl, nq, rfl⟩
    clear c
    have hb := below_drewN (Below.refl w8.heap.size w8) nq
    have B9 := B8.trans (hb.mono B8.size)
    have h_a_9 := h_a_8.below hb
    have h_b_9 := h_b_8.below hb
    have h_c_9 := h_c_8.below hb
    have h_ac_9 := h_ac_8.below hb
    have h_bc_9 := h_bc_8.below hb
    clear B8 h_a_8 h_b_8 h_c_8 h_ac_8 h_bc_8
    clear hb
    generalize w8.drewN nq = w9 at *
    clear h_ac_9 h_bc_9 h_c_9
    go_wp2_with fail
    have c := Sub_any _ h_a_9 h_b_9
    rw [sub_ok hA' (by have := HEQ.out; omega)] at c
    refine c.mono ?_
    rintro e w10 ⟨a_d, n_d, c_d, rfl, h_d_10, hb⟩
    clear c
    have B10 := B9.trans (hb.mono B9.size)
    have h_a_10 := h_a_9.below hb
    have h_b_10 := h_b_9.below hb
    clear B9 h_a_9 h_b_9
    clear hb
    go_wp2_with fail
    have c := Same_any _ h_a_10 h_b_10
    rw [same_ok, show decide (A = B) = true from by rw [decide_eq_true_eq]; exact HEQ.out] at c
    refine c.mono ?_
    rintro e w_ ⟨rfl, nq, rfl⟩
    clear c
    have hb := below_drewN (Below.refl w10.heap.size w10) nq
    have B11 := B10.trans (hb.mono B10.size)
    have h_a_11 := h_a_10.below hb
    have h_b_11 := h_b_10.below hb
    have h_d_11 := h_d_10.below hb
    clear B10 h_a_10 h_b_10 h_d_10
    clear hb
    generalize w10.drewN nq = w11 at *
    go_wp2_with fail
    have c := Add_any _ h_d_11 h_b_11
    rw [add_ok (by have := hA'; have := HEQ.out; omega)] at c
    refine c.mono ?_
    rintro e w12 ⟨a_k, n_k, c_k, rfl, h_k_12, hb⟩
    clear c
    have B12 := B11.trans (hb.mono B11.size)
    have h_a_12 := h_a_11.below hb
    have h_b_12 := h_b_11.below hb
    have h_d_12 := h_d_11.below hb
    clear B11 h_a_11 h_b_11 h_d_11
    clear hb
    go_wp2_with fail
    have c := refSame_any _ h_k_12 h_a_12
    rw [same_eq (by have := HEQ.out; omega)] at c
    refine c.mono ?_
    rintro e w_ ⟨rfl, nq, rfl⟩
    clear c
    have hb := below_drewN (Below.refl w12.heap.size w12) nq
    have B13 := B12.trans (hb.mono B12.size)
    have h_a_13 := h_a_12.below hb
    have h_b_13 := h_b_12.below hb
    have h_d_13 := h_d_12.below hb
    have h_k_13 := h_k_12.below hb
    clear B12 h_a_12 h_b_12 h_d_12 h_k_12
    clear hb
    generalize w12.drewN nq = w13 at *
    go_wp2_with fail
    have c := wakes_any w13
    refine c.mono ?_
    rintro e w14 ⟨rfl, hb⟩
    clear c
    have B14 := B13.trans (hb.mono B13.size)
    have h_a_14 := h_a_13.below hb
    have h_b_14 := h_b_13.below hb
    have h_d_14 := h_d_13.below hb
    have h_k_14 := h_k_13.below hb
    clear B13 h_a_13 h_b_13 h_d_13 h_k_13
    clear hb
    go_wp2_with fail
    go_ret
    exact ⟨rfl, B14⟩
  · skip
    go_enter Try.func7, Try.ntmps7
    go_wp2_with fail
    refine hv0.mono ?_
    rintro e w_ ⟨rfl, rfl⟩
    clear hv0
    have B0 : Below w.heap.size w w := Below.refl _ _
    have h_a_0 := h0
    have h_b_0 := h1
    have h_c_0 := h2
    have hb := (Below.refl w.heap.size w).alloc (Nat.le_refl _) (.cells #[.slice a0 n0 cap0, .slice a1 n1 cap1, .slice a2 n2 cap2] 22)
    have B1 := B0.trans (hb.mono B0.size)
    have h_a_1 := h_a_0.below hb
    have h_b_1 := h_b_0.below hb
    have h_c_1 := h_c_0.below hb
    clear B0 h_a_0 h_b_0 h_c_0
    clear hb
    generalize w.alloc (.cells #[.slice a0 n0 cap0, .slice a1 n1 cap1, .slice a2 n2 cap2] 22) = w1 at *
    go_wp2_with fail
    have c := Add_any _ h_a_1 h_b_1
    rw [add_ok hAB] at c
    refine c.mono ?_
    rintro e w2 ⟨a_ab, n_ab, c_ab, rfl, h_ab_2, hb⟩
    clear c
    have B2 := B1.trans (hb.mono B1.size)
    have h_a_2 := h_a_1.below hb
    have h_b_2 := h_b_1.below hb
    have h_c_2 := h_c_1.below hb
    clear B1 h_a_1 h_b_1 h_c_1
    clear hb
    go_wp2_with fail
    have c := Sub_any _ h_ab_2 h_b_2
    rw [sub_ok hAB (by omega)] at c
    refine c.mono ?_
    rintro e w3 ⟨a_x, n_x, c_x, rfl, h_x_3, hb⟩
    clear c
    have B3 := B2.trans (hb.mono B2.size)
    have h_a_3 := h_a_2.below hb
    have h_b_3 := h_b_2.below hb
    have h_c_3 := h_c_2.below hb
    have h_ab_3 := h_ab_2.below hb
    clear B2 h_a_2 h_b_2 h_c_2 h_ab_2
    clear hb
    go_wp2_with fail
    have c := refSame_any _ h_x_3 h_a_3
    rw [same_eq (by omega)] at c
    refine c.mono ?_
    rintro e w_ ⟨rfl, nq, rfl⟩
    clear c
    have hb := below_drewN (Below.refl w3.heap.size w3) nq
    have B4 := B3.trans (hb.mono B3.size)
    have h_a_4 := h_a_3.below hb
    have h_b_4 := h_b_3.below hb
    have h_c_4 := h_c_3.below hb
    have h_ab_4 := h_ab_3.below hb
    have h_x_4 := h_x_3.below hb
    clear B3 h_a_3 h_b_3 h_c_3 h_ab_3 h_x_3
    clear hb
    generalize w3.drewN nq = w4 at *
    clear h_x_4 h_ab_4
    go_wp2_with fail
    have c := Add_any _ h_a_4 h_c_4
    rw [add_ok hAC] at c
    refine c.mono ?_
    rintro e w5 ⟨a_ac, n_ac, c_ac, rfl, h_ac_5, hb⟩
    clear c
    have B5 := B4.trans (hb.mono B4.size)
    have h_a_5 := h_a_4.below hb
    have h_b_5 := h_b_4.below hb
    have h_c_5 := h_c_4.below hb
    clear B4 h_a_4 h_b_4 h_c_4
    clear hb
    go_wp2_with fail
    have c := Add_any _ h_b_5 h_c_5
    rw [add_ok hBC] at c
    refine c.mono ?_
    rintro e w6 ⟨a_bc, n_bc, c_bc, rfl, h_bc_6, hb⟩
    clear c
    have B6 := B5.trans (hb.mono B5.size)
    have h_a_6 := h_a_5.below hb
    have h_b_6 := h_b_5.below hb
    have h_c_6 := h_c_5.below hb
    have h_ac_6 := h_ac_5.below hb
    clear B5 h_a_5 h_b_5 h_c_5 h_ac_5
    clear hb
    go_wp2_with fail
    have c := Cmp_any _ h_a_6 h_b_6
    rw [cmp_ok hA' hB'] at c
    rw [show cmpN (A) (B) = 1 from by unfold cmpN; rw [if_neg (by omega), if_pos (by omega)]] at c
    refine c.mono ?_
    rintro e w_ ⟨rfl, nq, rfl⟩
    clear c
    have hb := below_drewN (Below.refl w6.heap.size w6) nq
    have B7 := B6.trans (hb.mono B6.size)
    have h_a_7 := h_a_6.below hb
    have h_b_7 := h_b_6.below hb
    have h_c_7 := h_c_6.below hb
    have h_ac_7 := h_ac_6.below hb
    have h_bc_7 := h_bc_6.below hb
    clear B6 h_a_6 h_b_6 h_c_6 h_ac_6 h_bc_6
    clear hb
    generalize w6.drewN nq = w7 at *
    go_wp2_with fail
    have c := Cmp_any _ h_ac_7 h_bc_7
    rw [cmp_ok hAC hBC] at c
    rw [show cmpN (A + C) (B + C) = 1 from by unfold cmpN; rw [if_neg (by omega), if_pos (by omega)]] at c
    refine c.mono ?_
    rintro e w_ ⟨rfl, nq, rfl⟩
    clear c
    have hb := below_drewN (Below.refl w7.heap.size w7) nq
    have B8 := B7.trans (hb.mono B7.size)
    have h_a_8 := h_a_7.below hb
    have h_b_8 := h_b_7.below hb
    have h_c_8 := h_c_7.below hb
    have h_ac_8 := h_ac_7.below hb
    have h_bc_8 := h_bc_7.below hb
    clear B7 h_a_7 h_b_7 h_c_7 h_ac_7 h_bc_7
    clear hb
    generalize w7.drewN nq = w8 at *
    go_wp2_with fail
    have c := Cmp_any _ h_b_8 h_a_8
    rw [cmp_ok hB' hA'] at c
    rw [show cmpN (B) (A) = -1 from by unfold cmpN; rw [if_pos (by omega)]] at c
    refine c.mono ?_
    rintro e w_ ⟨rfl, nq, rfl⟩
    clear c
    have hb := below_drewN (Below.refl w8.heap.size w8) nq
    have B9 := B8.trans (hb.mono B8.size)
    have h_a_9 := h_a_8.below hb
    have h_b_9 := h_b_8.below hb
    have h_c_9 := h_c_8.below hb
    have h_ac_9 := h_ac_8.below hb
    have h_bc_9 := h_bc_8.below hb
    clear B8 h_a_8 h_b_8 h_c_8 h_ac_8 h_bc_8
    clear hb
    generalize w8.drewN nq = w9 at *
    clear h_ac_9 h_bc_9 h_c_9
    go_wp2_with fail
    have c := Sub_any _ h_a_9 h_b_9
    rw [sub_ok hA' (by omega)] at c
    refine c.mono ?_
    rintro e w10 ⟨a_d, n_d, c_d, rfl, h_d_10, hb⟩
    clear c
    have B10 := B9.trans (hb.mono B9.size)
    have h_a_10 := h_a_9.below hb
    have h_b_10 := h_b_9.below hb
    clear B9 h_a_9 h_b_9
    clear hb
    go_wp2_with fail
    have c := Same_any _ h_a_10 h_b_10
    rw [same_ok, show decide (A = B) = false from by rw [decide_eq_false_iff_not]; omega] at c
    refine c.mono ?_
    rintro e w_ ⟨rfl, nq, rfl⟩
    clear c
    have hb := below_drewN (Below.refl w10.heap.size w10) nq
    have B11 := B10.trans (hb.mono B10.size)
    have h_a_11 := h_a_10.below hb
    have h_b_11 := h_b_10.below hb
    have h_d_11 := h_d_10.below hb
    clear B10 h_a_10 h_b_10 h_d_10
    clear hb
    generalize w10.drewN nq = w11 at *
    go_wp2_with fail
    have c := Add_any _ h_d_11 h_b_11
    rw [add_ok (by have := hA'; omega)] at c
    refine c.mono ?_
    rintro e w12 ⟨a_k, n_k, c_k, rfl, h_k_12, hb⟩
    clear c
    have B12 := B11.trans (hb.mono B11.size)
    have h_a_12 := h_a_11.below hb
    have h_b_12 := h_b_11.below hb
    have h_d_12 := h_d_11.below hb
    clear B11 h_a_11 h_b_11 h_d_11
    clear hb
    go_wp2_with fail
    have c := refSame_any _ h_k_12 h_a_12
    rw [same_eq (by omega)] at c
    refine c.mono ?_
    rintro e w_ ⟨rfl, nq, rfl⟩
    clear c
    have hb := below_drewN (Below.refl w12.heap.size w12) nq
    have B13 := B12.trans (hb.mono B12.size)
    have h_a_13 := h_a_12.below hb
    have h_b_13 := h_b_12.below hb
    have h_d_13 := h_d_12.below hb
    have h_k_13 := h_k_12.below hb
    clear B12 h_a_12 h_b_12 h_d_12 h_k_12
    clear hb
    generalize w12.drewN nq = w13 at *
    go_wp2_with fail
    have c := wakes_any w13
    refine c.mono ?_
    rintro e w14 ⟨rfl, hb⟩
    clear c
    have B14 := B13.trans (hb.mono B13.size)
    have h_a_14 := h_a_13.below hb
    have h_b_14 := h_b_13.below hb
    have h_d_14 := h_d_13.below hb
    have h_k_14 := h_k_13.below hb
    clear B13 h_a_13 h_b_13 h_d_13 h_k_13
    clear hb
    go_wp2_with fail
    go_ret
    exact ⟨rfl, B14⟩
end Go.Proofs.Ytnjhmaeialnfiaa
