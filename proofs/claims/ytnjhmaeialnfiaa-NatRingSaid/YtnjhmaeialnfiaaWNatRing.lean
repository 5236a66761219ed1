/- The walk of the law NatRing: it returns true and turns nothing that was there. No condition. Printed by gen_nat.py. -/
import Derived.Test.YtnjhmaeialnfiaaNatY
import Derived.Test.YtnjhmaeialnfiaaNatApi
namespace Go.Proofs.Ytnjhmaeialnfiaa
open Go.RowKit Go.Suf
set_option linter.unusedVariables false
set_option linter.unusedSimpArgs false

set_option maxRecDepth 100000 in
set_option maxHeartbeats 8000000 in
theorem natRing_walk (w : World) {a0 : Option Addr} {n0 cap0 : Nat} {xs : List Nat} (h0 : Rd .u32 w a0 n0 cap0 xs) {a1 : Option Addr} {n1 cap1 : Nat} {ys : List Nat} (h1 : Rd .u32 w a1 n1 cap1 ys) {a2 : Option Addr} {n2 cap2 : Nat} {zs : List Nat} (h2 : Rd .u32 w a2 n2 cap2 zs) :
    Calls Try.prog 6 #[.slice a0 n0 cap0, .slice a1 n1 cap1, .slice a2 n2 cap2] w fun e w' => e = .returned (.bool true) ∧ Below w.heap.size w w' := by
  have hlit := rdNL_lit3 w h0 h1 h2
  have hv0 := right_any _ hlit 30 (by decide)
  by_cases hv : rightB 30 [xs, ys, zs] = true
  case neg =>
    have hf : rightB 30 [xs, ys, zs] = false := by simpa using hv
    rw [hf] at hv0
    clear hv hf hlit
    go_enter Try.func6, Try.ntmps6
    go_wp2_with fail
    refine hv0.mono ?_
    rintro e w1 ⟨rfl, rfl⟩
    clear hv0
    go_wp2_with fail
    refine (wakes_any _).mono ?_
    rintro e w2 ⟨rfl, hb⟩
    go_wp2_with fail
    go_ret
    exact ⟨rfl, ((Below.refl _ _).alloc (Nat.le_refl _) _).trans (hb.mono (by simp))⟩
  rw [hv] at hv0
  have hall : ∀ x ∈ [xs, ys, zs], vldN 30 x = true := by
    unfold rightB at hv
    rwa [decide_eq_true_eq] at hv
  obtain ⟨A, rfl, hA⟩ := vldN_limbs h0 (hall _ (by simp)) (by decide)
  obtain ⟨B, rfl, hB⟩ := vldN_limbs h1 (hall _ (by simp)) (by decide)
  obtain ⟨C, rfl, hC⟩ := vldN_limbs h2 (hall _ (by simp)) (by decide)
  clear hall hv hlit
  have hAB : A + B < pw 31 := pw_add_lt hA hB (by decide)
  have hBC : B + C < pw 31 := pw_add_lt hB hC (by decide)
  have mAB : A * B < pw 60 := pw_mul_lt hA hB (by decide)
  have mBC : B * C < pw 60 := pw_mul_lt hB hC (by decide)
  have mAC : A * C < pw 60 := pw_mul_lt hA hC (by decide)
  go_enter Try.func6, Try.ntmps6
  go_wp2_with fail
  refine hv0.mono ?_
  rintro e w_ ⟨rfl, rfl⟩
  clear hv0
  have B0 : Below w.heap.size w w := Below.refl _ _
  have h_a_0 := h0
  have h_b_0 := h1
  have h_c_0 := h2
  have hb := (Below.refl w.heap.size w).alloc (Nat.le_refl _) (.cells #[.slice a0 n0 cap0, .slice a1 n1 cap1, .slice a2 n2 cap2] 22)
  have B1 := B0.trans (hb.mono B0.size)
  have h_a_1 := h_a_0.below hb
  have h_b_1 := h_b_0.below hb
  have h_c_1 := h_c_0.below hb
  clear B0 h_a_0 h_b_0 h_c_0
  clear hb
  generalize w.alloc (.cells #[.slice a0 n0 cap0, .slice a1 n1 cap1, .slice a2 n2 cap2] 22) = w1 at *
  go_wp2_with fail
  have c := Add_any _ h_a_1 h_b_1
  rw [add_ok (pw_wide hAB (by decide))] at c
  refine c.mono ?_
  rintro e w2 ⟨a_ab, n_ab, c_ab, rfl, h_ab_2, hb⟩
  clear c
  have B2 := B1.trans (hb.mono B1.size)
  have h_a_2 := h_a_1.below hb
  have h_b_2 := h_b_1.below hb
  have h_c_2 := h_c_1.below hb
  clear B1 h_a_1 h_b_1 h_c_1
  clear hb
  go_wp2_with fail
  have c := Add_any _ h_b_2 h_a_2
  rw [add_ok (by rw [Nat.add_comm]; exact pw_wide hAB (by decide))] at c
  refine c.mono ?_
  rintro e w3 ⟨a_ba, n_ba, c_ba, rfl, h_ba_3, hb⟩
  clear c
  have B3 := B2.trans (hb.mono B2.size)
  have h_a_3 := h_a_2.below hb
  have h_b_3 := h_b_2.below hb
  have h_c_3 := h_c_2.below hb
  have h_ab_3 := h_ab_2.below hb
  clear B2 h_a_2 h_b_2 h_c_2 h_ab_2
  clear hb
  go_wp2_with fail
  have c := Add_any _ h_b_3 h_c_3
  rw [add_ok (pw_wide hBC (by decide))] at c
  refine c.mono ?_
  rintro e w4 ⟨a_bc, n_bc, c_bc, rfl, h_bc_4, hb⟩
  clear c
  have B4 := B3.trans (hb.mono B3.size)
  have h_a_4 := h_a_3.below hb
  have h_b_4 := h_b_3.below hb
  have h_c_4 := h_c_3.below hb
  have h_ab_4 := h_ab_3.below hb
  have h_ba_4 := h_ba_3.below hb
  clear B3 h_a_3 h_b_3 h_c_3 h_ab_3 h_ba_3
  clear hb
  go_wp2_with fail
  have c := Add_any _ h_ab_4 h_c_4
  rw [add_ok (pw_add_lt hAB (pw_wide hC (by decide)) (by decide))] at c
  refine c.mono ?_
  rintro e w5 ⟨a_x, n_x, c_x, rfl, h_x_5, hb⟩
  clear c
  have B5 := B4.trans (hb.mono B4.size)
  have h_a_5 := h_a_4.below hb
  have h_b_5 := h_b_4.below hb
  have h_c_5 := h_c_4.below hb
  have h_ab_5 := h_ab_4.below hb
  have h_ba_5 := h_ba_4.below hb
  have h_bc_5 := h_bc_4.below hb
  clear B4 h_a_4 h_b_4 h_c_4 h_ab_4 h_ba_4 h_bc_4
  clear hb
  go_wp2_with fail
  have c := Add_any _ h_a_5 h_bc_5
  rw [add_ok (pw_add_lt (pw_wide hA (by decide)) hBC (by decide))] at c
  refine c.mono ?_
  rintro e w6 ⟨a_y, n_y, c_y, rfl, h_y_6, hb⟩
  clear c
  have B6 := B5.trans (hb.mono B5.size)
  have h_a_6 := h_a_5.below hb
  have h_b_6 := h_b_5.below hb
  have h_c_6 := h_c_5.below hb
  have h_ab_6 := h_ab_5.below hb
  have h_ba_6 := h_ba_5.below hb
  have h_bc_6 := h_bc_5.below hb
  have h_x_6 := h_x_5.below hb
  clear B5 h_a_5 h_b_5 h_c_5 h_ab_5 h_ba_5 h_bc_5 h_x_5
  clear hb
  go_wp2_with fail
  have c := refSame_any _ h_ab_6 h_ba_6
  rw [same_eq (Nat.add_comm A B)] at c
  refine c.mono ?_
  rintro e w_ ⟨rfl, nq, rfl⟩
  clear c
  have hb := below_drewN (Below.refl w6.heap.size w6) nq
  have B7 := B6.trans (hb.mono B6.size)
  have h_a_7 := h_a_6.below hb
  have h_b_7 := h_b_6.below hb
  have h_c_7 := h_c_6.below hb
  have h_ab_7 := h_ab_6.below hb
  have h_ba_7 := h_ba_6.below hb
  have h_bc_7 := h_bc_6.below hb
  have h_x_7 := h_x_6.below hb
  have h_y_7 := h_y_6.below hb
  clear B6 h_a_6 h_b_6 h_c_6 h_ab_6 h_ba_6 h_bc_6 h_x_6 h_y_6
  clear hb
  generalize w6.drewN nq = w7 at *
  go_wp2_with fail
  have c := refSame_any _ h_x_7 h_y_7
  rw [same_eq (Nat.add_assoc A B C)] at c
  refine c.mono ?_
  rintro e w_ ⟨rfl, nq, rfl⟩
  clear c
  have hb := below_drewN (Below.refl w7.heap.size w7) nq
  have B8 := B7.trans (hb.mono B7.size)
  have h_a_8 := h_a_7.below hb
  have h_b_8 := h_b_7.below hb
  have h_c_8 := h_c_7.below hb
  have h_ab_8 := h_ab_7.below hb
  have h_ba_8 := h_ba_7.below hb
  have h_bc_8 := h_bc_7.below hb
  have h_x_8 := h_x_7.below hb
  have h_y_8 := h_y_7.below hb
  clear B7 h_a_7 h_b_7 h_c_7 h_ab_7 h_ba_7 h_bc_7 h_x_7 h_y_7
  clear hb
  generalize w7.drewN nq = w8 at *
  clear h_ba_8 h_x_8 h_y_8 h_bc_8
  go_wp2_with fail
  have c := Mul_any _ h_a_8 h_b_8
  rw [mul_ok (pw_wide hA (by decide)) (pw_wide hB (by decide)) (pw_wide mAB (by decide))] at c
  refine c.mono ?_
  rintro e w9 ⟨a_p, n_p, c_p, rfl, h_p_9, hb⟩
  clear c
  have B9 := B8.trans (hb.mono B8.size)
  have h_a_9 := h_a_8.below hb
  have h_b_9 := h_b_8.below hb
  have h_c_9 := h_c_8.below hb
  have h_ab_9 := h_ab_8.below hb
  clear B8 h_a_8 h_b_8 h_c_8 h_ab_8
  clear hb
  go_wp2_with fail
  have c := Mul_any _ h_b_9 h_a_9
  rw [mul_ok (pw_wide hB (by decide)) (pw_wide hA (by decide)) (by rw [Nat.mul_comm]; exact pw_wide mAB (by decide))] at c
  refine c.mono ?_
  rintro e w10 ⟨a_q, n_q, c_q, rfl, h_q_10, hb⟩
  clear c
  have B10 := B9.trans (hb.mono B9.size)
  have h_a_10 := h_a_9.below hb
  have h_b_10 := h_b_9.below hb
  have h_c_10 := h_c_9.below hb
  have h_ab_10 := h_ab_9.below hb
  have h_p_10 := h_p_9.below hb
  clear B9 h_a_9 h_b_9 h_c_9 h_ab_9 h_p_9
  clear hb
  go_wp2_with fail
  have c := Mul_any _ h_b_10 h_c_10
  rw [mul_ok (pw_wide hB (by decide)) (pw_wide hC (by decide)) (pw_wide mBC (by decide))] at c
  refine c.mono ?_
  rintro e w11 ⟨a_r, n_r, c_r, rfl, h_r_11, hb⟩
  clear c
  have B11 := B10.trans (hb.mono B10.size)
  have h_a_11 := h_a_10.below hb
  have h_b_11 := h_b_10.below hb
  have h_c_11 := h_c_10.below hb
  have h_ab_11 := h_ab_10.below hb
  have h_p_11 := h_p_10.below hb
  have h_q_11 := h_q_10.below hb
  clear B10 h_a_10 h_b_10 h_c_10 h_ab_10 h_p_10 h_q_10
  clear hb
  go_wp2_with fail
  have c := Mul_any _ h_p_11 h_c_11
  rw [mul_ok (pw_wide mAB (by decide)) (pw_wide hC (by decide)) (pw_mul_lt mAB hC (by decide))] at c
  refine c.mono ?_
  rintro e w12 ⟨a_s, n_s, c_s, rfl, h_s_12, hb⟩
  clear c
  have B12 := B11.trans (hb.mono B11.size)
  have h_a_12 := h_a_11.below hb
  have h_b_12 := h_b_11.below hb
  have h_c_12 := h_c_11.below hb
  have h_ab_12 := h_ab_11.below hb
  have h_p_12 := h_p_11.below hb
  have h_q_12 := h_q_11.below hb
  have h_r_12 := h_r_11.below hb
  clear B11 h_a_11 h_b_11 h_c_11 h_ab_11 h_p_11 h_q_11 h_r_11
  clear hb
  go_wp2_with fail
  have c := Mul_any _ h_a_12 h_r_12
  rw [mul_ok (pw_wide hA (by decide)) (pw_wide mBC (by decide)) (pw_mul_lt hA mBC (by decide))] at c
  refine c.mono ?_
  rintro e w13 ⟨a_t, n_t, c_t, rfl, h_t_13, hb⟩
  clear c
  have B13 := B12.trans (hb.mono B12.size)
  have h_a_13 := h_a_12.below hb
  have h_b_13 := h_b_12.below hb
  have h_c_13 := h_c_12.below hb
  have h_ab_13 := h_ab_12.below hb
  have h_p_13 := h_p_12.below hb
  have h_q_13 := h_q_12.below hb
  have h_r_13 := h_r_12.below hb
  have h_s_13 := h_s_12.below hb
  clear B12 h_a_12 h_b_12 h_c_12 h_ab_12 h_p_12 h_q_12 h_r_12 h_s_12
  clear hb
  go_wp2_with fail
  have c := refSame_any _ h_p_13 h_q_13
  rw [same_eq (Nat.mul_comm A B)] at c
  refine c.mono ?_
  rintro e w_ ⟨rfl, nq, rfl⟩
  clear c
  have hb := below_drewN (Below.refl w13.heap.size w13) nq
  have B14 := B13.trans (hb.mono B13.size)
  have h_a_14 := h_a_13.below hb
  have h_b_14 := h_b_13.below hb
  have h_c_14 := h_c_13.below hb
  have h_ab_14 := h_ab_13.below hb
  have h_p_14 := h_p_13.below hb
  have h_q_14 := h_q_13.below hb
  have h_r_14 := h_r_13.below hb
  have h_s_14 := h_s_13.below hb
  have h_t_14 := h_t_13.below hb
  clear B13 h_a_13 h_b_13 h_c_13 h_ab_13 h_p_13 h_q_13 h_r_13 h_s_13 h_t_13
  clear hb
  generalize w13.drewN nq = w14 at *
  go_wp2_with fail
  have c := refSame_any _ h_s_14 h_t_14
  rw [same_eq (Nat.mul_assoc A B C)] at c
  refine c.mono ?_
  rintro e w_ ⟨rfl, nq, rfl⟩
  clear c
  have hb := below_drewN (Below.refl w14.heap.size w14) nq
  have B15 := B14.trans (hb.mono B14.size)
  have h_a_15 := h_a_14.below hb
  have h_b_15 := h_b_14.below hb
  have h_c_15 := h_c_14.below hb
  have h_ab_15 := h_ab_14.below hb
  have h_p_15 := h_p_14.below hb
  have h_q_15 := h_q_14.below hb
  have h_r_15 := h_r_14.below hb
  have h_s_15 := h_s_14.below hb
  have h_t_15 := h_t_14.below hb
  clear B14 h_a_14 h_b_14 h_c_14 h_ab_14 h_p_14 h_q_14 h_r_14 h_s_14 h_t_14
  clear hb
  generalize w14.drewN nq = w15 at *
  clear h_p_15 h_q_15 h_s_15 h_t_15
  go_wp2_with fail
  have c := Mul_any _ h_ab_15 h_c_15
  rw [mul_ok (pw_wide hAB (by decide)) (pw_wide hC (by decide)) (pw_mul_lt hAB hC (by decide))] at c
  refine c.mono ?_
  rintro e w16 ⟨a_u, n_u, c_u, rfl, h_u_16, hb⟩
  clear c
  have B16 := B15.trans (hb.mono B15.size)
  have h_a_16 := h_a_15.below hb
  have h_b_16 := h_b_15.below hb
  have h_c_16 := h_c_15.below hb
  have h_ab_16 := h_ab_15.below hb
  have h_r_16 := h_r_15.below hb
  clear B15 h_a_15 h_b_15 h_c_15 h_ab_15 h_r_15
  clear hb
  go_wp2_with fail
  have c := Mul_any _ h_a_16 h_c_16
  rw [mul_ok (pw_wide hA (by decide)) (pw_wide hC (by decide)) (pw_wide mAC (by decide))] at c
  refine c.mono ?_
  rintro e w17 ⟨a_v, n_v, c_v, rfl, h_v_17, hb⟩
  clear c
  have B17 := B16.trans (hb.mono B16.size)
  have h_a_17 := h_a_16.below hb
  have h_b_17 := h_b_16.below hb
  have h_c_17 := h_c_16.below hb
  have h_ab_17 := h_ab_16.below hb
  have h_r_17 := h_r_16.below hb
  have h_u_17 := h_u_16.below hb
  clear B16 h_a_16 h_b_16 h_c_16 h_ab_16 h_r_16 h_u_16
  clear hb
  go_wp2_with fail
  have c := Add_any _ h_v_17 h_r_17
  rw [add_ok (pw_add_lt mAC mBC (by decide))] at c
  refine c.mono ?_
  rintro e w18 ⟨a_z, n_z, c_z, rfl, h_z_18, hb⟩
  clear c
  have B18 := B17.trans (hb.mono B17.size)
  have h_a_18 := h_a_17.below hb
  have h_b_18 := h_b_17.below hb
  have h_c_18 := h_c_17.below hb
  have h_ab_18 := h_ab_17.below hb
  have h_r_18 := h_r_17.below hb
  have h_u_18 := h_u_17.below hb
  have h_v_18 := h_v_17.below hb
  clear B17 h_a_17 h_b_17 h_c_17 h_ab_17 h_r_17 h_u_17 h_v_17
  clear hb
  go_wp2_with fail
  have c := refSame_any _ h_u_18 h_z_18
  rw [same_eq (Nat.add_mul A B C)] at c
  refine c.mono ?_
  rintro e w_ ⟨rfl, nq, rfl⟩
  clear c
  have hb := below_drewN (Below.refl w18.heap.size w18) nq
  have B19 := B18.trans (hb.mono B18.size)
  have h_a_19 := h_a_18.below hb
  have h_b_19 := h_b_18.below hb
  have h_c_19 := h_c_18.below hb
  have h_ab_19 := h_ab_18.below hb
  have h_r_19 := h_r_18.below hb
  have h_u_19 := h_u_18.below hb
  have h_v_19 := h_v_18.below hb
  have h_z_19 := h_z_18.below hb
  clear B18 h_a_18 h_b_18 h_c_18 h_ab_18 h_r_18 h_u_18 h_v_18 h_z_18
  clear hb
  generalize w18.drewN nq = w19 at *
  go_wp2_with fail
  have c := wakes_any w19
  refine c.mono ?_
  rintro e w20 ⟨rfl, hb⟩
  clear c
  have B20 := B19.trans (hb.mono B19.size)
  have h_a_20 := h_a_19.below hb
  have h_b_20 := h_b_19.below hb
  have h_c_20 := h_c_19.below hb
  have h_ab_20 := h_ab_19.below hb
  have h_r_20 := h_r_19.below hb
  have h_u_20 := h_u_19.below hb
  have h_v_20 := h_v_19.below hb
  have h_z_20 := h_z_19.below hb
  clear B19 h_a_19 h_b_19 h_c_19 h_ab_19 h_r_19 h_u_19 h_v_19 h_z_19
  clear hb
  go_wp2_with fail
  go_ret
  exact ⟨rfl, B20⟩
end Go.Proofs.Ytnjhmaeialnfiaa
