/- The walk of the law NatTells: it returns true and turns nothing that was there. No condition. Printed by gen_nat.py. -/
import Derived.Test.YtnjhmaeialnfiaaNatY
import Derived.Test.YtnjhmaeialnfiaaNatApi
namespace Go.Proofs.Ytnjhmaeialnfiaa
open Go.RowKit Go.Suf
set_option linter.unusedVariables false
set_option linter.unusedSimpArgs false

set_option maxRecDepth 100000 in
set_option maxHeartbeats 8000000 in
theorem natTells_walk (w : World) {a0 : Option Addr} {n0 cap0 : Nat} {xs : List Nat} (h0 : Rd .u32 w a0 n0 cap0 xs) {a1 : Option Addr} {n1 cap1 : Nat} {ys : List Nat} (h1 : Rd .u32 w a1 n1 cap1 ys) (m : Nat) (hm0 : m < lim .u64) :
    Calls Try.prog 9 #[.slice a0 n0 cap0, .slice a1 n1 cap1, .int .u64 (m : Nat)] w fun e w' => e = .returned (.bool true) ∧ Below w.heap.size w w' := by
  have hm : m < 18446744073709551616 := hm0
  clear hm0
  by_cases hA : 200 < n0
  · go_enter Try.func9, Try.ntmps9
    go_wp2_with fail
    refine (wakes_any _).mono ?_
    rintro e w2 ⟨rfl, hb⟩
    go_wp2_with fail
    go_ret
    exact ⟨rfl, hb⟩
  have hd0 : decide ((200 : Int) < (n0 : Int)) = false := by simp; omega
  by_cases hB : 200 < n1
  · go_enter Try.func9, Try.ntmps9
    go_wp2_with fail
    refine (wakes_any _).mono ?_
    rintro e w2 ⟨rfl, hb⟩
    go_wp2_with fail
    go_ret
    exact ⟨rfl, hb⟩
  have hd1 : decide ((200 : Int) < (n1 : Int)) = false := by simp; omega
  have HM := Lib.hid hm
  clear hm hA hB
  go_enter Try.func9, Try.ntmps9
  have B0 : Below w.heap.size w w := Below.refl _ _
  have h_a_0 := h0
  have h_b_0 := h1
  go_wp2_with fail
  have c := Word_any _ h_a_0
  refine c.mono ?_
  rintro e w_ ⟨rfl, rfl⟩
  clear c
  go_wp2_with fail
  have c := refWord_any _ h_a_0
  refine c.mono ?_
  rintro e w_ ⟨rfl, rfl⟩
  clear c
  go_wp2_with fail
  have c := Cmp_any _ h_a_0 h_b_0
  refine c.mono ?_
  rintro e w_ ⟨rfl, nq, rfl⟩
  clear c
  have hb := below_drewN (Below.refl w.heap.size w) nq
  have B1 := B0.trans (hb.mono B0.size)
  have h_a_1 := h_a_0.below hb
  have h_b_1 := h_b_0.below hb
  clear B0 h_a_0 h_b_0
  clear hb
  generalize w.drewN nq = w1 at *
  go_wp2_with fail
  have c := refCmp_any _ h_a_1 h_b_1
  refine c.mono ?_
  rintro e w_ ⟨rfl, nq, rfl⟩
  clear c
  have hb := below_drewN (Below.refl w1.heap.size w1) nq
  have B2 := B1.trans (hb.mono B1.size)
  have h_a_2 := h_a_1.below hb
  have h_b_2 := h_b_1.below hb
  clear B1 h_a_1 h_b_1
  clear hb
  generalize w1.drewN nq = w2 at *
  go_wp2_with fail
  have c := Check_any _ h_a_2
  refine c.mono ?_
  rintro e w_ ⟨rfl, rfl⟩
  clear c
  go_wp2_with fail
  have c := refCheck_any _ h_a_2
  refine c.mono ?_
  rintro e w_ ⟨rfl, rfl⟩
  clear c
  go_wp2_with fail
  have c := Same_any _ h_a_2 h_b_2
  refine c.mono ?_
  rintro e w_ ⟨rfl, nq, rfl⟩
  clear c
  have hb := below_drewN (Below.refl w2.heap.size w2) nq
  have B3 := B2.trans (hb.mono B2.size)
  have h_a_3 := h_a_2.below hb
  have h_b_3 := h_b_2.below hb
  clear B2 h_a_2 h_b_2
  clear hb
  generalize w2.drewN nq = w3 at *
  go_wp2_with fail
  have c := refSame_any _ h_a_3 h_b_3
  refine c.mono ?_
  rintro e w_ ⟨rfl, nq, rfl⟩
  clear c
  have hb := below_drewN (Below.refl w3.heap.size w3) nq
  have B4 := B3.trans (hb.mono B3.size)
  have h_a_4 := h_a_3.below hb
  have h_b_4 := h_b_3.below hb
  clear B3 h_a_3 h_b_3
  clear hb
  generalize w3.drewN nq = w4 at *
  go_wp2_with fail
  have c := Of_any w4 m HM.out
  refine c.mono ?_
  rintro e w5 ⟨a_o, n_o, c_o, rfl, h_o_5, hb⟩
  clear c
  have B5 := B4.trans (hb.mono B4.size)
  have h_a_5 := h_a_4.below hb
  have h_b_5 := h_b_4.below hb
  clear B4 h_a_4 h_b_4
  clear hb
  go_wp2_with fail
  have c := refOf_any w5 m HM.out
  refine c.mono ?_
  rintro e w6 ⟨a_p, n_p, c_p, rfl, h_p_6, hb⟩
  clear c
  have B6 := B5.trans (hb.mono B5.size)
  have h_a_6 := h_a_5.below hb
  have h_b_6 := h_b_5.below hb
  have h_o_6 := h_o_5.below hb
  clear B5 h_a_5 h_b_5 h_o_5
  clear hb
  go_wp2_with fail
  have c := refSame_any _ h_o_6 h_p_6
  rw [same_self] at c
  refine c.mono ?_
  rintro e w_ ⟨rfl, nq, rfl⟩
  clear c
  have hb := below_drewN (Below.refl w6.heap.size w6) nq
  have B7 := B6.trans (hb.mono B6.size)
  have h_a_7 := h_a_6.below hb
  have h_b_7 := h_b_6.below hb
  have h_o_7 := h_o_6.below hb
  have h_p_7 := h_p_6.below hb
  clear B6 h_a_6 h_b_6 h_o_6 h_p_6
  clear hb
  generalize w6.drewN nq = w7 at *
  clear h_o_7 h_p_7
  go_wp2_with fail
  have c := Add_any _ h_a_7 h_b_7
  refine c.mono ?_
  rintro e w8 ⟨a_s, n_s, c_s, rfl, h_s_8, hb⟩
  clear c
  have B8 := B7.trans (hb.mono B7.size)
  have h_a_8 := h_a_7.below hb
  have h_b_8 := h_b_7.below hb
  clear B7 h_a_7 h_b_7
  clear hb
  go_wp2_with fail
  have c := refAdd_any _ h_a_8 h_b_8
  refine c.mono ?_
  rintro e w9 ⟨a_t, n_t, c_t, rfl, h_t_9, hb⟩
  clear c
  have B9 := B8.trans (hb.mono B8.size)
  have h_a_9 := h_a_8.below hb
  have h_b_9 := h_b_8.below hb
  have h_s_9 := h_s_8.below hb
  clear B8 h_a_8 h_b_8 h_s_8
  clear hb
  go_wp2_with fail
  have c := Sub_any _ h_a_9 h_b_9
  refine c.mono ?_
  rintro e w10 ⟨a_d, n_d, c_d, rfl, h_d_10, hb⟩
  clear c
  have B10 := B9.trans (hb.mono B9.size)
  have h_a_10 := h_a_9.below hb
  have h_b_10 := h_b_9.below hb
  have h_s_10 := h_s_9.below hb
  have h_t_10 := h_t_9.below hb
  clear B9 h_a_9 h_b_9 h_s_9 h_t_9
  clear hb
  go_wp2_with fail
  have c := refSub_any _ h_a_10 h_b_10
  refine c.mono ?_
  rintro e w11 ⟨a_f, n_f, c_f, rfl, h_f_11, hb⟩
  clear c
  have B11 := B10.trans (hb.mono B10.size)
  have h_a_11 := h_a_10.below hb
  have h_b_11 := h_b_10.below hb
  have h_s_11 := h_s_10.below hb
  have h_t_11 := h_t_10.below hb
  have h_d_11 := h_d_10.below hb
  clear B10 h_a_10 h_b_10 h_s_10 h_t_10 h_d_10
  clear hb
  go_wp2_with fail
  have c := Mul_any _ h_a_11 h_b_11
  refine c.mono ?_
  rintro e w12 ⟨a_x, n_x, c_x, rfl, h_x_12, hb⟩
  clear c
  have B12 := B11.trans (hb.mono B11.size)
  have h_a_12 := h_a_11.below hb
  have h_b_12 := h_b_11.below hb
  have h_s_12 := h_s_11.below hb
  have h_t_12 := h_t_11.below hb
  have h_d_12 := h_d_11.below hb
  have h_f_12 := h_f_11.below hb
  clear B11 h_a_11 h_b_11 h_s_11 h_t_11 h_d_11 h_f_11
  clear hb
  go_wp2_with fail
  have c := refMul_any _ h_a_12 h_b_12
  refine c.mono ?_
  rintro e w13 ⟨a_y, n_y, c_y, rfl, h_y_13, hb⟩
  clear c
  have B13 := B12.trans (hb.mono B12.size)
  have h_a_13 := h_a_12.below hb
  have h_b_13 := h_b_12.below hb
  have h_s_13 := h_s_12.below hb
  have h_t_13 := h_t_12.below hb
  have h_d_13 := h_d_12.below hb
  have h_f_13 := h_f_12.below hb
  have h_x_13 := h_x_12.below hb
  clear B12 h_a_12 h_b_12 h_s_12 h_t_12 h_d_12 h_f_12 h_x_12
  clear hb
  go_wp2_with fail
  have c := refSame_any _ h_s_13 h_t_13
  rw [same_self] at c
  refine c.mono ?_
  rintro e w_ ⟨rfl, nq, rfl⟩
  clear c
  have hb := below_drewN (Below.refl w13.heap.size w13) nq
  have B14 := B13.trans (hb.mono B13.size)
  have h_a_14 := h_a_13.below hb
  have h_b_14 := h_b_13.below hb
  have h_s_14 := h_s_13.below hb
  have h_t_14 := h_t_13.below hb
  have h_d_14 := h_d_13.below hb
  have h_f_14 := h_f_13.below hb
  have h_x_14 := h_x_13.below hb
  have h_y_14 := h_y_13.below hb
  clear B13 h_a_13 h_b_13 h_s_13 h_t_13 h_d_13 h_f_13 h_x_13 h_y_13
  clear hb
  generalize w13.drewN nq = w14 at *
  go_wp2_with fail
  have c := refSame_any _ h_d_14 h_f_14
  rw [same_self] at c
  refine c.mono ?_
  rintro e w_ ⟨rfl, nq, rfl⟩
  clear c
  have hb := below_drewN (Below.refl w14.heap.size w14) nq
  have B15 := B14.trans (hb.mono B14.size)
  have h_a_15 := h_a_14.below hb
  have h_b_15 := h_b_14.below hb
  have h_s_15 := h_s_14.below hb
  have h_t_15 := h_t_14.below hb
  have h_d_15 := h_d_14.below hb
  have h_f_15 := h_f_14.below hb
  have h_x_15 := h_x_14.below hb
  have h_y_15 := h_y_14.below hb
  clear B14 h_a_14 h_b_14 h_s_14 h_t_14 h_d_14 h_f_14 h_x_14 h_y_14
  clear hb
  generalize w14.drewN nq = w15 at *
  go_wp2_with fail
  have c := refSame_any _ h_x_15 h_y_15
  rw [same_self] at c
  refine c.mono ?_
  rintro e w_ ⟨rfl, nq, rfl⟩
  clear c
  have hb := below_drewN (Below.refl w15.heap.size w15) nq
  have B16 := B15.trans (hb.mono B15.size)
  have h_a_16 := h_a_15.below hb
  have h_b_16 := h_b_15.below hb
  have h_s_16 := h_s_15.below hb
  have h_t_16 := h_t_15.below hb
  have h_d_16 := h_d_15.below hb
  have h_f_16 := h_f_15.below hb
  have h_x_16 := h_x_15.below hb
  have h_y_16 := h_y_15.below hb
  clear B15 h_a_15 h_b_15 h_s_15 h_t_15 h_d_15 h_f_15 h_x_15 h_y_15
  clear hb
  generalize w15.drewN nq = w16 at *
  go_wp2_with fail
  have c := wakes_any w16
  refine c.mono ?_
  rintro e w17 ⟨rfl, hb⟩
  clear c
  have B17 := B16.trans (hb.mono B16.size)
  have h_a_17 := h_a_16.below hb
  have h_b_17 := h_b_16.below hb
  have h_s_17 := h_s_16.below hb
  have h_t_17 := h_t_16.below hb
  have h_d_17 := h_d_16.below hb
  have h_f_17 := h_f_16.below hb
  have h_x_17 := h_x_16.below hb
  have h_y_17 := h_y_16.below hb
  clear B16 h_a_16 h_b_16 h_s_16 h_t_16 h_d_16 h_f_16 h_x_16 h_y_16
  clear hb
  go_wp2_with fail
  go_ret
  exact ⟨rfl, B17⟩
end Go.Proofs.Ytnjhmaeialnfiaa
