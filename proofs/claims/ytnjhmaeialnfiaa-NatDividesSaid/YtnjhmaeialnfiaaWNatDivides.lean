/- The walk of the law NatDivides: it returns true and turns nothing that was there. No condition. Printed by gen_nat.py. -/
import Derived.Test.YtnjhmaeialnfiaaNatY
import Derived.Test.YtnjhmaeialnfiaaNatApi
namespace Go.Proofs.Ytnjhmaeialnfiaa
open Go.RowKit Go.Suf
set_option linter.unusedVariables false
set_option linter.unusedSimpArgs false

set_option maxRecDepth 100000 in
set_option maxHeartbeats 8000000 in
theorem natDivides_walk (w : World) {a0 : Option Addr} {n0 cap0 : Nat} {xs : List Nat} (h0 : Rd .u32 w a0 n0 cap0 xs) {a1 : Option Addr} {n1 cap1 : Nat} {ys : List Nat} (h1 : Rd .u32 w a1 n1 cap1 ys) (s : ByteArray) (_hs : s.size ≤ maxLen) :
    Calls Try.prog 3 #[.slice a0 n0 cap0, .slice a1 n1 cap1, .string s] w fun e w' => e = .returned (.bool true) ∧ Below w.heap.size w w' := by
  obtain ⟨ss, rfl, hss⟩ : ∃ ss, s = strB ss ∧ ∀ x ∈ ss, x < 256 := ⟨bytesOf s, (strB_bytesOf s).symm, bytesOf_bd s⟩
  have hsz := strB_size ss
  by_cases hA : 200 < n0
  · go_enter Try.func3, Try.ntmps3
    go_wp2_with fail
    refine (wakes_any _).mono ?_
    rintro e w2 ⟨rfl, hb⟩
    go_wp2_with fail
    go_ret
    exact ⟨rfl, hb⟩
  have hd0 : decide ((200 : Int) < (n0 : Int)) = false := by simp; omega
  by_cases hB : 200 < n1
  · go_enter Try.func3, Try.ntmps3
    go_wp2_with fail
    refine (wakes_any _).mono ?_
    rintro e w2 ⟨rfl, hb⟩
    go_wp2_with fail
    go_ret
    exact ⟨rfl, hb⟩
  have hd1 : decide ((200 : Int) < (n1 : Int)) = false := by simp; omega
  by_cases hC : 2000 < ss.length
  · go_enter Try.func3, Try.ntmps3
    go_wp2_with fail
    refine (wakes_any _).mono ?_
    rintro e w2 ⟨rfl, hb⟩
    go_wp2_with fail
    go_ret
    exact ⟨rfl, hb⟩
  have hd2 : decide ((2000 : Int) < (ss.length : Int)) = false := by simp; omega
  have hl : ss.length ≤ 1099511627776 := by omega
  have HS := Lib.hid hss
  clear hss hA hB hC _hs
  have hcase : longB xs = true ∨ longB xs = false ∧ longB ys = true ∨ longB xs = false ∧ longB ys = false := by
    cases longB xs <;> cases longB ys <;> simp
  rcases hcase with hx | ⟨hx, hy⟩ | ⟨hx, hy⟩
  · have HX := Lib.hid hx
    clear hx
    go_enter Try.func3, Try.ntmps3
    have B0 : Below w.heap.size w w := Below.refl _ _
    have h_a_0 := h0
    have h_b_0 := h1
    go_wp2_with fail
    have c := Div_any _ h_a_0 h_b_0
    refine c.mono ?_
    rintro e w1 ⟨a_q, n_q, c_q, a_r, n_r, c_r, rfl, h_q_1, h_r_1, hb⟩
    clear c
    have B1 := B0.trans (hb.mono B0.size)
    have h_a_1 := h_a_0.below hb
    have h_b_1 := h_b_0.below hb
    clear B0 h_a_0 h_b_0
    clear hb
    go_wp2_with fail
    have c := refDiv_any _ h_a_1 h_b_1
    refine c.mono ?_
    rintro e w2 ⟨a_x, n_x, c_x, a_y, n_y, c_y, rfl, h_x_2, h_y_2, hb⟩
    clear c
    have B2 := B1.trans (hb.mono B1.size)
    have h_a_2 := h_a_1.below hb
    have h_b_2 := h_b_1.below hb
    have h_q_2 := h_q_1.below hb
    have h_r_2 := h_r_1.below hb
    clear B1 h_a_1 h_b_1 h_q_1 h_r_1
    clear hb
    go_wp2_with fail
    have c := Text_any _ h_a_2
    refine c.mono ?_
    rintro e w3 ⟨rfl, hb⟩
    clear c
    have B3 := B2.trans (hb.mono B2.size)
    have h_a_3 := h_a_2.below hb
    have h_b_3 := h_b_2.below hb
    have h_q_3 := h_q_2.below hb
    have h_r_3 := h_r_2.below hb
    have h_x_3 := h_x_2.below hb
    have h_y_3 := h_y_2.below hb
    clear B2 h_a_2 h_b_2 h_q_2 h_r_2 h_x_2 h_y_2
    clear hb
    go_wp2_with fail
    have c := refText_any _ h_a_3
    refine c.mono ?_
    rintro e w4 ⟨rfl, hb⟩
    clear c
    have B4 := B3.trans (hb.mono B3.size)
    have h_a_4 := h_a_3.below hb
    have h_b_4 := h_b_3.below hb
    have h_q_4 := h_q_3.below hb
    have h_r_4 := h_r_3.below hb
    have h_x_4 := h_x_3.below hb
    have h_y_4 := h_y_3.below hb
    clear B3 h_a_3 h_b_3 h_q_3 h_r_3 h_x_3 h_y_3
    clear hb
    go_wp2_with fail
    have c := Read_any w4 ss HS.out hl
    refine c.mono ?_
    rintro e w5 ⟨a_n, n_n, c_n, rfl, h_n_5, hb⟩
    clear c
    have B5 := B4.trans (hb.mono B4.size)
    have h_a_5 := h_a_4.below hb
    have h_b_5 := h_b_4.below hb
    have h_q_5 := h_q_4.below hb
    have h_r_5 := h_r_4.below hb
    have h_x_5 := h_x_4.below hb
    have h_y_5 := h_y_4.below hb
    clear B4 h_a_4 h_b_4 h_q_4 h_r_4 h_x_4 h_y_4
    clear hb
    go_wp2_with fail
    have c := refRead_any w5 ss HS.out hl
    refine c.mono ?_
    rintro e w6 ⟨a_m, n_m, c_m, rfl, h_m_6, hb⟩
    clear c
    have B6 := B5.trans (hb.mono B5.size)
    have h_a_6 := h_a_5.below hb
    have h_b_6 := h_b_5.below hb
    have h_q_6 := h_q_5.below hb
    have h_r_6 := h_r_5.below hb
    have h_x_6 := h_x_5.below hb
    have h_y_6 := h_y_5.below hb
    have h_n_6 := h_n_5.below hb
    clear B5 h_a_5 h_b_5 h_q_5 h_r_5 h_x_5 h_y_5 h_n_5
    clear hb
    go_wp2_with fail
    have c := refSame_any _ h_q_6 h_x_6
    rw [same_self] at c
    refine c.mono ?_
    rintro e w_ ⟨rfl, nq, rfl⟩
    clear c
    have hb := below_drewN (Below.refl w6.heap.size w6) nq
    have B7 := B6.trans (hb.mono B6.size)
    have h_a_7 := h_a_6.below hb
    have h_b_7 := h_b_6.below hb
    have h_q_7 := h_q_6.below hb
    have h_r_7 := h_r_6.below hb
    have h_x_7 := h_x_6.below hb
    have h_y_7 := h_y_6.below hb
    have h_n_7 := h_n_6.below hb
    have h_m_7 := h_m_6.below hb
    clear B6 h_a_6 h_b_6 h_q_6 h_r_6 h_x_6 h_y_6 h_n_6 h_m_6
    clear hb
    generalize w6.drewN nq = w7 at *
    go_wp2_with fail
    have c := refSame_any _ h_r_7 h_y_7
    rw [same_self] at c
    refine c.mono ?_
    rintro e w_ ⟨rfl, nq, rfl⟩
    clear c
    have hb := below_drewN (Below.refl w7.heap.size w7) nq
    have B8 := B7.trans (hb.mono B7.size)
    have h_a_8 := h_a_7.below hb
    have h_b_8 := h_b_7.below hb
    have h_q_8 := h_q_7.below hb
    have h_r_8 := h_r_7.below hb
    have h_x_8 := h_x_7.below hb
    have h_y_8 := h_y_7.below hb
    have h_n_8 := h_n_7.below hb
    have h_m_8 := h_m_7.below hb
    clear B7 h_a_7 h_b_7 h_q_7 h_r_7 h_x_7 h_y_7 h_n_7 h_m_7
    clear hb
    generalize w7.drewN nq = w8 at *
    go_wp2_with fail
    have c := refSame_any _ h_n_8 h_m_8
    rw [same_self] at c
    refine c.mono ?_
    rintro e w_ ⟨rfl, nq, rfl⟩
    clear c
    have hb := below_drewN (Below.refl w8.heap.size w8) nq
    have B9 := B8.trans (hb.mono B8.size)
    have h_a_9 := h_a_8.below hb
    have h_b_9 := h_b_8.below hb
    have h_q_9 := h_q_8.below hb
    have h_r_9 := h_r_8.below hb
    have h_x_9 := h_x_8.below hb
    have h_y_9 := h_y_8.below hb
    have h_n_9 := h_n_8.below hb
    have h_m_9 := h_m_8.below hb
    clear B8 h_a_8 h_b_8 h_q_8 h_r_8 h_x_8 h_y_8 h_n_8 h_m_8
    clear hb
    generalize w8.drewN nq = w9 at *
    clear h_q_9 h_x_9 h_r_9 h_y_9 h_n_9 h_m_9
    go_wp2_with fail
    have c := Long_any _ h_a_9
    rw [HX.out] at c
    refine c.mono ?_
    rintro e w_ ⟨rfl, rfl⟩
    clear c
    go_wp2_with fail
    have c := wakes_any w9
    refine c.mono ?_
    rintro e w10 ⟨rfl, hb⟩
    clear c
    have B10 := B9.trans (hb.mono B9.size)
    have h_a_10 := h_a_9.below hb
    have h_b_10 := h_b_9.below hb
    clear B9 h_a_9 h_b_9
    clear hb
    go_wp2_with fail
    go_ret
    exact ⟨rfl, B10⟩
  · have HX := Lib.hid hx
    have HY := Lib.hid hy
    clear hx hy
    go_enter Try.func3, Try.ntmps3
    have B0 : Below w.heap.size w w := Below.refl _ _
    have h_a_0 := h0
    have h_b_0 := h1
    go_wp2_with fail
    have c := Div_any _ h_a_0 h_b_0
    refine c.mono ?_
    rintro e w1 ⟨a_q, n_q, c_q, a_r, n_r, c_r, rfl, h_q_1, h_r_1, hb⟩
    clear c
    have B1 := B0.trans (hb.mono B0.size)
    have h_a_1 := h_a_0.below hb
    have h_b_1 := h_b_0.below hb
    clear B0 h_a_0 h_b_0
    clear hb
    go_wp2_with fail
    have c := refDiv_any _ h_a_1 h_b_1
    refine c.mono ?_
    rintro e w2 ⟨a_x, n_x, c_x, a_y, n_y, c_y, rfl, h_x_2, h_y_2, hb⟩
    clear c
    have B2 := B1.trans (hb.mono B1.size)
    have h_a_2 := h_a_1.below hb
    have h_b_2 := h_b_1.below hb
    have h_q_2 := h_q_1.below hb
    have h_r_2 := h_r_1.below hb
    clear B1 h_a_1 h_b_1 h_q_1 h_r_1
    clear hb
    go_wp2_with fail
    have c := Text_any _ h_a_2
    refine c.mono ?_
    rintro e w3 ⟨rfl, hb⟩
    clear c
    have B3 := B2.trans (hb.mono B2.size)
    have h_a_3 := h_a_2.below hb
    have h_b_3 := h_b_2.below hb
    have h_q_3 := h_q_2.below hb
    have h_r_3 := h_r_2.below hb
    have h_x_3 := h_x_2.below hb
    have h_y_3 := h_y_2.below hb
    clear B2 h_a_2 h_b_2 h_q_2 h_r_2 h_x_2 h_y_2
    clear hb
    go_wp2_with fail
    have c := refText_any _ h_a_3
    refine c.mono ?_
    rintro e w4 ⟨rfl, hb⟩
    clear c
    have B4 := B3.trans (hb.mono B3.size)
    have h_a_4 := h_a_3.below hb
    have h_b_4 := h_b_3.below hb
    have h_q_4 := h_q_3.below hb
    have h_r_4 := h_r_3.below hb
    have h_x_4 := h_x_3.below hb
    have h_y_4 := h_y_3.below hb
    clear B3 h_a_3 h_b_3 h_q_3 h_r_3 h_x_3 h_y_3
    clear hb
    go_wp2_with fail
    have c := Read_any w4 ss HS.out hl
    refine c.mono ?_
    rintro e w5 ⟨a_n, n_n, c_n, rfl, h_n_5, hb⟩
    clear c
    have B5 := B4.trans (hb.mono B4.size)
    have h_a_5 := h_a_4.below hb
    have h_b_5 := h_b_4.below hb
    have h_q_5 := h_q_4.below hb
    have h_r_5 := h_r_4.below hb
    have h_x_5 := h_x_4.below hb
    have h_y_5 := h_y_4.below hb
    clear B4 h_a_4 h_b_4 h_q_4 h_r_4 h_x_4 h_y_4
    clear hb
    go_wp2_with fail
    have c := refRead_any w5 ss HS.out hl
    refine c.mono ?_
    rintro e w6 ⟨a_m, n_m, c_m, rfl, h_m_6, hb⟩
    clear c
    have B6 := B5.trans (hb.mono B5.size)
    have h_a_6 := h_a_5.below hb
    have h_b_6 := h_b_5.below hb
    have h_q_6 := h_q_5.below hb
    have h_r_6 := h_r_5.below hb
    have h_x_6 := h_x_5.below hb
    have h_y_6 := h_y_5.below hb
    have h_n_6 := h_n_5.below hb
    clear B5 h_a_5 h_b_5 h_q_5 h_r_5 h_x_5 h_y_5 h_n_5
    clear hb
    go_wp2_with fail
    have c := refSame_any _ h_q_6 h_x_6
    rw [same_self] at c
    refine c.mono ?_
    rintro e w_ ⟨rfl, nq, rfl⟩
    clear c
    have hb := below_drewN (Below.refl w6.heap.size w6) nq
    have B7 := B6.trans (hb.mono B6.size)
    have h_a_7 := h_a_6.below hb
    have h_b_7 := h_b_6.below hb
    have h_q_7 := h_q_6.below hb
    have h_r_7 := h_r_6.below hb
    have h_x_7 := h_x_6.below hb
    have h_y_7 := h_y_6.below hb
    have h_n_7 := h_n_6.below hb
    have h_m_7 := h_m_6.below hb
    clear B6 h_a_6 h_b_6 h_q_6 h_r_6 h_x_6 h_y_6 h_n_6 h_m_6
    clear hb
    generalize w6.drewN nq = w7 at *
    go_wp2_with fail
    have c := refSame_any _ h_r_7 h_y_7
    rw [same_self] at c
    refine c.mono ?_
    rintro e w_ ⟨rfl, nq, rfl⟩
    clear c
    have hb := below_drewN (Below.refl w7.heap.size w7) nq
    have B8 := B7.trans (hb.mono B7.size)
    have h_a_8 := h_a_7.below hb
    have h_b_8 := h_b_7.below hb
    have h_q_8 := h_q_7.below hb
    have h_r_8 := h_r_7.below hb
    have h_x_8 := h_x_7.below hb
    have h_y_8 := h_y_7.below hb
    have h_n_8 := h_n_7.below hb
    have h_m_8 := h_m_7.below hb
    clear B7 h_a_7 h_b_7 h_q_7 h_r_7 h_x_7 h_y_7 h_n_7 h_m_7
    clear hb
    generalize w7.drewN nq = w8 at *
    go_wp2_with fail
    have c := refSame_any _ h_n_8 h_m_8
    rw [same_self] at c
    refine c.mono ?_
    rintro e w_ ⟨rfl, nq, rfl⟩
    clear c
    have hb := below_drewN (Below.refl w8.heap.size w8) nq
    have B9 := B8.trans (hb.mono B8.size)
    have h_a_9 := h_a_8.below hb
    have h_b_9 := h_b_8.below hb
    have h_q_9 := h_q_8.below hb
    have h_r_9 := h_r_8.below hb
    have h_x_9 := h_x_8.below hb
    have h_y_9 := h_y_8.below hb
    have h_n_9 := h_n_8.below hb
    have h_m_9 := h_m_8.below hb
    clear B8 h_a_8 h_b_8 h_q_8 h_r_8 h_x_8 h_y_8 h_n_8 h_m_8
    clear hb
    generalize w8.drewN nq = w9 at *
    clear h_q_9 h_x_9 h_r_9 h_y_9 h_n_9 h_m_9
    go_wp2_with fail
    have c := Long_any _ h_a_9
    rw [HX.out] at c
    refine c.mono ?_
    rintro e w_ ⟨rfl, rfl⟩
    clear c
    go_wp2_with fail
    have c := Long_any _ h_b_9
    rw [HY.out] at c
    refine c.mono ?_
    rintro e w_ ⟨rfl, rfl⟩
    clear c
    go_wp2_with fail
    have c := wakes_any w9
    refine c.mono ?_
    rintro e w10 ⟨rfl, hb⟩
    clear c
    have B10 := B9.trans (hb.mono B9.size)
    have h_a_10 := h_a_9.below hb
    have h_b_10 := h_b_9.below hb
    clear B9 h_a_9 h_b_9
    clear hb
    go_wp2_with fail
    go_ret
    exact ⟨rfl, B10⟩
  · have HX := Lib.hid hx
    have HY := Lib.hid hy
    clear hx hy
    go_enter Try.func3, Try.ntmps3
    have B0 : Below w.heap.size w w := Below.refl _ _
    have h_a_0 := h0
    have h_b_0 := h1
    go_wp2_with fail
    have c := Div_any _ h_a_0 h_b_0
    refine c.mono ?_
    rintro e w1 ⟨a_q, n_q, c_q, a_r, n_r, c_r, rfl, h_q_1, h_r_1, hb⟩
    clear c
    have B1 := B0.trans (hb.mono B0.size)
    have h_a_1 := h_a_0.below hb
    have h_b_1 := h_b_0.below hb
    clear B0 h_a_0 h_b_0
    clear hb
    go_wp2_with fail
    have c := refDiv_any _ h_a_1 h_b_1
    refine c.mono ?_
    rintro e w2 ⟨a_x, n_x, c_x, a_y, n_y, c_y, rfl, h_x_2, h_y_2, hb⟩
    clear c
    have B2 := B1.trans (hb.mono B1.size)
    have h_a_2 := h_a_1.below hb
    have h_b_2 := h_b_1.below hb
    have h_q_2 := h_q_1.below hb
    have h_r_2 := h_r_1.below hb
    clear B1 h_a_1 h_b_1 h_q_1 h_r_1
    clear hb
    go_wp2_with fail
    have c := Text_any _ h_a_2
    refine c.mono ?_
    rintro e w3 ⟨rfl, hb⟩
    clear c
    have B3 := B2.trans (hb.mono B2.size)
    have h_a_3 := h_a_2.below hb
    have h_b_3 := h_b_2.below hb
    have h_q_3 := h_q_2.below hb
    have h_r_3 := h_r_2.below hb
    have h_x_3 := h_x_2.below hb
    have h_y_3 := h_y_2.below hb
    clear B2 h_a_2 h_b_2 h_q_2 h_r_2 h_x_2 h_y_2
    clear hb
    go_wp2_with fail
    have c := refText_any _ h_a_3
    refine c.mono ?_
    rintro e w4 ⟨rfl, hb⟩
    clear c
    have B4 := B3.trans (hb.mono B3.size)
    have h_a_4 := h_a_3.below hb
    have h_b_4 := h_b_3.below hb
    have h_q_4 := h_q_3.below hb
    have h_r_4 := h_r_3.below hb
    have h_x_4 := h_x_3.below hb
    have h_y_4 := h_y_3.below hb
    clear B3 h_a_3 h_b_3 h_q_3 h_r_3 h_x_3 h_y_3
    clear hb
    go_wp2_with fail
    have c := Read_any w4 ss HS.out hl
    refine c.mono ?_
    rintro e w5 ⟨a_n, n_n, c_n, rfl, h_n_5, hb⟩
    clear c
    have B5 := B4.trans (hb.mono B4.size)
    have h_a_5 := h_a_4.below hb
    have h_b_5 := h_b_4.below hb
    have h_q_5 := h_q_4.below hb
    have h_r_5 := h_r_4.below hb
    have h_x_5 := h_x_4.below hb
    have h_y_5 := h_y_4.below hb
    clear B4 h_a_4 h_b_4 h_q_4 h_r_4 h_x_4 h_y_4
    clear hb
    go_wp2_with fail
    have c := refRead_any w5 ss HS.out hl
    refine c.mono ?_
    rintro e w6 ⟨a_m, n_m, c_m, rfl, h_m_6, hb⟩
    clear c
    have B6 := B5.trans (hb.mono B5.size)
    have h_a_6 := h_a_5.below hb
    have h_b_6 := h_b_5.below hb
    have h_q_6 := h_q_5.below hb
    have h_r_6 := h_r_5.below hb
    have h_x_6 := h_x_5.below hb
    have h_y_6 := h_y_5.below hb
    have h_n_6 := h_n_5.below hb
    clear B5 h_a_5 h_b_5 h_q_5 h_r_5 h_x_5 h_y_5 h_n_5
    clear hb
    go_wp2_with fail
    have c := refSame_any _ h_q_6 h_x_6
    rw [same_self] at c
    refine c.mono ?_
    rintro e w_ ⟨rfl, nq, rfl⟩
    clear c
    have hb := below_drewN (Below.refl w6.heap.size w6) nq
    have B7 := B6.trans (hb.mono B6.size)
    have h_a_7 := h_a_6.below hb
    have h_b_7 := h_b_6.below hb
    have h_q_7 := h_q_6.below hb
    have h_r_7 := h_r_6.below hb
    have h_x_7 := h_x_6.below hb
    have h_y_7 := h_y_6.below hb
    have h_n_7 := h_n_6.below hb
    have h_m_7 := h_m_6.below hb
    clear B6 h_a_6 h_b_6 h_q_6 h_r_6 h_x_6 h_y_6 h_n_6 h_m_6
    clear hb
    generalize w6.drewN nq = w7 at *
    go_wp2_with fail
    have c := refSame_any _ h_r_7 h_y_7
    rw [same_self] at c
    refine c.mono ?_
    rintro e w_ ⟨rfl, nq, rfl⟩
    clear c
    have hb := below_drewN (Below.refl w7.heap.size w7) nq
    have B8 := B7.trans (hb.mono B7.size)
    have h_a_8 := h_a_7.below hb
    have h_b_8 := h_b_7.below hb
    have h_q_8 := h_q_7.below hb
    have h_r_8 := h_r_7.below hb
    have h_x_8 := h_x_7.below hb
    have h_y_8 := h_y_7.below hb
    have h_n_8 := h_n_7.below hb
    have h_m_8 := h_m_7.below hb
    clear B7 h_a_7 h_b_7 h_q_7 h_r_7 h_x_7 h_y_7 h_n_7 h_m_7
    clear hb
    generalize w7.drewN nq = w8 at *
    go_wp2_with fail
    have c := refSame_any _ h_n_8 h_m_8
    rw [same_self] at c
    refine c.mono ?_
    rintro e w_ ⟨rfl, nq, rfl⟩
    clear c
    have hb := below_drewN (Below.refl w8.heap.size w8) nq
    have B9 := B8.trans (hb.mono B8.size)
    have h_a_9 := h_a_8.below hb
    have h_b_9 := h_b_8.below hb
    have h_q_9 := h_q_8.below hb
    have h_r_9 := h_r_8.below hb
    have h_x_9 := h_x_8.below hb
    have h_y_9 := h_y_8.below hb
    have h_n_9 := h_n_8.below hb
    have h_m_9 := h_m_8.below hb
    clear B8 h_a_8 h_b_8 h_q_8 h_r_8 h_x_8 h_y_8 h_n_8 h_m_8
    clear hb
    generalize w8.drewN nq = w9 at *
    clear h_q_9 h_x_9 h_r_9 h_y_9 h_n_9 h_m_9
    go_wp2_with fail
    have c := Long_any _ h_a_9
    rw [HX.out] at c
    refine c.mono ?_
    rintro e w_ ⟨rfl, rfl⟩
    clear c
    go_wp2_with fail
    have c := Long_any _ h_b_9
    rw [HY.out] at c
    refine c.mono ?_
    rintro e w_ ⟨rfl, rfl⟩
    clear c
    go_wp2_with fail
    have c := Gcd_any _ h_a_9 h_b_9
    refine c.mono ?_
    rintro e w10 ⟨a_g, n_g, c_g, rfl, h_g_10, hb⟩
    clear c
    have B10 := B9.trans (hb.mono B9.size)
    have h_a_10 := h_a_9.below hb
    have h_b_10 := h_b_9.below hb
    clear B9 h_a_9 h_b_9
    clear hb
    go_wp2_with fail
    have c := refGcd_any _ h_a_10 h_b_10
    refine c.mono ?_
    rintro e w11 ⟨a_k, n_k, c_k, rfl, h_k_11, hb⟩
    clear c
    have B11 := B10.trans (hb.mono B10.size)
    have h_a_11 := h_a_10.below hb
    have h_b_11 := h_b_10.below hb
    have h_g_11 := h_g_10.below hb
    clear B10 h_a_10 h_b_10 h_g_10
    clear hb
    go_wp2_with fail
    have c := refSame_any _ h_g_11 h_k_11
    rw [same_self] at c
    refine c.mono ?_
    rintro e w_ ⟨rfl, nq, rfl⟩
    clear c
    have hb := below_drewN (Below.refl w11.heap.size w11) nq
    have B12 := B11.trans (hb.mono B11.size)
    have h_a_12 := h_a_11.below hb
    have h_b_12 := h_b_11.below hb
    have h_g_12 := h_g_11.below hb
    have h_k_12 := h_k_11.below hb
    clear B11 h_a_11 h_b_11 h_g_11 h_k_11
    clear hb
    generalize w11.drewN nq = w12 at *
    go_wp2_with fail
    have c := wakes_any w12
    refine c.mono ?_
    rintro e w13 ⟨rfl, hb⟩
    clear c
    have B13 := B12.trans (hb.mono B12.size)
    have h_a_13 := h_a_12.below hb
    have h_b_13 := h_b_12.below hb
    have h_g_13 := h_g_12.below hb
    have h_k_13 := h_k_12.below hb
    clear B12 h_a_12 h_b_12 h_g_12 h_k_12
    clear hb
    go_wp2_with fail
    go_ret
    exact ⟨rfl, B13⟩
end Go.Proofs.Ytnjhmaeialnfiaa
