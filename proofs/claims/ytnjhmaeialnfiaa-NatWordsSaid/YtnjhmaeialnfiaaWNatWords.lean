/- The walk of the law NatWords: it returns true and turns nothing that was there. No condition. Printed by gen_nat.py. -/
import Derived.Test.YtnjhmaeialnfiaaNatY
import Derived.Test.YtnjhmaeialnfiaaNatApi
namespace Go.Proofs.Ytnjhmaeialnfiaa
open Go.RowKit Go.Suf
set_option linter.unusedVariables false
set_option linter.unusedSimpArgs false

theorem w64 {n : Nat} (h : n < 18446744073709551616) : IntKind.u64.wrap (n : Int) = (n : Int) := by rw [IntKind.wrap_u64]; omega

theorem cmpN_neg (a b : Nat) : decide (cmpN a b < 0) = decide (a < b) := by
  unfold cmpN
  by_cases h : a < b
  · simp [h]
  · by_cases h' : b < a
    · simp [h, h']
    · simp [h, h']

theorem cmpN_pos (a b : Nat) : decide (0 < cmpN a b) = decide (b < a) := by
  unfold cmpN
  by_cases h : a < b
  · simp [h]; omega
  · by_cases h' : b < a
    · simp [h, h']
    · simp [h, h']

set_option maxRecDepth 100000 in
set_option maxHeartbeats 8000000 in
theorem natWords_less (w : World) (x : Nat) (hx0 : x < lim .u64) (y : Nat) (hy0 : y < lim .u64) (hh : x < y) :
    Calls Try.prog 10 #[.int .u64 (x : Nat), .int .u64 (y : Nat)] w fun e w' => e = .returned (.bool true) ∧ Below w.heap.size w w' := by
  have hx : x < 18446744073709551616 := hx0
  have hy : y < 18446744073709551616 := hy0
  clear hx0 hy0
  have hx96 : x < pw 96 := Nat.lt_of_lt_of_le (show x < pw 2 from hx) (pw_le (by decide))
  have hy96 : y < pw 96 := Nat.lt_of_lt_of_le (show y < pw 2 from hy) (pw_le (by decide))
  have hs96 : x + y < pw 96 := pw_add_lt (i := 2) hx hy (by decide)
  obtain ⟨r, hr⟩ : ∃ r, r = y % 4294967296 := ⟨_, rfl⟩
  have hr32 : r < 4294967296 := by rw [hr]; exact Nat.mod_lt _ (by decide)
  have hr96 : r < pw 96 := Nat.lt_of_lt_of_le (show r < pw 1 from hr32) (pw_le (by decide))
  have hp96 : x * r < pw 96 := Nat.lt_of_lt_of_le (mul_lt_pw (i := 2) (j := 1) hx hr32) (pw_le (by decide))
  obtain ⟨s, hs⟩ : ∃ s, s = x + y := ⟨_, rfl⟩
  obtain ⟨p, hp⟩ : ∃ p, p = x * r := ⟨_, rfl⟩
  have HS := Lib.hid hs
  have HPR := Lib.hid hp
  rw [← hs] at hs96
  rw [← hp] at hp96
  have ht : Int.tmod (y : Nat) 4294967296 = (r : Nat) := by rw [hr]; rfl
  clear hr
  have HC := Lib.hid (show cmpN x y = -1 by unfold cmpN; split <;> (try split) <;> omega)
  have HB := Lib.hid (show decide (x = y) = false by simp; omega)
  have n1 : x < y := by omega
  have n2 : ¬ y < x := by omega
  have l1 : decide ((x : Int) < (y : Int)) = true := by simp; omega
  have g1 : decide ((y : Int) < (x : Int)) = false := by simp; omega
  have q1 : ((x : Int) == (y : Int)) = false := by rw [beq_eq_false_iff_ne]; omega
  have hz0 : ¬ y = 0 := by omega
  obtain ⟨pv, pj, hpw⟩ : ∃ pv pj, wordC (limbs p) = (pv, pj) := ⟨_, _, rfl⟩
  have HP := Lib.hid hpw
  clear hpw
  by_cases ho : s < 18446744073709551616
  · have ow : IntKind.u64.wrap ((x : Int) + (y : Int)) = ((s : Nat) : Int) := by
      rw [IntKind.wrap_u64]; omega
    have oge : decide ((x : Int) ≤ (s : Int)) = true := by simp; omega
    have hxs : x ≤ s := by omega
    clear hs hp
    by_cases hsm : x < 4294967296
    · skip
      have hpl : p < 18446744073709551616 := by rw [HPR.out]; exact Nat.lt_of_lt_of_le (Nat.mul_lt_mul'' hsm hr32) (by decide)
      have hpw : IntKind.u64.wrap ((x : Int) * (r : Int)) = ((p : Nat) : Int) := by
        rw [← Int.natCast_mul, ← HPR.out, IntKind.wrap_u64]; omega
      obtain ⟨rfl, rfl⟩ : pv = p ∧ pj = 0 := by
        have := HP.out
        rw [word_ok hpl] at this
        exact ⟨(Prod.mk.inj this).1.symm, (Prod.mk.inj this).2.symm⟩
      by_cases hz : y = 0
      · exact absurd hz hz0
      · have yz : ((y : Int) == 0) = false := by rw [beq_eq_false_iff_ne]; omega
        obtain ⟨q, hq⟩ : ∃ q, q = x / y := ⟨_, rfl⟩
        obtain ⟨m, hm⟩ : ∃ m, m = x % y := ⟨_, rfl⟩
        have lq : q < 18446744073709551616 := by rw [hq]; exact Nat.lt_of_le_of_lt (Nat.div_le_self _ _) hx
        have lm : m < 18446744073709551616 := by rw [hm]; exact Nat.lt_of_le_of_lt (Nat.mod_le _ _) hx
        have tq : Int.tdiv (x : Int) (y : Int) = (q : Int) := by rw [hq]; rfl
        have tm : Int.tmod (x : Int) (y : Int) = (m : Int) := by rw [hm]; rfl
        have HQ := Lib.hid hq
        have HM := Lib.hid hm
        clear hq hm
        have wq : IntKind.u64.wrap (q : Int) = (q : Int) := w64 lq
        have wm : IntKind.u64.wrap (m : Int) = (m : Int) := w64 lm
        go_enter Try.func10, Try.ntmps10
        have B0 : Below w.heap.size w w := Below.refl _ _
        go_wp2_with fail
        have c := Of_any w x hx
        refine c.mono ?_
        rintro e w1 ⟨a_x, n_x, c_x, rfl, h_x_1, hb⟩
        clear c
        have B1 := B0.trans (hb.mono B0.size)
        clear B0
        clear hb
        go_wp2_with fail
        have c := Of_any w1 y hy
        refine c.mono ?_
        rintro e w2 ⟨a_y, n_y, c_y, rfl, h_y_2, hb⟩
        clear c
        have B2 := B1.trans (hb.mono B1.size)
        have h_x_2 := h_x_1.below hb
        clear B1 h_x_1
        clear hb
        go_wp2_with fail
        have c := Word_any w2 h_x_2
        rw [word_ok hx] at c
        refine c.mono ?_
        rintro e w_ ⟨rfl, rfl⟩
        clear c
        go_wp2_with fail
        have c := Cmp_any _ h_x_2 h_y_2
        rw [cmp_ok hx96 hy96] at c
        rw [HC.out] at c
        refine c.mono ?_
        rintro e w_ ⟨rfl, nq, rfl⟩
        clear c
        have hb := below_drewN (Below.refl w2.heap.size w2) nq
        have B3 := B2.trans (hb.mono B2.size)
        have h_x_3 := h_x_2.below hb
        have h_y_3 := h_y_2.below hb
        clear B2 h_x_2 h_y_2
        clear hb
        generalize w2.drewN nq = w3 at *
        go_wp2_with fail
        have c := Check_any w3 h_x_3
        rw [chk_limbs hx96] at c
        refine c.mono ?_
        rintro e w_ ⟨rfl, rfl⟩
        clear c
        go_wp2_with fail
        have c := Same_any w3 h_x_3 h_y_3
        rw [same_ok] at c
        rw [HB.out] at c
        refine c.mono ?_
        rintro e w_ ⟨rfl, nq, rfl⟩
        clear c
        have hb := below_drewN (Below.refl w3.heap.size w3) nq
        have B4 := B3.trans (hb.mono B3.size)
        have h_x_4 := h_x_3.below hb
        have h_y_4 := h_y_3.below hb
        clear B3 h_x_3 h_y_3
        clear hb
        generalize w3.drewN nq = w4 at *
        go_wp2_with fail
        have c := Add_any w4 h_x_4 h_y_4
        rw [add_ok (by rw [← HS.out]; exact hs96), ← HS.out] at c
        refine c.mono ?_
        rintro e w5 ⟨a_s, n_s, c_s, rfl, h_s_5, hb⟩
        clear c
        have B5 := B4.trans (hb.mono B4.size)
        have h_x_5 := h_x_4.below hb
        have h_y_5 := h_y_4.below hb
        clear B4 h_x_4 h_y_4
        clear hb
        go_wp2_with fail
        have c := Word_any w5 h_s_5
        rw [word_ok ho] at c
        refine c.mono ?_
        rintro e w_ ⟨rfl, rfl⟩
        clear c
        go_wp2_with fail
        have c := Of_any w5 r (by omega)
        refine c.mono ?_
        rintro e w6 ⟨a_r, n_r, c_r, rfl, h_r_6, hb⟩
        clear c
        have B6 := B5.trans (hb.mono B5.size)
        have h_x_6 := h_x_5.below hb
        have h_y_6 := h_y_5.below hb
        have h_s_6 := h_s_5.below hb
        clear B5 h_x_5 h_y_5 h_s_5
        clear hb
        go_wp2_with fail
        have c := Mul_any w6 h_x_6 h_r_6
        rw [mul_ok hx96 hr96 (by rw [← HPR.out]; exact hp96), ← HPR.out] at c
        refine c.mono ?_
        rintro e w7 ⟨a_p, n_p, c_p, rfl, h_p_7, hb⟩
        clear c
        have B7 := B6.trans (hb.mono B6.size)
        have h_x_7 := h_x_6.below hb
        have h_y_7 := h_y_6.below hb
        have h_s_7 := h_s_6.below hb
        have h_r_7 := h_r_6.below hb
        clear B6 h_x_6 h_y_6 h_s_6 h_r_6
        clear hb
        go_wp2_with fail
        have c := Word_any w7 h_p_7
        rw [HP.out] at c
        refine c.mono ?_
        rintro e w_ ⟨rfl, rfl⟩
        clear c
        have sm : decide ((x : Int) < 4294967296) = true := by simp; omega
        go_wp2_with fail
        have c := Div_any _ h_x_7 h_y_7
        rw [div_ok hx96 hy96 (by omega), ← HQ.out, ← HM.out] at c
        refine c.mono ?_
        rintro e w8 ⟨a_q, n_q, c_q, a_m, n_m, c_m, rfl, h_q_8, h_m_8, hb⟩
        clear c
        have B8 := B7.trans (hb.mono B7.size)
        have h_x_8 := h_x_7.below hb
        have h_y_8 := h_y_7.below hb
        have h_s_8 := h_s_7.below hb
        have h_r_8 := h_r_7.below hb
        have h_p_8 := h_p_7.below hb
        clear B7 h_x_7 h_y_7 h_s_7 h_r_7 h_p_7
        clear hb
        go_wp2_with fail
        have c := Word_any w8 h_q_8
        rw [word_ok lq] at c
        refine c.mono ?_
        rintro e w_ ⟨rfl, rfl⟩
        clear c
        go_wp2_with fail
        have c := Word_any w8 h_m_8
        rw [word_ok lm] at c
        refine c.mono ?_
        rintro e w_ ⟨rfl, rfl⟩
        clear c
        go_wp2_with fail
        have c := wakes_any w8
        refine c.mono ?_
        rintro e w9 ⟨rfl, hb⟩
        clear c
        have B9 := B8.trans (hb.mono B8.size)
        have h_x_9 := h_x_8.below hb
        have h_y_9 := h_y_8.below hb
        have h_s_9 := h_s_8.below hb
        have h_r_9 := h_r_8.below hb
        have h_p_9 := h_p_8.below hb
        have h_q_9 := h_q_8.below hb
        have h_m_9 := h_m_8.below hb
        clear B8 h_x_8 h_y_8 h_s_8 h_r_8 h_p_8 h_q_8 h_m_8
        clear hb
        go_wp2_with fail
        go_ret
        exact ⟨rfl, B9⟩
        all_goals contradiction
    · skip
      by_cases hz : y = 0
      · exact absurd hz hz0
      · have yz : ((y : Int) == 0) = false := by rw [beq_eq_false_iff_ne]; omega
        obtain ⟨q, hq⟩ : ∃ q, q = x / y := ⟨_, rfl⟩
        obtain ⟨m, hm⟩ : ∃ m, m = x % y := ⟨_, rfl⟩
        have lq : q < 18446744073709551616 := by rw [hq]; exact Nat.lt_of_le_of_lt (Nat.div_le_self _ _) hx
        have lm : m < 18446744073709551616 := by rw [hm]; exact Nat.lt_of_le_of_lt (Nat.mod_le _ _) hx
        have tq : Int.tdiv (x : Int) (y : Int) = (q : Int) := by rw [hq]; rfl
        have tm : Int.tmod (x : Int) (y : Int) = (m : Int) := by rw [hm]; rfl
        have HQ := Lib.hid hq
        have HM := Lib.hid hm
        clear hq hm
        have wq : IntKind.u64.wrap (q : Int) = (q : Int) := w64 lq
        have wm : IntKind.u64.wrap (m : Int) = (m : Int) := w64 lm
        go_enter Try.func10, Try.ntmps10
        have B0 : Below w.heap.size w w := Below.refl _ _
        go_wp2_with fail
        have c := Of_any w x hx
        refine c.mono ?_
        rintro e w1 ⟨a_x, n_x, c_x, rfl, h_x_1, hb⟩
        clear c
        have B1 := B0.trans (hb.mono B0.size)
        clear B0
        clear hb
        go_wp2_with fail
        have c := Of_any w1 y hy
        refine c.mono ?_
        rintro e w2 ⟨a_y, n_y, c_y, rfl, h_y_2, hb⟩
        clear c
        have B2 := B1.trans (hb.mono B1.size)
        have h_x_2 := h_x_1.below hb
        clear B1 h_x_1
        clear hb
        go_wp2_with fail
        have c := Word_any w2 h_x_2
        rw [word_ok hx] at c
        refine c.mono ?_
        rintro e w_ ⟨rfl, rfl⟩
        clear c
        go_wp2_with fail
        have c := Cmp_any _ h_x_2 h_y_2
        rw [cmp_ok hx96 hy96] at c
        rw [HC.out] at c
        refine c.mono ?_
        rintro e w_ ⟨rfl, nq, rfl⟩
        clear c
        have hb := below_drewN (Below.refl w2.heap.size w2) nq
        have B3 := B2.trans (hb.mono B2.size)
        have h_x_3 := h_x_2.below hb
        have h_y_3 := h_y_2.below hb
        clear B2 h_x_2 h_y_2
        clear hb
        generalize w2.drewN nq = w3 at *
        go_wp2_with fail
        have c := Check_any w3 h_x_3
        rw [chk_limbs hx96] at c
        refine c.mono ?_
        rintro e w_ ⟨rfl, rfl⟩
        clear c
        go_wp2_with fail
        have c := Same_any w3 h_x_3 h_y_3
        rw [same_ok] at c
        rw [HB.out] at c
        refine c.mono ?_
        rintro e w_ ⟨rfl, nq, rfl⟩
        clear c
        have hb := below_drewN (Below.refl w3.heap.size w3) nq
        have B4 := B3.trans (hb.mono B3.size)
        have h_x_4 := h_x_3.below hb
        have h_y_4 := h_y_3.below hb
        clear B3 h_x_3 h_y_3
        clear hb
        generalize w3.drewN nq = w4 at *
        go_wp2_with fail
        have c := Add_any w4 h_x_4 h_y_4
        rw [add_ok (by rw [← HS.out]; exact hs96), ← HS.out] at c
        refine c.mono ?_
        rintro e w5 ⟨a_s, n_s, c_s, rfl, h_s_5, hb⟩
        clear c
        have B5 := B4.trans (hb.mono B4.size)
        have h_x_5 := h_x_4.below hb
        have h_y_5 := h_y_4.below hb
        clear B4 h_x_4 h_y_4
        clear hb
        go_wp2_with fail
        have c := Word_any w5 h_s_5
        rw [word_ok ho] at c
        refine c.mono ?_
        rintro e w_ ⟨rfl, rfl⟩
        clear c
        go_wp2_with fail
        have c := Of_any w5 r (by omega)
        refine c.mono ?_
        rintro e w6 ⟨a_r, n_r, c_r, rfl, h_r_6, hb⟩
        clear c
        have B6 := B5.trans (hb.mono B5.size)
        have h_x_6 := h_x_5.below hb
        have h_y_6 := h_y_5.below hb
        have h_s_6 := h_s_5.below hb
        clear B5 h_x_5 h_y_5 h_s_5
        clear hb
        go_wp2_with fail
        have c := Mul_any w6 h_x_6 h_r_6
        rw [mul_ok hx96 hr96 (by rw [← HPR.out]; exact hp96), ← HPR.out] at c
        refine c.mono ?_
        rintro e w7 ⟨a_p, n_p, c_p, rfl, h_p_7, hb⟩
        clear c
        have B7 := B6.trans (hb.mono B6.size)
        have h_x_7 := h_x_6.below hb
        have h_y_7 := h_y_6.below hb
        have h_s_7 := h_s_6.below hb
        have h_r_7 := h_r_6.below hb
        clear B6 h_x_6 h_y_6 h_s_6 h_r_6
        clear hb
        go_wp2_with fail
        have c := Word_any w7 h_p_7
        rw [HP.out] at c
        refine c.mono ?_
        rintro e w_ ⟨rfl, rfl⟩
        clear c
        have sm : decide ((x : Int) < 4294967296) = false := by simp; omega
        go_wp2_with fail
        have c := Div_any _ h_x_7 h_y_7
        rw [div_ok hx96 hy96 (by omega), ← HQ.out, ← HM.out] at c
        refine c.mono ?_
        rintro e w8 ⟨a_q, n_q, c_q, a_m, n_m, c_m, rfl, h_q_8, h_m_8, hb⟩
        clear c
        have B8 := B7.trans (hb.mono B7.size)
        have h_x_8 := h_x_7.below hb
        have h_y_8 := h_y_7.below hb
        have h_s_8 := h_s_7.below hb
        have h_r_8 := h_r_7.below hb
        have h_p_8 := h_p_7.below hb
        clear B7 h_x_7 h_y_7 h_s_7 h_r_7 h_p_7
        clear hb
        go_wp2_with fail
        have c := Word_any w8 h_q_8
        rw [word_ok lq] at c
        refine c.mono ?_
        rintro e w_ ⟨rfl, rfl⟩
        clear c
        go_wp2_with fail
        have c := Word_any w8 h_m_8
        rw [word_ok lm] at c
        refine c.mono ?_
        rintro e w_ ⟨rfl, rfl⟩
        clear c
        go_wp2_with fail
        have c := wakes_any w8
        refine c.mono ?_
        rintro e w9 ⟨rfl, hb⟩
        clear c
        have B9 := B8.trans (hb.mono B8.size)
        have h_x_9 := h_x_8.below hb
        have h_y_9 := h_y_8.below hb
        have h_s_9 := h_s_8.below hb
        have h_r_9 := h_r_8.below hb
        have h_p_9 := h_p_8.below hb
        have h_q_9 := h_q_8.below hb
        have h_m_9 := h_m_8.below hb
        clear B8 h_x_8 h_y_8 h_s_8 h_r_8 h_p_8 h_q_8 h_m_8
        clear hb
        go_wp2_with fail
        go_ret
        exact ⟨rfl, B9⟩
        all_goals contradiction
  · obtain ⟨z, hz⟩ : ∃ z, z = s - 18446744073709551616 := ⟨_, rfl⟩
    have ow : IntKind.u64.wrap ((x : Int) + (y : Int)) = ((z : Nat) : Int) := by
      rw [IntKind.wrap_u64]; omega
    have oge : decide ((x : Int) ≤ (z : Int)) = false := by simp; omega
    have hxs : ¬ x ≤ z := by omega
    clear hs hp hz
    by_cases hsm : x < 4294967296
    · skip
      have hpl : p < 18446744073709551616 := by rw [HPR.out]; exact Nat.lt_of_lt_of_le (Nat.mul_lt_mul'' hsm hr32) (by decide)
      have hpw : IntKind.u64.wrap ((x : Int) * (r : Int)) = ((p : Nat) : Int) := by
        rw [← Int.natCast_mul, ← HPR.out, IntKind.wrap_u64]; omega
      obtain ⟨rfl, rfl⟩ : pv = p ∧ pj = 0 := by
        have := HP.out
        rw [word_ok hpl] at this
        exact ⟨(Prod.mk.inj this).1.symm, (Prod.mk.inj this).2.symm⟩
      by_cases hz : y = 0
      · exact absurd hz hz0
      · have yz : ((y : Int) == 0) = false := by rw [beq_eq_false_iff_ne]; omega
        obtain ⟨q, hq⟩ : ∃ q, q = x / y := ⟨_, rfl⟩
        obtain ⟨m, hm⟩ : ∃ m, m = x % y := ⟨_, rfl⟩
        have lq : q < 18446744073709551616 := by rw [hq]; exact Nat.lt_of_le_of_lt (Nat.div_le_self _ _) hx
        have lm : m < 18446744073709551616 := by rw [hm]; exact Nat.lt_of_le_of_lt (Nat.mod_le _ _) hx
        have tq : Int.tdiv (x : Int) (y : Int) = (q : Int) := by rw [hq]; rfl
        have tm : Int.tmod (x : Int) (y : Int) = (m : Int) := by rw [hm]; rfl
        have HQ := Lib.hid hq
        have HM := Lib.hid hm
        clear hq hm
        have wq : IntKind.u64.wrap (q : Int) = (q : Int) := w64 lq
        have wm : IntKind.u64.wrap (m : Int) = (m : Int) := w64 lm
        go_enter Try.func10, Try.ntmps10
        have B0 : Below w.heap.size w w := Below.refl _ _
        go_wp2_with fail
        have c := Of_any w x hx
        refine c.mono ?_
        rintro e w1 ⟨a_x, n_x, c_x, rfl, h_x_1, hb⟩
        clear c
        have B1 := B0.trans (hb.mono B0.size)
        clear B0
        clear hb
        go_wp2_with fail
        have c := Of_any w1 y hy
        refine c.mono ?_
        rintro e w2 ⟨a_y, n_y, c_y, rfl, h_y_2, hb⟩
        clear c
        have B2 := B1.trans (hb.mono B1.size)
        have h_x_2 := h_x_1.below hb
        clear B1 h_x_1
        clear hb
        go_wp2_with fail
        have c := Word_any w2 h_x_2
        rw [word_ok hx] at c
        refine c.mono ?_
        rintro e w_ ⟨rfl, rfl⟩
        clear c
        go_wp2_with fail
        have c := Cmp_any _ h_x_2 h_y_2
        rw [cmp_ok hx96 hy96] at c
        rw [HC.out] at c
        refine c.mono ?_
        rintro e w_ ⟨rfl, nq, rfl⟩
        clear c
        have hb := below_drewN (Below.refl w2.heap.size w2) nq
        have B3 := B2.trans (hb.mono B2.size)
        have h_x_3 := h_x_2.below hb
        have h_y_3 := h_y_2.below hb
        clear B2 h_x_2 h_y_2
        clear hb
        generalize w2.drewN nq = w3 at *
        go_wp2_with fail
        have c := Check_any w3 h_x_3
        rw [chk_limbs hx96] at c
        refine c.mono ?_
        rintro e w_ ⟨rfl, rfl⟩
        clear c
        go_wp2_with fail
        have c := Same_any w3 h_x_3 h_y_3
        rw [same_ok] at c
        rw [HB.out] at c
        refine c.mono ?_
        rintro e w_ ⟨rfl, nq, rfl⟩
        clear c
        have hb := below_drewN (Below.refl w3.heap.size w3) nq
        have B4 := B3.trans (hb.mono B3.size)
        have h_x_4 := h_x_3.below hb
        have h_y_4 := h_y_3.below hb
        clear B3 h_x_3 h_y_3
        clear hb
        generalize w3.drewN nq = w4 at *
        go_wp2_with fail
        have c := Add_any w4 h_x_4 h_y_4
        rw [add_ok (by rw [← HS.out]; exact hs96), ← HS.out] at c
        refine c.mono ?_
        rintro e w5 ⟨a_s, n_s, c_s, rfl, h_s_5, hb⟩
        clear c
        have B5 := B4.trans (hb.mono B4.size)
        have h_x_5 := h_x_4.below hb
        have h_y_5 := h_y_4.below hb
        clear B4 h_x_4 h_y_4
        clear hb
        go_wp2_with fail
        have c := Word_any w5 h_s_5
        rw [word_great hs96 ho] at c
        refine c.mono ?_
        rintro e w_ ⟨rfl, rfl⟩
        clear c
        go_wp2_with fail
        have c := Of_any w5 r (by omega)
        refine c.mono ?_
        rintro e w6 ⟨a_r, n_r, c_r, rfl, h_r_6, hb⟩
        clear c
        have B6 := B5.trans (hb.mono B5.size)
        have h_x_6 := h_x_5.below hb
        have h_y_6 := h_y_5.below hb
        have h_s_6 := h_s_5.below hb
        clear B5 h_x_5 h_y_5 h_s_5
        clear hb
        go_wp2_with fail
        have c := Mul_any w6 h_x_6 h_r_6
        rw [mul_ok hx96 hr96 (by rw [← HPR.out]; exact hp96), ← HPR.out] at c
        refine c.mono ?_
        rintro e w7 ⟨a_p, n_p, c_p, rfl, h_p_7, hb⟩
        clear c
        have B7 := B6.trans (hb.mono B6.size)
        have h_x_7 := h_x_6.below hb
        have h_y_7 := h_y_6.below hb
        have h_s_7 := h_s_6.below hb
        have h_r_7 := h_r_6.below hb
        clear B6 h_x_6 h_y_6 h_s_6 h_r_6
        clear hb
        go_wp2_with fail
        have c := Word_any w7 h_p_7
        rw [HP.out] at c
        refine c.mono ?_
        rintro e w_ ⟨rfl, rfl⟩
        clear c
        have sm : decide ((x : Int) < 4294967296) = true := by simp; omega
        go_wp2_with fail
        have c := Div_any _ h_x_7 h_y_7
        rw [div_ok hx96 hy96 (by omega), ← HQ.out, ← HM.out] at c
        refine c.mono ?_
        rintro e w8 ⟨a_q, n_q, c_q, a_m, n_m, c_m, rfl, h_q_8, h_m_8, hb⟩
        clear c
        have B8 := B7.trans (hb.mono B7.size)
        have h_x_8 := h_x_7.below hb
        have h_y_8 := h_y_7.below hb
        have h_s_8 := h_s_7.below hb
        have h_r_8 := h_r_7.below hb
        have h_p_8 := h_p_7.below hb
        clear B7 h_x_7 h_y_7 h_s_7 h_r_7 h_p_7
        clear hb
        go_wp2_with fail
        have c := Word_any w8 h_q_8
        rw [word_ok lq] at c
        refine c.mono ?_
        rintro e w_ ⟨rfl, rfl⟩
        clear c
        go_wp2_with fail
        have c := Word_any w8 h_m_8
        rw [word_ok lm] at c
        refine c.mono ?_
        rintro e w_ ⟨rfl, rfl⟩
        clear c
        go_wp2_with fail
        have c := wakes_any w8
        refine c.mono ?_
        rintro e w9 ⟨rfl, hb⟩
        clear c
        have B9 := B8.trans (hb.mono B8.size)
        have h_x_9 := h_x_8.below hb
        have h_y_9 := h_y_8.below hb
        have h_s_9 := h_s_8.below hb
        have h_r_9 := h_r_8.below hb
        have h_p_9 := h_p_8.below hb
        have h_q_9 := h_q_8.below hb
        have h_m_9 := h_m_8.below hb
        clear B8 h_x_8 h_y_8 h_s_8 h_r_8 h_p_8 h_q_8 h_m_8
        clear hb
        go_wp2_with fail
        go_ret
        exact ⟨rfl, B9⟩
        all_goals contradiction
    · skip
      by_cases hz : y = 0
      · exact absurd hz hz0
      · have yz : ((y : Int) == 0) = false := by rw [beq_eq_false_iff_ne]; omega
        obtain ⟨q, hq⟩ : ∃ q, q = x / y := ⟨_, rfl⟩
        obtain ⟨m, hm⟩ : ∃ m, m = x % y := ⟨_, rfl⟩
        have lq : q < 18446744073709551616 := by rw [hq]; exact Nat.lt_of_le_of_lt (Nat.div_le_self _ _) hx
        have lm : m < 18446744073709551616 := by rw [hm]; exact Nat.lt_of_le_of_lt (Nat.mod_le _ _) hx
        have tq : Int.tdiv (x : Int) (y : Int) = (q : Int) := by rw [hq]; rfl
        have tm : Int.tmod (x : Int) (y : Int) = (m : Int) := by rw [hm]; rfl
        have HQ := Lib.hid hq
        have HM := Lib.hid hm
        clear hq hm
        have wq : IntKind.u64.wrap (q : Int) = (q : Int) := w64 lq
        have wm : IntKind.u64.wrap (m : Int) = (m : Int) := w64 lm
        go_enter Try.func10, Try.ntmps10
        have B0 : Below w.heap.size w w := Below.refl _ _
        go_wp2_with fail
        have c := Of_any w x hx
        refine c.mono ?_
        rintro e w1 ⟨a_x, n_x, c_x, rfl, h_x_1, hb⟩
        clear c
        have B1 := B0.trans (hb.mono B0.size)
        clear B0
        clear hb
        go_wp2_with fail
        have c := Of_any w1 y hy
        refine c.mono ?_
        rintro e w2 ⟨a_y, n_y, c_y, rfl, h_y_2, hb⟩
        clear c
        have B2 := B1.trans (hb.mono B1.size)
        have h_x_2 := h_x_1.below hb
        clear B1 h_x_1
        clear hb
        go_wp2_with fail
        have c := Word_any w2 h_x_2
        rw [word_ok hx] at c
        refine c.mono ?_
        rintro e w_ ⟨rfl, rfl⟩
        clear c
        go_wp2_with fail
        have c := Cmp_any _ h_x_2 h_y_2
        rw [cmp_ok hx96 hy96] at c
        rw [HC.out] at c
        refine c.mono ?_
        rintro e w_ ⟨rfl, nq, rfl⟩
        clear c
        have hb := below_drewN (Below.refl w2.heap.size w2) nq
        have B3 := B2.trans (hb.mono B2.size)
        have h_x_3 := h_x_2.below hb
        have h_y_3 := h_y_2.below hb
        clear B2 h_x_2 h_y_2
        clear hb
        generalize w2.drewN nq = w3 at *
        go_wp2_with fail
        have c := Check_any w3 h_x_3
        rw [chk_limbs hx96] at c
        refine c.mono ?_
        rintro e w_ ⟨rfl, rfl⟩
        clear c
        go_wp2_with fail
        have c := Same_any w3 h_x_3 h_y_3
        rw [same_ok] at c
        rw [HB.out] at c
        refine c.mono ?_
        rintro e w_ ⟨rfl, nq, rfl⟩
        clear c
        have hb := below_drewN (Below.refl w3.heap.size w3) nq
        have B4 := B3.trans (hb.mono B3.size)
        have h_x_4 := h_x_3.below hb
        have h_y_4 := h_y_3.below hb
        clear B3 h_x_3 h_y_3
        clear hb
        generalize w3.drewN nq = w4 at *
        go_wp2_with fail
        have c := Add_any w4 h_x_4 h_y_4
        rw [add_ok (by rw [← HS.out]; exact hs96), ← HS.out] at c
        refine c.mono ?_
        rintro e w5 ⟨a_s, n_s, c_s, rfl, h_s_5, hb⟩
        clear c
        have B5 := B4.trans (hb.mono B4.size)
        have h_x_5 := h_x_4.below hb
        have h_y_5 := h_y_4.below hb
        clear B4 h_x_4 h_y_4
        clear hb
        go_wp2_with fail
        have c := Word_any w5 h_s_5
        rw [word_great hs96 ho] at c
        refine c.mono ?_
        rintro e w_ ⟨rfl, rfl⟩
        clear c
        go_wp2_with fail
        have c := Of_any w5 r (by omega)
        refine c.mono ?_
        rintro e w6 ⟨a_r, n_r, c_r, rfl, h_r_6, hb⟩
        clear c
        have B6 := B5.trans (hb.mono B5.size)
        have h_x_6 := h_x_5.below hb
        have h_y_6 := h_y_5.below hb
        have h_s_6 := h_s_5.below hb
        clear B5 h_x_5 h_y_5 h_s_5
        clear hb
        go_wp2_with fail
        have c := Mul_any w6 h_x_6 h_r_6
        rw [mul_ok hx96 hr96 (by rw [← HPR.out]; exact hp96), ← HPR.out] at c
        refine c.mono ?_
        rintro e w7 ⟨a_p, n_p, c_p, rfl, h_p_7, hb⟩
        clear c
        have B7 := B6.trans (hb.mono B6.size)
        have h_x_7 := h_x_6.below hb
        have h_y_7 := h_y_6.below hb
        have h_s_7 := h_s_6.below hb
        have h_r_7 := h_r_6.below hb
        clear B6 h_x_6 h_y_6 h_s_6 h_r_6
        clear hb
        go_wp2_with fail
        have c := Word_any w7 h_p_7
        rw [HP.out] at c
        refine c.mono ?_
        rintro e w_ ⟨rfl, rfl⟩
        clear c
        have sm : decide ((x : Int) < 4294967296) = false := by simp; omega
        go_wp2_with fail
        have c := Div_any _ h_x_7 h_y_7
        rw [div_ok hx96 hy96 (by omega), ← HQ.out, ← HM.out] at c
        refine c.mono ?_
        rintro e w8 ⟨a_q, n_q, c_q, a_m, n_m, c_m, rfl, h_q_8, h_m_8, hb⟩
        clear c
        have B8 := B7.trans (hb.mono B7.size)
        have h_x_8 := h_x_7.below hb
        have h_y_8 := h_y_7.below hb
        have h_s_8 := h_s_7.below hb
        have h_r_8 := h_r_7.below hb
        have h_p_8 := h_p_7.below hb
        clear B7 h_x_7 h_y_7 h_s_7 h_r_7 h_p_7
        clear hb
        go_wp2_with fail
        have c := Word_any w8 h_q_8
        rw [word_ok lq] at c
        refine c.mono ?_
        rintro e w_ ⟨rfl, rfl⟩
        clear c
        go_wp2_with fail
        have c := Word_any w8 h_m_8
        rw [word_ok lm] at c
        refine c.mono ?_
        rintro e w_ ⟨rfl, rfl⟩
        clear c
        go_wp2_with fail
        have c := wakes_any w8
        refine c.mono ?_
        rintro e w9 ⟨rfl, hb⟩
        clear c
        have B9 := B8.trans (hb.mono B8.size)
        have h_x_9 := h_x_8.below hb
        have h_y_9 := h_y_8.below hb
        have h_s_9 := h_s_8.below hb
        have h_r_9 := h_r_8.below hb
        have h_p_9 := h_p_8.below hb
        have h_q_9 := h_q_8.below hb
        have h_m_9 := h_m_8.below hb
        clear B8 h_x_8 h_y_8 h_s_8 h_r_8 h_p_8 h_q_8 h_m_8
        clear hb
        go_wp2_with fail
        go_ret
        exact ⟨rfl, B9⟩
        all_goals contradiction
set_option maxRecDepth 100000 in
set_option maxHeartbeats 8000000 in
theorem natWords_same (w : World) (x : Nat) (hx0 : x < lim .u64) (y : Nat) (hy0 : y < lim .u64) (hh : x = y) :
    Calls Try.prog 10 #[.int .u64 (x : Nat), .int .u64 (y : Nat)] w fun e w' => e = .returned (.bool true) ∧ Below w.heap.size w w' := by
  have hx : x < 18446744073709551616 := hx0
  have hy : y < 18446744073709551616 := hy0
  clear hx0 hy0
  have hx96 : x < pw 96 := Nat.lt_of_lt_of_le (show x < pw 2 from hx) (pw_le (by decide))
  have hy96 : y < pw 96 := Nat.lt_of_lt_of_le (show y < pw 2 from hy) (pw_le (by decide))
  have hs96 : x + y < pw 96 := pw_add_lt (i := 2) hx hy (by decide)
  obtain ⟨r, hr⟩ : ∃ r, r = y % 4294967296 := ⟨_, rfl⟩
  have hr32 : r < 4294967296 := by rw [hr]; exact Nat.mod_lt _ (by decide)
  have hr96 : r < pw 96 := Nat.lt_of_lt_of_le (show r < pw 1 from hr32) (pw_le (by decide))
  have hp96 : x * r < pw 96 := Nat.lt_of_lt_of_le (mul_lt_pw (i := 2) (j := 1) hx hr32) (pw_le (by decide))
  obtain ⟨s, hs⟩ : ∃ s, s = x + y := ⟨_, rfl⟩
  obtain ⟨p, hp⟩ : ∃ p, p = x * r := ⟨_, rfl⟩
  have HS := Lib.hid hs
  have HPR := Lib.hid hp
  rw [← hs] at hs96
  rw [← hp] at hp96
  have ht : Int.tmod (y : Nat) 4294967296 = (r : Nat) := by rw [hr]; rfl
  clear hr
  have HC := Lib.hid (show cmpN x y = 0 by unfold cmpN; split <;> (try split) <;> omega)
  have HB := Lib.hid (show decide (x = y) = true by simp; omega)
  have n1 : ¬ x < y := by omega
  have n2 : ¬ y < x := by omega
  have l1 : decide ((x : Int) < (y : Int)) = false := by simp; omega
  have g1 : decide ((y : Int) < (x : Int)) = false := by simp; omega
  have q1 : ((x : Int) == (y : Int)) = true := by rw [beq_iff_eq]; omega
  clear hh
  obtain ⟨pv, pj, hpw⟩ : ∃ pv pj, wordC (limbs p) = (pv, pj) := ⟨_, _, rfl⟩
  have HP := Lib.hid hpw
  clear hpw
  by_cases ho : s < 18446744073709551616
  · have ow : IntKind.u64.wrap ((x : Int) + (y : Int)) = ((s : Nat) : Int) := by
      rw [IntKind.wrap_u64]; omega
    have oge : decide ((x : Int) ≤ (s : Int)) = true := by simp; omega
    have hxs : x ≤ s := by omega
    clear hs hp
    by_cases hsm : x < 4294967296
    · skip
      have hpl : p < 18446744073709551616 := by rw [HPR.out]; exact Nat.lt_of_lt_of_le (Nat.mul_lt_mul'' hsm hr32) (by decide)
      have hpw : IntKind.u64.wrap ((x : Int) * (r : Int)) = ((p : Nat) : Int) := by
        rw [← Int.natCast_mul, ← HPR.out, IntKind.wrap_u64]; omega
      obtain ⟨rfl, rfl⟩ : pv = p ∧ pj = 0 := by
        have := HP.out
        rw [word_ok hpl] at this
        exact ⟨(Prod.mk.inj this).1.symm, (Prod.mk.inj this).2.symm⟩
      by_cases hz : y = 0
      · have yz : ((y : Int) == 0) = true := by rw [hz]; rfl
        clear hz
        go_enter Try.func10, Try.ntmps10
        have B0 : Below w.heap.size w w := Below.refl _ _
        go_wp2_with fail
        have c := Of_any w x hx
        refine c.mono ?_
        rintro e w1 ⟨a_x, n_x, c_x, rfl, h_x_1, hb⟩
        clear c
        have B1 := B0.trans (hb.mono B0.size)
        clear B0
        clear hb
        go_wp2_with fail
        have c := Of_any w1 y hy
        refine c.mono ?_
        rintro e w2 ⟨a_y, n_y, c_y, rfl, h_y_2, hb⟩
        clear c
        have B2 := B1.trans (hb.mono B1.size)
        have h_x_2 := h_x_1.below hb
        clear B1 h_x_1
        clear hb
        go_wp2_with fail
        have c := Word_any w2 h_x_2
        rw [word_ok hx] at c
        refine c.mono ?_
        rintro e w_ ⟨rfl, rfl⟩
        clear c
        go_wp2_with fail
        have c := Cmp_any _ h_x_2 h_y_2
        rw [cmp_ok hx96 hy96] at c
        rw [HC.out] at c
        refine c.mono ?_
        rintro e w_ ⟨rfl, nq, rfl⟩
        clear c
        have hb := below_drewN (Below.refl w2.heap.size w2) nq
        have B3 := B2.trans (hb.mono B2.size)
        have h_x_3 := h_x_2.below hb
        have h_y_3 := h_y_2.below hb
        clear B2 h_x_2 h_y_2
        clear hb
        generalize w2.drewN nq = w3 at *
        go_wp2_with fail
        have c := Check_any w3 h_x_3
        rw [chk_limbs hx96] at c
        refine c.mono ?_
        rintro e w_ ⟨rfl, rfl⟩
        clear c
        go_wp2_with fail
        have c := Same_any w3 h_x_3 h_y_3
        rw [same_ok] at c
        rw [HB.out] at c
        refine c.mono ?_
        rintro e w_ ⟨rfl, nq, rfl⟩
        clear c
        have hb := below_drewN (Below.refl w3.heap.size w3) nq
        have B4 := B3.trans (hb.mono B3.size)
        have h_x_4 := h_x_3.below hb
        have h_y_4 := h_y_3.below hb
        clear B3 h_x_3 h_y_3
        clear hb
        generalize w3.drewN nq = w4 at *
        go_wp2_with fail
        have c := Add_any w4 h_x_4 h_y_4
        rw [add_ok (by rw [← HS.out]; exact hs96), ← HS.out] at c
        refine c.mono ?_
        rintro e w5 ⟨a_s, n_s, c_s, rfl, h_s_5, hb⟩
        clear c
        have B5 := B4.trans (hb.mono B4.size)
        have h_x_5 := h_x_4.below hb
        have h_y_5 := h_y_4.below hb
        clear B4 h_x_4 h_y_4
        clear hb
        go_wp2_with fail
        have c := Word_any w5 h_s_5
        rw [word_ok ho] at c
        refine c.mono ?_
        rintro e w_ ⟨rfl, rfl⟩
        clear c
        go_wp2_with fail
        have c := Of_any w5 r (by omega)
        refine c.mono ?_
        rintro e w6 ⟨a_r, n_r, c_r, rfl, h_r_6, hb⟩
        clear c
        have B6 := B5.trans (hb.mono B5.size)
        have h_x_6 := h_x_5.below hb
        have h_y_6 := h_y_5.below hb
        have h_s_6 := h_s_5.below hb
        clear B5 h_x_5 h_y_5 h_s_5
        clear hb
        go_wp2_with fail
        have c := Mul_any w6 h_x_6 h_r_6
        rw [mul_ok hx96 hr96 (by rw [← HPR.out]; exact hp96), ← HPR.out] at c
        refine c.mono ?_
        rintro e w7 ⟨a_p, n_p, c_p, rfl, h_p_7, hb⟩
        clear c
        have B7 := B6.trans (hb.mono B6.size)
        have h_x_7 := h_x_6.below hb
        have h_y_7 := h_y_6.below hb
        have h_s_7 := h_s_6.below hb
        have h_r_7 := h_r_6.below hb
        clear B6 h_x_6 h_y_6 h_s_6 h_r_6
        clear hb
        go_wp2_with fail
        have c := Word_any w7 h_p_7
        rw [HP.out] at c
        refine c.mono ?_
        rintro e w_ ⟨rfl, rfl⟩
        clear c
        have sm : decide ((x : Int) < 4294967296) = true := by simp; omega
        go_wp2_with fail
        have c := wakes_any w7
        refine c.mono ?_
        rintro e w8 ⟨rfl, hb⟩
        clear c
        have B8 := B7.trans (hb.mono B7.size)
        have h_x_8 := h_x_7.below hb
        have h_y_8 := h_y_7.below hb
        have h_s_8 := h_s_7.below hb
        have h_r_8 := h_r_7.below hb
        have h_p_8 := h_p_7.below hb
        clear B7 h_x_7 h_y_7 h_s_7 h_r_7 h_p_7
        clear hb
        go_wp2_with fail
        go_ret
        exact ⟨rfl, B8⟩
        all_goals contradiction
      · have yz : ((y : Int) == 0) = false := by rw [beq_eq_false_iff_ne]; omega
        obtain ⟨q, hq⟩ : ∃ q, q = x / y := ⟨_, rfl⟩
        obtain ⟨m, hm⟩ : ∃ m, m = x % y := ⟨_, rfl⟩
        have lq : q < 18446744073709551616 := by rw [hq]; exact Nat.lt_of_le_of_lt (Nat.div_le_self _ _) hx
        have lm : m < 18446744073709551616 := by rw [hm]; exact Nat.lt_of_le_of_lt (Nat.mod_le _ _) hx
        have tq : Int.tdiv (x : Int) (y : Int) = (q : Int) := by rw [hq]; rfl
        have tm : Int.tmod (x : Int) (y : Int) = (m : Int) := by rw [hm]; rfl
        have HQ := Lib.hid hq
        have HM := Lib.hid hm
        clear hq hm
        have wq : IntKind.u64.wrap (q : Int) = (q : Int) := w64 lq
        have wm : IntKind.u64.wrap (m : Int) = (m : Int) := w64 lm
        go_enter Try.func10, Try.ntmps10
        have B0 : Below w.heap.size w w := Below.refl _ _
        go_wp2_with fail
        have c := Of_any w x hx
        refine c.mono ?_
        rintro e w1 ⟨a_x, n_x, c_x, rfl, h_x_1, hb⟩
        clear c
        have B1 := B0.trans (hb.mono B0.size)
        clear B0
        clear hb
        go_wp2_with fail
        have c := Of_any w1 y hy
        refine c.mono ?_
        rintro e w2 ⟨a_y, n_y, c_y, rfl, h_y_2, hb⟩
        clear c
        have B2 := B1.trans (hb.mono B1.size)
        have h_x_2 := h_x_1.below hb
        clear B1 h_x_1
        clear hb
        go_wp2_with fail
        have c := Word_any w2 h_x_2
        rw [word_ok hx] at c
        refine c.mono ?_
        rintro e w_ ⟨rfl, rfl⟩
        clear c
        go_wp2_with fail
        have c := Cmp_any _ h_x_2 h_y_2
        rw [cmp_ok hx96 hy96] at c
        rw [HC.out] at c
        refine c.mono ?_
        rintro e w_ ⟨rfl, nq, rfl⟩
        clear c
        have hb := below_drewN (Below.refl w2.heap.size w2) nq
        have B3 := B2.trans (hb.mono B2.size)
        have h_x_3 := h_x_2.below hb
        have h_y_3 := h_y_2.below hb
        clear B2 h_x_2 h_y_2
        clear hb
        generalize w2.drewN nq = w3 at *
        go_wp2_with fail
        have c := Check_any w3 h_x_3
        rw [chk_limbs hx96] at c
        refine c.mono ?_
        rintro e w_ ⟨rfl, rfl⟩
        clear c
        go_wp2_with fail
        have c := Same_any w3 h_x_3 h_y_3
        rw [same_ok] at c
        rw [HB.out] at c
        refine c.mono ?_
        rintro e w_ ⟨rfl, nq, rfl⟩
        clear c
        have hb := below_drewN (Below.refl w3.heap.size w3) nq
        have B4 := B3.trans (hb.mono B3.size)
        have h_x_4 := h_x_3.below hb
        have h_y_4 := h_y_3.below hb
        clear B3 h_x_3 h_y_3
        clear hb
        generalize w3.drewN nq = w4 at *
        go_wp2_with fail
        have c := Add_any w4 h_x_4 h_y_4
        rw [add_ok (by rw [← HS.out]; exact hs96), ← HS.out] at c
        refine c.mono ?_
        rintro e w5 ⟨a_s, n_s, c_s, rfl, h_s_5, hb⟩
        clear c
        have B5 := B4.trans (hb.mono B4.size)
        have h_x_5 := h_x_4.below hb
        have h_y_5 := h_y_4.below hb
        clear B4 h_x_4 h_y_4
        clear hb
        go_wp2_with fail
        have c := Word_any w5 h_s_5
        rw [word_ok ho] at c
        refine c.mono ?_
        rintro e w_ ⟨rfl, rfl⟩
        clear c
        go_wp2_with fail
        have c := Of_any w5 r (by omega)
        refine c.mono ?_
        rintro e w6 ⟨a_r, n_r, c_r, rfl, h_r_6, hb⟩
        clear c
        have B6 := B5.trans (hb.mono B5.size)
        have h_x_6 := h_x_5.below hb
        have h_y_6 := h_y_5.below hb
        have h_s_6 := h_s_5.below hb
        clear B5 h_x_5 h_y_5 h_s_5
        clear hb
        go_wp2_with fail
        have c := Mul_any w6 h_x_6 h_r_6
        rw [mul_ok hx96 hr96 (by rw [← HPR.out]; exact hp96), ← HPR.out] at c
        refine c.mono ?_
        rintro e w7 ⟨a_p, n_p, c_p, rfl, h_p_7, hb⟩
        clear c
        have B7 := B6.trans (hb.mono B6.size)
        have h_x_7 := h_x_6.below hb
        have h_y_7 := h_y_6.below hb
        have h_s_7 := h_s_6.below hb
        have h_r_7 := h_r_6.below hb
        clear B6 h_x_6 h_y_6 h_s_6 h_r_6
        clear hb
        go_wp2_with fail
        have c := Word_any w7 h_p_7
        rw [HP.out] at c
        refine c.mono ?_
        rintro e w_ ⟨rfl, rfl⟩
        clear c
        have sm : decide ((x : Int) < 4294967296) = true := by simp; omega
        go_wp2_with fail
        have c := Div_any _ h_x_7 h_y_7
        rw [div_ok hx96 hy96 (by omega), ← HQ.out, ← HM.out] at c
        refine c.mono ?_
        rintro e w8 ⟨a_q, n_q, c_q, a_m, n_m, c_m, rfl, h_q_8, h_m_8, hb⟩
        clear c
        have B8 := B7.trans (hb.mono B7.size)
        have h_x_8 := h_x_7.below hb
        have h_y_8 := h_y_7.below hb
        have h_s_8 := h_s_7.below hb
        have h_r_8 := h_r_7.below hb
        have h_p_8 := h_p_7.below hb
        clear B7 h_x_7 h_y_7 h_s_7 h_r_7 h_p_7
        clear hb
        go_wp2_with fail
        have c := Word_any w8 h_q_8
        rw [word_ok lq] at c
        refine c.mono ?_
        rintro e w_ ⟨rfl, rfl⟩
        clear c
        go_wp2_with fail
        have c := Word_any w8 h_m_8
        rw [word_ok lm] at c
        refine c.mono ?_
        rintro e w_ ⟨rfl, rfl⟩
        clear c
        go_wp2_with fail
        have c := wakes_any w8
        refine c.mono ?_
        rintro e w9 ⟨rfl, hb⟩
        clear c
        have B9 := B8.trans (hb.mono B8.size)
        have h_x_9 := h_x_8.below hb
        have h_y_9 := h_y_8.below hb
        have h_s_9 := h_s_8.below hb
        have h_r_9 := h_r_8.below hb
        have h_p_9 := h_p_8.below hb
        have h_q_9 := h_q_8.below hb
        have h_m_9 := h_m_8.below hb
        clear B8 h_x_8 h_y_8 h_s_8 h_r_8 h_p_8 h_q_8 h_m_8
        clear hb
        go_wp2_with fail
        go_ret
        exact ⟨rfl, B9⟩
        all_goals contradiction
    · skip
      by_cases hz : y = 0
      · have yz : ((y : Int) == 0) = true := by rw [hz]; rfl
        clear hz
        go_enter Try.func10, Try.ntmps10
        have B0 : Below w.heap.size w w := Below.refl _ _
        go_wp2_with fail
        have c := Of_any w x hx
        refine c.mono ?_
        rintro e w1 ⟨a_x, n_x, c_x, rfl, h_x_1, hb⟩
        clear c
        have B1 := B0.trans (hb.mono B0.size)
        clear B0
        clear hb
        go_wp2_with fail
        have c := Of_any w1 y hy
        refine c.mono ?_
        rintro e w2 ⟨a_y, n_y, c_y, rfl, h_y_2, hb⟩
        clear c
        have B2 := B1.trans (hb.mono B1.size)
        have h_x_2 := h_x_1.below hb
        clear B1 h_x_1
        clear hb
        go_wp2_with fail
        have c := Word_any w2 h_x_2
        rw [word_ok hx] at c
        refine c.mono ?_
        rintro e w_ ⟨rfl, rfl⟩
        clear c
        go_wp2_with fail
        have c := Cmp_any _ h_x_2 h_y_2
        rw [cmp_ok hx96 hy96] at c
        rw [HC.out] at c
        refine c.mono ?_
        rintro e w_ ⟨rfl, nq, rfl⟩
        clear c
        have hb := below_drewN (Below.refl w2.heap.size w2) nq
        have B3 := B2.trans (hb.mono B2.size)
        have h_x_3 := h_x_2.below hb
        have h_y_3 := h_y_2.below hb
        clear B2 h_x_2 h_y_2
        clear hb
        generalize w2.drewN nq = w3 at *
        go_wp2_with fail
        have c := Check_any w3 h_x_3
        rw [chk_limbs hx96] at c
        refine c.mono ?_
        rintro e w_ ⟨rfl, rfl⟩
        clear c
        go_wp2_with fail
        have c := Same_any w3 h_x_3 h_y_3
        rw [same_ok] at c
        rw [HB.out] at c
        refine c.mono ?_
        rintro e w_ ⟨rfl, nq, rfl⟩
        clear c
        have hb := below_drewN (Below.refl w3.heap.size w3) nq
        have B4 := B3.trans (hb.mono B3.size)
        have h_x_4 := h_x_3.below hb
        have h_y_4 := h_y_3.below hb
        clear B3 h_x_3 h_y_3
        clear hb
        generalize w3.drewN nq = w4 at *
        go_wp2_with fail
        have c := Add_any w4 h_x_4 h_y_4
        rw [add_ok (by rw [← HS.out]; exact hs96), ← HS.out] at c
        refine c.mono ?_
        rintro e w5 ⟨a_s, n_s, c_s, rfl, h_s_5, hb⟩
        clear c
        have B5 := B4.trans (hb.mono B4.size)
        have h_x_5 := h_x_4.below hb
        have h_y_5 := h_y_4.below hb
        clear B4 h_x_4 h_y_4
        clear hb
        go_wp2_with fail
        have c := Word_any w5 h_s_5
        rw [word_ok ho] at c
        refine c.mono ?_
        rintro e w_ ⟨rfl, rfl⟩
        clear c
        go_wp2_with fail
        have c := Of_any w5 r (by omega)
        refine c.mono ?_
        rintro e w6 ⟨a_r, n_r, c_r, rfl, h_r_6, hb⟩
        clear c
        have B6 := B5.trans (hb.mono B5.size)
        have h_x_6 := h_x_5.below hb
        have h_y_6 := h_y_5.below hb
        have h_s_6 := h_s_5.below hb
        clear B5 h_x_5 h_y_5 h_s_5
        clear hb
        go_wp2_with fail
        have c := Mul_any w6 h_x_6 h_r_6
        rw [mul_ok hx96 hr96 (by rw [← HPR.out]; exact hp96), ← HPR.out] at c
        refine c.mono ?_
        rintro e w7 ⟨a_p, n_p, c_p, rfl, h_p_7, hb⟩
        clear c
        have B7 := B6.trans (hb.mono B6.size)
        have h_x_7 := h_x_6.below hb
        have h_y_7 := h_y_6.below hb
        have h_s_7 := h_s_6.below hb
        have h_r_7 := h_r_6.below hb
        clear B6 h_x_6 h_y_6 h_s_6 h_r_6
        clear hb
        go_wp2_with fail
        have c := Word_any w7 h_p_7
        rw [HP.out] at c
        refine c.mono ?_
        rintro e w_ ⟨rfl, rfl⟩
        clear c
        have sm : decide ((x : Int) < 4294967296) = false := by simp; omega
        go_wp2_with fail
        have c := wakes_any w7
        refine c.mono ?_
        rintro e w8 ⟨rfl, hb⟩
        clear c
        have B8 := B7.trans (hb.mono B7.size)
        have h_x_8 := h_x_7.below hb
        have h_y_8 := h_y_7.below hb
        have h_s_8 := h_s_7.below hb
        have h_r_8 := h_r_7.below hb
        have h_p_8 := h_p_7.below hb
        clear B7 h_x_7 h_y_7 h_s_7 h_r_7 h_p_7
        clear hb
        go_wp2_with fail
        go_ret
        exact ⟨rfl, B8⟩
        all_goals contradiction
      · have yz : ((y : Int) == 0) = false := by rw [beq_eq_false_iff_ne]; omega
        obtain ⟨q, hq⟩ : ∃ q, q = x / y := ⟨_, rfl⟩
        obtain ⟨m, hm⟩ : ∃ m, m = x % y := ⟨_, rfl⟩
        have lq : q < 18446744073709551616 := by rw [hq]; exact Nat.lt_of_le_of_lt (Nat.div_le_self _ _) hx
        have lm : m < 18446744073709551616 := by rw [hm]; exact Nat.lt_of_le_of_lt (Nat.mod_le _ _) hx
        have tq : Int.tdiv (x : Int) (y : Int) = (q : Int) := by rw [hq]; rfl
        have tm : Int.tmod (x : Int) (y : Int) = (m : Int) := by rw [hm]; rfl
        have HQ := Lib.hid hq
        have HM := Lib.hid hm
        clear hq hm
        have wq : IntKind.u64.wrap (q : Int) = (q : Int) := w64 lq
        have wm : IntKind.u64.wrap (m : Int) = (m : Int) := w64 lm
        go_enter Try.func10, Try.ntmps10
        have B0 : Below w.heap.size w w := Below.refl _ _
        go_wp2_with fail
        have c := Of_any w x hx
        refine c.mono ?_
        rintro e w1 ⟨a_x, n_x, c_x, rfl, h_x_1, hb⟩
        clear c
        have B1 := B0.trans (hb.mono B0.size)
        clear B0
        clear hb
        go_wp2_with fail
        have c := Of_any w1 y hy
        refine c.mono ?_
        rintro e w2 ⟨a_y, n_y, c_y, rfl, h_y_2, hb⟩
        clear c
        have B2 := B1.trans (hb.mono B1.size)
        have h_x_2 := h_x_1.below hb
        clear B1 h_x_1
        clear hb
        go_wp2_with fail
        have c := Word_any w2 h_x_2
        rw [word_ok hx] at c
        refine c.mono ?_
        rintro e w_ ⟨rfl, rfl⟩
        clear c
        go_wp2_with fail
        have c := Cmp_any _ h_x_2 h_y_2
        rw [cmp_ok hx96 hy96] at c
        rw [HC.out] at c
        refine c.mono ?_
        rintro e w_ ⟨rfl, nq, rfl⟩
        clear c
        have hb := below_drewN (Below.refl w2.heap.size w2) nq
        have B3 := B2.trans (hb.mono B2.size)
        have h_x_3 := h_x_2.below hb
        have h_y_3 := h_y_2.below hb
        clear B2 h_x_2 h_y_2
        clear hb
        generalize w2.drewN nq = w3 at *
        go_wp2_with fail
        have c := Check_any w3 h_x_3
        rw [chk_limbs hx96] at c
        refine c.mono ?_
        rintro e w_ ⟨rfl, rfl⟩
        clear c
        go_wp2_with fail
        have c := Same_any w3 h_x_3 h_y_3
        rw [same_ok] at c
        rw [HB.out] at c
        refine c.mono ?_
        rintro e w_ ⟨rfl, nq, rfl⟩
        clear c
        have hb := below_drewN (Below.refl w3.heap.size w3) nq
        have B4 := B3.trans (hb.mono B3.size)
        have h_x_4 := h_x_3.below hb
        have h_y_4 := h_y_3.below hb
        clear B3 h_x_3 h_y_3
        clear hb
        generalize w3.drewN nq = w4 at *
        go_wp2_with fail
        have c := Add_any w4 h_x_4 h_y_4
        rw [add_ok (by rw [← HS.out]; exact hs96), ← HS.out] at c
        refine c.mono ?_
        rintro e w5 ⟨a_s, n_s, c_s, rfl, h_s_5, hb⟩
        clear c
        have B5 := B4.trans (hb.mono B4.size)
        have h_x_5 := h_x_4.below hb
        have h_y_5 := h_y_4.below hb
        clear B4 h_x_4 h_y_4
        clear hb
        go_wp2_with fail
        have c := Word_any w5 h_s_5
        rw [word_ok ho] at c
        refine c.mono ?_
        rintro e w_ ⟨rfl, rfl⟩
        clear c
        go_wp2_with fail
        have c := Of_any w5 r (by omega)
        refine c.mono ?_
        rintro e w6 ⟨a_r, n_r, c_r, rfl, h_r_6, hb⟩
        clear c
        have B6 := B5.trans (hb.mono B5.size)
        have h_x_6 := h_x_5.below hb
        have h_y_6 := h_y_5.below hb
        have h_s_6 := h_s_5.below hb
        clear B5 h_x_5 h_y_5 h_s_5
        clear hb
        go_wp2_with fail
        have c := Mul_any w6 h_x_6 h_r_6
        rw [mul_ok hx96 hr96 (by rw [← HPR.out]; exact hp96), ← HPR.out] at c
        refine c.mono ?_
        rintro e w7 ⟨a_p, n_p, c_p, rfl, h_p_7, hb⟩
        clear c
        have B7 := B6.trans (hb.mono B6.size)
        have h_x_7 := h_x_6.below hb
        have h_y_7 := h_y_6.below hb
        have h_s_7 := h_s_6.below hb
        have h_r_7 := h_r_6.below hb
        clear B6 h_x_6 h_y_6 h_s_6 h_r_6
        clear hb
        go_wp2_with fail
        have c := Word_any w7 h_p_7
        rw [HP.out] at c
        refine c.mono ?_
        rintro e w_ ⟨rfl, rfl⟩
        clear c
        have sm : decide ((x : Int) < 4294967296) = false := by simp; omega
        go_wp2_with fail
        have c := Div_any _ h_x_7 h_y_7
        rw [div_ok hx96 hy96 (by omega), ← HQ.out, ← HM.out] at c
        refine c.mono ?_
        rintro e w8 ⟨a_q, n_q, c_q, a_m, n_m, c_m, rfl, h_q_8, h_m_8, hb⟩
        clear c
        have B8 := B7.trans (hb.mono B7.size)
        have h_x_8 := h_x_7.below hb
        have h_y_8 := h_y_7.below hb
        have h_s_8 := h_s_7.below hb
        have h_r_8 := h_r_7.below hb
        have h_p_8 := h_p_7.below hb
        clear B7 h_x_7 h_y_7 h_s_7 h_r_7 h_p_7
        clear hb
        go_wp2_with fail
        have c := Word_any w8 h_q_8
        rw [word_ok lq] at c
        refine c.mono ?_
        rintro e w_ ⟨rfl, rfl⟩
        clear c
        go_wp2_with fail
        have c := Word_any w8 h_m_8
        rw [word_ok lm] at c
        refine c.mono ?_
        rintro e w_ ⟨rfl, rfl⟩
        clear c
        go_wp2_with fail
        have c := wakes_any w8
        refine c.mono ?_
        rintro e w9 ⟨rfl, hb⟩
        clear c
        have B9 := B8.trans (hb.mono B8.size)
        have h_x_9 := h_x_8.below hb
        have h_y_9 := h_y_8.below hb
        have h_s_9 := h_s_8.below hb
        have h_r_9 := h_r_8.below hb
        have h_p_9 := h_p_8.below hb
        have h_q_9 := h_q_8.below hb
        have h_m_9 := h_m_8.below hb
        clear B8 h_x_8 h_y_8 h_s_8 h_r_8 h_p_8 h_q_8 h_m_8
        clear hb
        go_wp2_with fail
        go_ret
        exact ⟨rfl, B9⟩
        all_goals contradiction
  · obtain ⟨z, hz⟩ : ∃ z, z = s - 18446744073709551616 := ⟨_, rfl⟩
    have ow : IntKind.u64.wrap ((x : Int) + (y : Int)) = ((z : Nat) : Int) := by
      rw [IntKind.wrap_u64]; omega
    have oge : decide ((x : Int) ≤ (z : Int)) = false := by simp; omega
    have hxs : ¬ x ≤ z := by omega
    clear hs hp hz
    by_cases hsm : x < 4294967296
    · skip
      have hpl : p < 18446744073709551616 := by rw [HPR.out]; exact Nat.lt_of_lt_of_le (Nat.mul_lt_mul'' hsm hr32) (by decide)
      have hpw : IntKind.u64.wrap ((x : Int) * (r : Int)) = ((p : Nat) : Int) := by
        rw [← Int.natCast_mul, ← HPR.out, IntKind.wrap_u64]; omega
      obtain ⟨rfl, rfl⟩ : pv = p ∧ pj = 0 := by
        have := HP.out
        rw [word_ok hpl] at this
        exact ⟨(Prod.mk.inj this).1.symm, (Prod.mk.inj this).2.symm⟩
      by_cases hz : y = 0
      · have yz : ((y : Int) == 0) = true := by rw [hz]; rfl
        clear hz
        go_enter Try.func10, Try.ntmps10
        have B0 : Below w.heap.size w w := Below.refl _ _
        go_wp2_with fail
        have c := Of_any w x hx
        refine c.mono ?_
        rintro e w1 ⟨a_x, n_x, c_x, rfl, h_x_1, hb⟩
        clear c
        have B1 := B0.trans (hb.mono B0.size)
        clear B0
        clear hb
        go_wp2_with fail
        have c := Of_any w1 y hy
        refine c.mono ?_
        rintro e w2 ⟨a_y, n_y, c_y, rfl, h_y_2, hb⟩
        clear c
        have B2 := B1.trans (hb.mono B1.size)
        have h_x_2 := h_x_1.below hb
        clear B1 h_x_1
        clear hb
        go_wp2_with fail
        have c := Word_any w2 h_x_2
        rw [word_ok hx] at c
        refine c.mono ?_
        rintro e w_ ⟨rfl, rfl⟩
        clear c
        go_wp2_with fail
        have c := Cmp_any _ h_x_2 h_y_2
        rw [cmp_ok hx96 hy96] at c
        rw [HC.out] at c
        refine c.mono ?_
        rintro e w_ ⟨rfl, nq, rfl⟩
        clear c
        have hb := below_drewN (Below.refl w2.heap.size w2) nq
        have B3 := B2.trans (hb.mono B2.size)
        have h_x_3 := h_x_2.below hb
        have h_y_3 := h_y_2.below hb
        clear B2 h_x_2 h_y_2
        clear hb
        generalize w2.drewN nq = w3 at *
        go_wp2_with fail
        have c := Check_any w3 h_x_3
        rw [chk_limbs hx96] at c
        refine c.mono ?_
        rintro e w_ ⟨rfl, rfl⟩
        clear c
        go_wp2_with fail
        have c := Same_any w3 h_x_3 h_y_3
        rw [same_ok] at c
        rw [HB.out] at c
        refine c.mono ?_
        rintro e w_ ⟨rfl, nq, rfl⟩
        clear c
        have hb := below_drewN (Below.refl w3.heap.size w3) nq
        have B4 := B3.trans (hb.mono B3.size)
        have h_x_4 := h_x_3.below hb
        have h_y_4 := h_y_3.below hb
        clear B3 h_x_3 h_y_3
        clear hb
        generalize w3.drewN nq = w4 at *
        go_wp2_with fail
        have c := Add_any w4 h_x_4 h_y_4
        rw [add_ok (by rw [← HS.out]; exact hs96), ← HS.out] at c
        refine c.mono ?_
        rintro e w5 ⟨a_s, n_s, c_s, rfl, h_s_5, hb⟩
        clear c
        have B5 := B4.trans (hb.mono B4.size)
        have h_x_5 := h_x_4.below hb
        have h_y_5 := h_y_4.below hb
        clear B4 h_x_4 h_y_4
        clear hb
        go_wp2_with fail
        have c := Word_any w5 h_s_5
        rw [word_great hs96 ho] at c
        refine c.mono ?_
        rintro e w_ ⟨rfl, rfl⟩
        clear c
        go_wp2_with fail
        have c := Of_any w5 r (by omega)
        refine c.mono ?_
        rintro e w6 ⟨a_r, n_r, c_r, rfl, h_r_6, hb⟩
        clear c
        have B6 := B5.trans (hb.mono B5.size)
        have h_x_6 := h_x_5.below hb
        have h_y_6 := h_y_5.below hb
        have h_s_6 := h_s_5.below hb
        clear B5 h_x_5 h_y_5 h_s_5
        clear hb
        go_wp2_with fail
        have c := Mul_any w6 h_x_6 h_r_6
        rw [mul_ok hx96 hr96 (by rw [← HPR.out]; exact hp96), ← HPR.out] at c
        refine c.mono ?_
        rintro e w7 ⟨a_p, n_p, c_p, rfl, h_p_7, hb⟩
        clear c
        have B7 := B6.trans (hb.mono B6.size)
        have h_x_7 := h_x_6.below hb
        have h_y_7 := h_y_6.below hb
        have h_s_7 := h_s_6.below hb
        have h_r_7 := h_r_6.below hb
        clear B6 h_x_6 h_y_6 h_s_6 h_r_6
        clear hb
        go_wp2_with fail
        have c := Word_any w7 h_p_7
        rw [HP.out] at c
        refine c.mono ?_
        rintro e w_ ⟨rfl, rfl⟩
        clear c
        have sm : decide ((x : Int) < 4294967296) = true := by simp; omega
        go_wp2_with fail
        have c := wakes_any w7
        refine c.mono ?_
        rintro e w8 ⟨rfl, hb⟩
        clear c
        have B8 := B7.trans (hb.mono B7.size)
        have h_x_8 := h_x_7.below hb
        have h_y_8 := h_y_7.below hb
        have h_s_8 := h_s_7.below hb
        have h_r_8 := h_r_7.below hb
        have h_p_8 := h_p_7.below hb
        clear B7 h_x_7 h_y_7 h_s_7 h_r_7 h_p_7
        clear hb
        go_wp2_with fail
        go_ret
        exact ⟨rfl, B8⟩
        all_goals contradiction
      · have yz : ((y : Int) == 0) = false := by rw [beq_eq_false_iff_ne]; omega
        obtain ⟨q, hq⟩ : ∃ q, q = x / y := ⟨_, rfl⟩
        obtain ⟨m, hm⟩ : ∃ m, m = x % y := ⟨_, rfl⟩
        have lq : q < 18446744073709551616 := by rw [hq]; exact Nat.lt_of_le_of_lt (Nat.div_le_self _ _) hx
        have lm : m < 18446744073709551616 := by rw [hm]; exact Nat.lt_of_le_of_lt (Nat.mod_le _ _) hx
        have tq : Int.tdiv (x : Int) (y : Int) = (q : Int) := by rw [hq]; rfl
        have tm : Int.tmod (x : Int) (y : Int) = (m : Int) := by rw [hm]; rfl
        have HQ := Lib.hid hq
        have HM := Lib.hid hm
        clear hq hm
        have wq : IntKind.u64.wrap (q : Int) = (q : Int) := w64 lq
        have wm : IntKind.u64.wrap (m : Int) = (m : Int) := w64 lm
        go_enter Try.func10, Try.ntmps10
        have B0 : Below w.heap.size w w := Below.refl _ _
        go_wp2_with fail
        have c := Of_any w x hx
        refine c.mono ?_
        rintro e w1 ⟨a_x, n_x, c_x, rfl, h_x_1, hb⟩
        clear c
        have B1 := B0.trans (hb.mono B0.size)
        clear B0
        clear hb
        go_wp2_with fail
        have c := Of_any w1 y hy
        refine c.mono ?_
        rintro e w2 ⟨a_y, n_y, c_y, rfl, h_y_2, hb⟩
        clear c
        have B2 := B1.trans (hb.mono B1.size)
        have h_x_2 := h_x_1.below hb
        clear B1 h_x_1
        clear hb
        go_wp2_with fail
        have c := Word_any w2 h_x_2
        rw [word_ok hx] at c
        refine c.mono ?_
        rintro e w_ ⟨rfl, rfl⟩
        clear c
        go_wp2_with fail
        have c := Cmp_any _ h_x_2 h_y_2
        rw [cmp_ok hx96 hy96] at c
        rw [HC.out] at c
        refine c.mono ?_
        rintro e w_ ⟨rfl, nq, rfl⟩
        clear c
        have hb := below_drewN (Below.refl w2.heap.size w2) nq
        have B3 := B2.trans (hb.mono B2.size)
        have h_x_3 := h_x_2.below hb
        have h_y_3 := h_y_2.below hb
        clear B2 h_x_2 h_y_2
        clear hb
        generalize w2.drewN nq = w3 at *
        go_wp2_with fail
        have c := Check_any w3 h_x_3
        rw [chk_limbs hx96] at c
        refine c.mono ?_
        rintro e w_ ⟨rfl, rfl⟩
        clear c
        go_wp2_with fail
        have c := Same_any w3 h_x_3 h_y_3
        rw [same_ok] at c
        rw [HB.out] at c
        refine c.mono ?_
        rintro e w_ ⟨rfl, nq, rfl⟩
        clear c
        have hb := below_drewN (Below.refl w3.heap.size w3) nq
        have B4 := B3.trans (hb.mono B3.size)
        have h_x_4 := h_x_3.below hb
        have h_y_4 := h_y_3.below hb
        clear B3 h_x_3 h_y_3
        clear hb
        generalize w3.drewN nq = w4 at *
        go_wp2_with fail
        have c := Add_any w4 h_x_4 h_y_4
        rw [add_ok (by rw [← HS.out]; exact hs96), ← HS.out] at c
        refine c.mono ?_
        rintro e w5 ⟨a_s, n_s, c_s, rfl, h_s_5, hb⟩
        clear c
        have B5 := B4.trans (hb.mono B4.size)
        have h_x_5 := h_x_4.below hb
        have h_y_5 := h_y_4.below hb
        clear B4 h_x_4 h_y_4
        clear hb
        go_wp2_with fail
        have c := Word_any w5 h_s_5
        rw [word_great hs96 ho] at c
        refine c.mono ?_
        rintro e w_ ⟨rfl, rfl⟩
        clear c
        go_wp2_with fail
        have c := Of_any w5 r (by omega)
        refine c.mono ?_
        rintro e w6 ⟨a_r, n_r, c_r, rfl, h_r_6, hb⟩
        clear c
        have B6 := B5.trans (hb.mono B5.size)
        have h_x_6 := h_x_5.below hb
        have h_y_6 := h_y_5.below hb
        have h_s_6 := h_s_5.below hb
        clear B5 h_x_5 h_y_5 h_s_5
        clear hb
        go_wp2_with fail
        have c := Mul_any w6 h_x_6 h_r_6
        rw [mul_ok hx96 hr96 (by rw [← HPR.out]; exact hp96), ← HPR.out] at c
        refine c.mono ?_
        rintro e w7 ⟨a_p, n_p, c_p, rfl, h_p_7, hb⟩
        clear c
        have B7 := B6.trans (hb.mono B6.size)
        have h_x_7 := h_x_6.below hb
        have h_y_7 := h_y_6.below hb
        have h_s_7 := h_s_6.below hb
        have h_r_7 := h_r_6.below hb
        clear B6 h_x_6 h_y_6 h_s_6 h_r_6
        clear hb
        go_wp2_with fail
        have c := Word_any w7 h_p_7
        rw [HP.out] at c
        refine c.mono ?_
        rintro e w_ ⟨rfl, rfl⟩
        clear c
        have sm : decide ((x : Int) < 4294967296) = true := by simp; omega
        go_wp2_with fail
        have c := Div_any _ h_x_7 h_y_7
        rw [div_ok hx96 hy96 (by omega), ← HQ.out, ← HM.out] at c
        refine c.mono ?_
        rintro e w8 ⟨a_q, n_q, c_q, a_m, n_m, c_m, rfl, h_q_8, h_m_8, hb⟩
        clear c
        have B8 := B7.trans (hb.mono B7.size)
        have h_x_8 := h_x_7.below hb
        have h_y_8 := h_y_7.below hb
        have h_s_8 := h_s_7.below hb
        have h_r_8 := h_r_7.below hb
        have h_p_8 := h_p_7.below hb
        clear B7 h_x_7 h_y_7 h_s_7 h_r_7 h_p_7
        clear hb
        go_wp2_with fail
        have c := Word_any w8 h_q_8
        rw [word_ok lq] at c
        refine c.mono ?_
        rintro e w_ ⟨rfl, rfl⟩
        clear c
        go_wp2_with fail
        have c := Word_any w8 h_m_8
        rw [word_ok lm] at c
        refine c.mono ?_
        rintro e w_ ⟨rfl, rfl⟩
        clear c
        go_wp2_with fail
        have c := wakes_any w8
        refine c.mono ?_
        rintro e w9 ⟨rfl, hb⟩
        clear c
        have B9 := B8.trans (hb.mono B8.size)
        have h_x_9 := h_x_8.below hb
        have h_y_9 := h_y_8.below hb
        have h_s_9 := h_s_8.below hb
        have h_r_9 := h_r_8.below hb
        have h_p_9 := h_p_8.below hb
        have h_q_9 := h_q_8.below hb
        have h_m_9 := h_m_8.below hb
        clear B8 h_x_8 h_y_8 h_s_8 h_r_8 h_p_8 h_q_8 h_m_8
        clear hb
        go_wp2_with fail
        go_ret
        exact ⟨rfl, B9⟩
        all_goals contradiction
    · skip
      by_cases hz : y = 0
      · have yz : ((y : Int) == 0) = true := by rw [hz]; rfl
        clear hz
        go_enter Try.func10, Try.ntmps10
        have B0 : Below w.heap.size w w := Below.refl _ _
        go_wp2_with fail
        have c := Of_any w x hx
        refine c.mono ?_
        rintro e w1 ⟨a_x, n_x, c_x, rfl, h_x_1, hb⟩
        clear c
        have B1 := B0.trans (hb.mono B0.size)
        clear B0
        clear hb
        go_wp2_with fail
        have c := Of_any w1 y hy
        refine c.mono ?_
        rintro e w2 ⟨a_y, n_y, c_y, rfl, h_y_2, hb⟩
        clear c
        have B2 := B1.trans (hb.mono B1.size)
        have h_x_2 := h_x_1.below hb
        clear B1 h_x_1
        clear hb
        go_wp2_with fail
        have c := Word_any w2 h_x_2
        rw [word_ok hx] at c
        refine c.mono ?_
        rintro e w_ ⟨rfl, rfl⟩
        clear c
        go_wp2_with fail
        have c := Cmp_any _ h_x_2 h_y_2
        rw [cmp_ok hx96 hy96] at c
        rw [HC.out] at c
        refine c.mono ?_
        rintro e w_ ⟨rfl, nq, rfl⟩
        clear c
        have hb := below_drewN (Below.refl w2.heap.size w2) nq
        have B3 := B2.trans (hb.mono B2.size)
        have h_x_3 := h_x_2.below hb
        have h_y_3 := h_y_2.below hb
        clear B2 h_x_2 h_y_2
        clear hb
        generalize w2.drewN nq = w3 at *
        go_wp2_with fail
        have c := Check_any w3 h_x_3
        rw [chk_limbs hx96] at c
        refine c.mono ?_
        rintro e w_ ⟨rfl, rfl⟩
        clear c
        go_wp2_with fail
        have c := Same_any w3 h_x_3 h_y_3
        rw [same_ok] at c
        rw [HB.out] at c
        refine c.mono ?_
        rintro e w_ ⟨rfl, nq, rfl⟩
        clear c
        have hb := below_drewN (Below.refl w3.heap.size w3) nq
        have B4 := B3.trans (hb.mono B3.size)
        have h_x_4 := h_x_3.below hb
        have h_y_4 := h_y_3.below hb
        clear B3 h_x_3 h_y_3
        clear hb
        generalize w3.drewN nq = w4 at *
        go_wp2_with fail
        have c := Add_any w4 h_x_4 h_y_4
        rw [add_ok (by rw [← HS.out]; exact hs96), ← HS.out] at c
        refine c.mono ?_
        rintro e w5 ⟨a_s, n_s, c_s, rfl, h_s_5, hb⟩
        clear c
        have B5 := B4.trans (hb.mono B4.size)
        have h_x_5 := h_x_4.below hb
        have h_y_5 := h_y_4.below hb
        clear B4 h_x_4 h_y_4
        clear hb
        go_wp2_with fail
        have c := Word_any w5 h_s_5
        rw [word_great hs96 ho] at c
        refine c.mono ?_
        rintro e w_ ⟨rfl, rfl⟩
        clear c
        go_wp2_with fail
        have c := Of_any w5 r (by omega)
        refine c.mono ?_
        rintro e w6 ⟨a_r, n_r, c_r, rfl, h_r_6, hb⟩
        clear c
        have B6 := B5.trans (hb.mono B5.size)
        have h_x_6 := h_x_5.below hb
        have h_y_6 := h_y_5.below hb
        have h_s_6 := h_s_5.below hb
        clear B5 h_x_5 h_y_5 h_s_5
        clear hb
        go_wp2_with fail
        have c := Mul_any w6 h_x_6 h_r_6
        rw [mul_ok hx96 hr96 (by rw [← HPR.out]; exact hp96), ← HPR.out] at c
        refine c.mono ?_
        rintro e w7 ⟨a_p, n_p, c_p, rfl, h_p_7, hb⟩
        clear c
        have B7 := B6.trans (hb.mono B6.size)
        have h_x_7 := h_x_6.below hb
        have h_y_7 := h_y_6.below hb
        have h_s_7 := h_s_6.below hb
        have h_r_7 := h_r_6.below hb
        clear B6 h_x_6 h_y_6 h_s_6 h_r_6
        clear hb
        go_wp2_with fail
        have c := Word_any w7 h_p_7
        rw [HP.out] at c
        refine c.mono ?_
        rintro e w_ ⟨rfl, rfl⟩
        clear c
        have sm : decide ((x : Int) < 4294967296) = false := by simp; omega
        go_wp2_with fail
        have c := wakes_any w7
        refine c.mono ?_
        rintro e w8 ⟨rfl, hb⟩
        clear c
        have B8 := B7.trans (hb.mono B7.size)
        have h_x_8 := h_x_7.below hb
        have h_y_8 := h_y_7.below hb
        have h_s_8 := h_s_7.below hb
        have h_r_8 := h_r_7.below hb
        have h_p_8 := h_p_7.below hb
        clear B7 h_x_7 h_y_7 h_s_7 h_r_7 h_p_7
        clear hb
        go_wp2_with fail
        go_ret
        exact ⟨rfl, B8⟩
        all_goals contradiction
      · have yz : ((y : Int) == 0) = false := by rw [beq_eq_false_iff_ne]; omega
        obtain ⟨q, hq⟩ : ∃ q, q = x / y := ⟨_, rfl⟩
        obtain ⟨m, hm⟩ : ∃ m, m = x % y := ⟨_, rfl⟩
        have lq : q < 18446744073709551616 := by rw [hq]; exact Nat.lt_of_le_of_lt (Nat.div_le_self _ _) hx
        have lm : m < 18446744073709551616 := by rw [hm]; exact Nat.lt_of_le_of_lt (Nat.mod_le _ _) hx
        have tq : Int.tdiv (x : Int) (y : Int) = (q : Int) := by rw [hq]; rfl
        have tm : Int.tmod (x : Int) (y : Int) = (m : Int) := by rw [hm]; rfl
        have HQ := Lib.hid hq
        have HM := Lib.hid hm
        clear hq hm
        have wq : IntKind.u64.wrap (q : Int) = (q : Int) := w64 lq
        have wm : IntKind.u64.wrap (m : Int) = (m : Int) := w64 lm
        go_enter Try.func10, Try.ntmps10
        have B0 : Below w.heap.size w w := Below.refl _ _
        go_wp2_with fail
        have c := Of_any w x hx
        refine c.mono ?_
        rintro e w1 ⟨a_x, n_x, c_x, rfl, h_x_1, hb⟩
        clear c
        have B1 := B0.trans (hb.mono B0.size)
        clear B0
        clear hb
        go_wp2_with fail
        have c := Of_any w1 y hy
        refine c.mono ?_
        rintro e w2 ⟨a_y, n_y, c_y, rfl, h_y_2, hb⟩
        clear c
        have B2 := B1.trans (hb.mono B1.size)
        have h_x_2 := h_x_1.below hb
        clear B1 h_x_1
        clear hb
        go_wp2_with fail
        have c := Word_any w2 h_x_2
        rw [word_ok hx] at c
        refine c.mono ?_
        rintro e w_ ⟨rfl, rfl⟩
        clear c
        go_wp2_with fail
        have c := Cmp_any _ h_x_2 h_y_2
        rw [cmp_ok hx96 hy96] at c
        rw [HC.out] at c
        refine c.mono ?_
        rintro e w_ ⟨rfl, nq, rfl⟩
        clear c
        have hb := below_drewN (Below.refl w2.heap.size w2) nq
        have B3 := B2.trans (hb.mono B2.size)
        have h_x_3 := h_x_2.below hb
        have h_y_3 := h_y_2.below hb
        clear B2 h_x_2 h_y_2
        clear hb
        generalize w2.drewN nq = w3 at *
        go_wp2_with fail
        have c := Check_any w3 h_x_3
        rw [chk_limbs hx96] at c
        refine c.mono ?_
        rintro e w_ ⟨rfl, rfl⟩
        clear c
        go_wp2_with fail
        have c := Same_any w3 h_x_3 h_y_3
        rw [same_ok] at c
        rw [HB.out] at c
        refine c.mono ?_
        rintro e w_ ⟨rfl, nq, rfl⟩
        clear c
        have hb := below_drewN (Below.refl w3.heap.size w3) nq
        have B4 := B3.trans (hb.mono B3.size)
        have h_x_4 := h_x_3.below hb
        have h_y_4 := h_y_3.below hb
        clear B3 h_x_3 h_y_3
        clear hb
        generalize w3.drewN nq = w4 at *
        go_wp2_with fail
        have c := Add_any w4 h_x_4 h_y_4
        rw [add_ok (by rw [← HS.out]; exact hs96), ← HS.out] at c
        refine c.mono ?_
        rintro e w5 ⟨a_s, n_s, c_s, rfl, h_s_5, hb⟩
        clear c
        have B5 := B4.trans (hb.mono B4.size)
        have h_x_5 := h_x_4.below hb
        have h_y_5 := h_y_4.below hb
        clear B4 h_x_4 h_y_4
        clear hb
        go_wp2_with fail
        have c := Word_any w5 h_s_5
        rw [word_great hs96 ho] at c
        refine c.mono ?_
        rintro e w_ ⟨rfl, rfl⟩
        clear c
        go_wp2_with fail
        have c := Of_any w5 r (by omega)
        refine c.mono ?_
        rintro e w6 ⟨a_r, n_r, c_r, rfl, h_r_6, hb⟩
        clear c
        have B6 := B5.trans (hb.mono B5.size)
        have h_x_6 := h_x_5.below hb
        have h_y_6 := h_y_5.below hb
        have h_s_6 := h_s_5.below hb
        clear B5 h_x_5 h_y_5 h_s_5
        clear hb
        go_wp2_with fail
        have c := Mul_any w6 h_x_6 h_r_6
        rw [mul_ok hx96 hr96 (by rw [← HPR.out]; exact hp96), ← HPR.out] at c
        refine c.mono ?_
        rintro e w7 ⟨a_p, n_p, c_p, rfl, h_p_7, hb⟩
        clear c
        have B7 := B6.trans (hb.mono B6.size)
        have h_x_7 := h_x_6.below hb
        have h_y_7 := h_y_6.below hb
        have h_s_7 := h_s_6.below hb
        have h_r_7 := h_r_6.below hb
        clear B6 h_x_6 h_y_6 h_s_6 h_r_6
        clear hb
        go_wp2_with fail
        have c := Word_any w7 h_p_7
        rw [HP.out] at c
        refine c.mono ?_
        rintro e w_ ⟨rfl, rfl⟩
        clear c
        have sm : decide ((x : Int) < 4294967296) = false := by simp; omega
        go_wp2_with fail
        have c := Div_any _ h_x_7 h_y_7
        rw [div_ok hx96 hy96 (by omega), ← HQ.out, ← HM.out] at c
        refine c.mono ?_
        rintro e w8 ⟨a_q, n_q, c_q, a_m, n_m, c_m, rfl, h_q_8, h_m_8, hb⟩
        clear c
        have B8 := B7.trans (hb.mono B7.size)
        have h_x_8 := h_x_7.below hb
        have h_y_8 := h_y_7.below hb
        have h_s_8 := h_s_7.below hb
        have h_r_8 := h_r_7.below hb
        have h_p_8 := h_p_7.below hb
        clear B7 h_x_7 h_y_7 h_s_7 h_r_7 h_p_7
        clear hb
        go_wp2_with fail
        have c := Word_any w8 h_q_8
        rw [word_ok lq] at c
        refine c.mono ?_
        rintro e w_ ⟨rfl, rfl⟩
        clear c
        go_wp2_with fail
        have c := Word_any w8 h_m_8
        rw [word_ok lm] at c
        refine c.mono ?_
        rintro e w_ ⟨rfl, rfl⟩
        clear c
        go_wp2_with fail
        have c := wakes_any w8
        refine c.mono ?_
        rintro e w9 ⟨rfl, hb⟩
        clear c
        have B9 := B8.trans (hb.mono B8.size)
        have h_x_9 := h_x_8.below hb
        have h_y_9 := h_y_8.below hb
        have h_s_9 := h_s_8.below hb
        have h_r_9 := h_r_8.below hb
        have h_p_9 := h_p_8.below hb
        have h_q_9 := h_q_8.below hb
        have h_m_9 := h_m_8.below hb
        clear B8 h_x_8 h_y_8 h_s_8 h_r_8 h_p_8 h_q_8 h_m_8
        clear hb
        go_wp2_with fail
        go_ret
        exact ⟨rfl, B9⟩
        all_goals contradiction
set_option maxRecDepth 100000 in
set_option maxHeartbeats 8000000 in
theorem natWords_more (w : World) (x : Nat) (hx0 : x < lim .u64) (y : Nat) (hy0 : y < lim .u64) (hh : y < x) :
    Calls Try.prog 10 #[.int .u64 (x : Nat), .int .u64 (y : Nat)] w fun e w' => e = .returned (.bool true) ∧ Below w.heap.size w w' := by
  have hx : x < 18446744073709551616 := hx0
  have hy : y < 18446744073709551616 := hy0
  clear hx0 hy0
  have hx96 : x < pw 96 := Nat.lt_of_lt_of_le (show x < pw 2 from hx) (pw_le (by decide))
  have hy96 : y < pw 96 := Nat.lt_of_lt_of_le (show y < pw 2 from hy) (pw_le (by decide))
  have hs96 : x + y < pw 96 := pw_add_lt (i := 2) hx hy (by decide)
  obtain ⟨r, hr⟩ : ∃ r, r = y % 4294967296 := ⟨_, rfl⟩
  have hr32 : r < 4294967296 := by rw [hr]; exact Nat.mod_lt _ (by decide)
  have hr96 : r < pw 96 := Nat.lt_of_lt_of_le (show r < pw 1 from hr32) (pw_le (by decide))
  have hp96 : x * r < pw 96 := Nat.lt_of_lt_of_le (mul_lt_pw (i := 2) (j := 1) hx hr32) (pw_le (by decide))
  obtain ⟨s, hs⟩ : ∃ s, s = x + y := ⟨_, rfl⟩
  obtain ⟨p, hp⟩ : ∃ p, p = x * r := ⟨_, rfl⟩
  have HS := Lib.hid hs
  have HPR := Lib.hid hp
  rw [← hs] at hs96
  rw [← hp] at hp96
  have ht : Int.tmod (y : Nat) 4294967296 = (r : Nat) := by rw [hr]; rfl
  clear hr
  have HC := Lib.hid (show cmpN x y = 1 by unfold cmpN; split <;> (try split) <;> omega)
  have HB := Lib.hid (show decide (x = y) = false by simp; omega)
  have n1 : ¬ x < y := by omega
  have n2 : y < x := by omega
  have l1 : decide ((x : Int) < (y : Int)) = false := by simp; omega
  have g1 : decide ((y : Int) < (x : Int)) = true := by simp; omega
  have q1 : ((x : Int) == (y : Int)) = false := by rw [beq_eq_false_iff_ne]; omega
  obtain ⟨pv, pj, hpw⟩ : ∃ pv pj, wordC (limbs p) = (pv, pj) := ⟨_, _, rfl⟩
  have HP := Lib.hid hpw
  clear hpw
  by_cases ho : s < 18446744073709551616
  · have ow : IntKind.u64.wrap ((x : Int) + (y : Int)) = ((s : Nat) : Int) := by
      rw [IntKind.wrap_u64]; omega
    have oge : decide ((x : Int) ≤ (s : Int)) = true := by simp; omega
    have hxs : x ≤ s := by omega
    clear hs hp
    by_cases hsm : x < 4294967296
    · skip
      have hpl : p < 18446744073709551616 := by rw [HPR.out]; exact Nat.lt_of_lt_of_le (Nat.mul_lt_mul'' hsm hr32) (by decide)
      have hpw : IntKind.u64.wrap ((x : Int) * (r : Int)) = ((p : Nat) : Int) := by
        rw [← Int.natCast_mul, ← HPR.out, IntKind.wrap_u64]; omega
      obtain ⟨rfl, rfl⟩ : pv = p ∧ pj = 0 := by
        have := HP.out
        rw [word_ok hpl] at this
        exact ⟨(Prod.mk.inj this).1.symm, (Prod.mk.inj this).2.symm⟩
      by_cases hz : y = 0
      · have yz : ((y : Int) == 0) = true := by rw [hz]; rfl
        clear hz
        go_enter Try.func10, Try.ntmps10
        have B0 : Below w.heap.size w w := Below.refl _ _
        go_wp2_with fail
        have c := Of_any w x hx
        refine c.mono ?_
        rintro e w1 ⟨a_x, n_x, c_x, rfl, h_x_1, hb⟩
        clear c
        have B1 := B0.trans (hb.mono B0.size)
        clear B0
        clear hb
        go_wp2_with fail
        have c := Of_any w1 y hy
        refine c.mono ?_
        rintro e w2 ⟨a_y, n_y, c_y, rfl, h_y_2, hb⟩
        clear c
        have B2 := B1.trans (hb.mono B1.size)
        have h_x_2 := h_x_1.below hb
        clear B1 h_x_1
        clear hb
        go_wp2_with fail
        have c := Word_any w2 h_x_2
        rw [word_ok hx] at c
        refine c.mono ?_
        rintro e w_ ⟨rfl, rfl⟩
        clear c
        go_wp2_with fail
        have c := Cmp_any _ h_x_2 h_y_2
        rw [cmp_ok hx96 hy96] at c
        rw [HC.out] at c
        refine c.mono ?_
        rintro e w_ ⟨rfl, nq, rfl⟩
        clear c
        have hb := below_drewN (Below.refl w2.heap.size w2) nq
        have B3 := B2.trans (hb.mono B2.size)
        have h_x_3 := h_x_2.below hb
        have h_y_3 := h_y_2.below hb
        clear B2 h_x_2 h_y_2
        clear hb
        generalize w2.drewN nq = w3 at *
        go_wp2_with fail
        have c := Check_any w3 h_x_3
        rw [chk_limbs hx96] at c
        refine c.mono ?_
        rintro e w_ ⟨rfl, rfl⟩
        clear c
        go_wp2_with fail
        have c := Same_any w3 h_x_3 h_y_3
        rw [same_ok] at c
        rw [HB.out] at c
        refine c.mono ?_
        rintro e w_ ⟨rfl, nq, rfl⟩
        clear c
        have hb := below_drewN (Below.refl w3.heap.size w3) nq
        have B4 := B3.trans (hb.mono B3.size)
        have h_x_4 := h_x_3.below hb
        have h_y_4 := h_y_3.below hb
        clear B3 h_x_3 h_y_3
        clear hb
        generalize w3.drewN nq = w4 at *
        go_wp2_with fail
        have c := Add_any w4 h_x_4 h_y_4
        rw [add_ok (by rw [← HS.out]; exact hs96), ← HS.out] at c
        refine c.mono ?_
        rintro e w5 ⟨a_s, n_s, c_s, rfl, h_s_5, hb⟩
        clear c
        have B5 := B4.trans (hb.mono B4.size)
        have h_x_5 := h_x_4.below hb
        have h_y_5 := h_y_4.below hb
        clear B4 h_x_4 h_y_4
        clear hb
        go_wp2_with fail
        have c := Word_any w5 h_s_5
        rw [word_ok ho] at c
        refine c.mono ?_
        rintro e w_ ⟨rfl, rfl⟩
        clear c
        go_wp2_with fail
        have c := Of_any w5 r (by omega)
        refine c.mono ?_
        rintro e w6 ⟨a_r, n_r, c_r, rfl, h_r_6, hb⟩
        clear c
        have B6 := B5.trans (hb.mono B5.size)
        have h_x_6 := h_x_5.below hb
        have h_y_6 := h_y_5.below hb
        have h_s_6 := h_s_5.below hb
        clear B5 h_x_5 h_y_5 h_s_5
        clear hb
        go_wp2_with fail
        have c := Mul_any w6 h_x_6 h_r_6
        rw [mul_ok hx96 hr96 (by rw [← HPR.out]; exact hp96), ← HPR.out] at c
        refine c.mono ?_
        rintro e w7 ⟨a_p, n_p, c_p, rfl, h_p_7, hb⟩
        clear c
        have B7 := B6.trans (hb.mono B6.size)
        have h_x_7 := h_x_6.below hb
        have h_y_7 := h_y_6.below hb
        have h_s_7 := h_s_6.below hb
        have h_r_7 := h_r_6.below hb
        clear B6 h_x_6 h_y_6 h_s_6 h_r_6
        clear hb
        go_wp2_with fail
        have c := Word_any w7 h_p_7
        rw [HP.out] at c
        refine c.mono ?_
        rintro e w_ ⟨rfl, rfl⟩
        clear c
        have sm : decide ((x : Int) < 4294967296) = true := by simp; omega
        go_wp2_with fail
        have c := wakes_any w7
        refine c.mono ?_
        rintro e w8 ⟨rfl, hb⟩
        clear c
        have B8 := B7.trans (hb.mono B7.size)
        have h_x_8 := h_x_7.below hb
        have h_y_8 := h_y_7.below hb
        have h_s_8 := h_s_7.below hb
        have h_r_8 := h_r_7.below hb
        have h_p_8 := h_p_7.below hb
        clear B7 h_x_7 h_y_7 h_s_7 h_r_7 h_p_7
        clear hb
        go_wp2_with fail
        go_ret
        exact ⟨rfl, B8⟩
        all_goals contradiction
      · have yz : ((y : Int) == 0) = false := by rw [beq_eq_false_iff_ne]; omega
        obtain ⟨q, hq⟩ : ∃ q, q = x / y := ⟨_, rfl⟩
        obtain ⟨m, hm⟩ : ∃ m, m = x % y := ⟨_, rfl⟩
        have lq : q < 18446744073709551616 := by rw [hq]; exact Nat.lt_of_le_of_lt (Nat.div_le_self _ _) hx
        have lm : m < 18446744073709551616 := by rw [hm]; exact Nat.lt_of_le_of_lt (Nat.mod_le _ _) hx
        have tq : Int.tdiv (x : Int) (y : Int) = (q : Int) := by rw [hq]; rfl
        have tm : Int.tmod (x : Int) (y : Int) = (m : Int) := by rw [hm]; rfl
        have HQ := Lib.hid hq
        have HM := Lib.hid hm
        clear hq hm
        have wq : IntKind.u64.wrap (q : Int) = (q : Int) := w64 lq
        have wm : IntKind.u64.wrap (m : Int) = (m : Int) := w64 lm
        go_enter Try.func10, Try.ntmps10
        have B0 : Below w.heap.size w w := Below.refl _ _
        go_wp2_with fail
        have c := Of_any w x hx
        refine c.mono ?_
        rintro e w1 ⟨a_x, n_x, c_x, rfl, h_x_1, hb⟩
        clear c
        have B1 := B0.trans (hb.mono B0.size)
        clear B0
        clear hb
        go_wp2_with fail
        have c := Of_any w1 y hy
        refine c.mono ?_
        rintro e w2 ⟨a_y, n_y, c_y, rfl, h_y_2, hb⟩
        clear c
        have B2 := B1.trans (hb.mono B1.size)
        have h_x_2 := h_x_1.below hb
        clear B1 h_x_1
        clear hb
        go_wp2_with fail
        have c := Word_any w2 h_x_2
        rw [word_ok hx] at c
        refine c.mono ?_
        rintro e w_ ⟨rfl, rfl⟩
        clear c
        go_wp2_with fail
        have c := Cmp_any _ h_x_2 h_y_2
        rw [cmp_ok hx96 hy96] at c
        rw [HC.out] at c
        refine c.mono ?_
        rintro e w_ ⟨rfl, nq, rfl⟩
        clear c
        have hb := below_drewN (Below.refl w2.heap.size w2) nq
        have B3 := B2.trans (hb.mono B2.size)
        have h_x_3 := h_x_2.below hb
        have h_y_3 := h_y_2.below hb
        clear B2 h_x_2 h_y_2
        clear hb
        generalize w2.drewN nq = w3 at *
        go_wp2_with fail
        have c := Check_any w3 h_x_3
        rw [chk_limbs hx96] at c
        refine c.mono ?_
        rintro e w_ ⟨rfl, rfl⟩
        clear c
        go_wp2_with fail
        have c := Same_any w3 h_x_3 h_y_3
        rw [same_ok] at c
        rw [HB.out] at c
        refine c.mono ?_
        rintro e w_ ⟨rfl, nq, rfl⟩
        clear c
        have hb := below_drewN (Below.refl w3.heap.size w3) nq
        have B4 := B3.trans (hb.mono B3.size)
        have h_x_4 := h_x_3.below hb
        have h_y_4 := h_y_3.below hb
        clear B3 h_x_3 h_y_3
        clear hb
        generalize w3.drewN nq = w4 at *
        go_wp2_with fail
        have c := Add_any w4 h_x_4 h_y_4
        rw [add_ok (by rw [← HS.out]; exact hs96), ← HS.out] at c
        refine c.mono ?_
        rintro e w5 ⟨a_s, n_s, c_s, rfl, h_s_5, hb⟩
        clear c
        have B5 := B4.trans (hb.mono B4.size)
        have h_x_5 := h_x_4.below hb
        have h_y_5 := h_y_4.below hb
        clear B4 h_x_4 h_y_4
        clear hb
        go_wp2_with fail
        have c := Word_any w5 h_s_5
        rw [word_ok ho] at c
        refine c.mono ?_
        rintro e w_ ⟨rfl, rfl⟩
        clear c
        go_wp2_with fail
        have c := Of_any w5 r (by omega)
        refine c.mono ?_
        rintro e w6 ⟨a_r, n_r, c_r, rfl, h_r_6, hb⟩
        clear c
        have B6 := B5.trans (hb.mono B5.size)
        have h_x_6 := h_x_5.below hb
        have h_y_6 := h_y_5.below hb
        have h_s_6 := h_s_5.below hb
        clear B5 h_x_5 h_y_5 h_s_5
        clear hb
        go_wp2_with fail
        have c := Mul_any w6 h_x_6 h_r_6
        rw [mul_ok hx96 hr96 (by rw [← HPR.out]; exact hp96), ← HPR.out] at c
        refine c.mono ?_
        rintro e w7 ⟨a_p, n_p, c_p, rfl, h_p_7, hb⟩
        clear c
        have B7 := B6.trans (hb.mono B6.size)
        have h_x_7 := h_x_6.below hb
        have h_y_7 := h_y_6.below hb
        have h_s_7 := h_s_6.below hb
        have h_r_7 := h_r_6.below hb
        clear B6 h_x_6 h_y_6 h_s_6 h_r_6
        clear hb
        go_wp2_with fail
        have c := Word_any w7 h_p_7
        rw [HP.out] at c
        refine c.mono ?_
        rintro e w_ ⟨rfl, rfl⟩
        clear c
        have sm : decide ((x : Int) < 4294967296) = true := by simp; omega
        go_wp2_with fail
        have c := Div_any _ h_x_7 h_y_7
        rw [div_ok hx96 hy96 (by omega), ← HQ.out, ← HM.out] at c
        refine c.mono ?_
        rintro e w8 ⟨a_q, n_q, c_q, a_m, n_m, c_m, rfl, h_q_8, h_m_8, hb⟩
        clear c
        have B8 := B7.trans (hb.mono B7.size)
        have h_x_8 := h_x_7.below hb
        have h_y_8 := h_y_7.below hb
        have h_s_8 := h_s_7.below hb
        have h_r_8 := h_r_7.below hb
        have h_p_8 := h_p_7.below hb
        clear B7 h_x_7 h_y_7 h_s_7 h_r_7 h_p_7
        clear hb
        go_wp2_with fail
        have c := Word_any w8 h_q_8
        rw [word_ok lq] at c
        refine c.mono ?_
        rintro e w_ ⟨rfl, rfl⟩
        clear c
        go_wp2_with fail
        have c := Word_any w8 h_m_8
        rw [word_ok lm] at c
        refine c.mono ?_
        rintro e w_ ⟨rfl, rfl⟩
        clear c
        go_wp2_with fail
        have c := wakes_any w8
        refine c.mono ?_
        rintro e w9 ⟨rfl, hb⟩
        clear c
        have B9 := B8.trans (hb.mono B8.size)
        have h_x_9 := h_x_8.below hb
        have h_y_9 := h_y_8.below hb
        have h_s_9 := h_s_8.below hb
        have h_r_9 := h_r_8.below hb
        have h_p_9 := h_p_8.below hb
        have h_q_9 := h_q_8.below hb
        have h_m_9 := h_m_8.below hb
        clear B8 h_x_8 h_y_8 h_s_8 h_r_8 h_p_8 h_q_8 h_m_8
        clear hb
        go_wp2_with fail
        go_ret
        exact ⟨rfl, B9⟩
        all_goals contradiction
    · skip
      by_cases hz : y = 0
      · have yz : ((y : Int) == 0) = true := by rw [hz]; rfl
        clear hz
        go_enter Try.func10, Try.ntmps10
        have B0 : Below w.heap.size w w := Below.refl _ _
        go_wp2_with fail
        have c := Of_any w x hx
        refine c.mono ?_
        rintro e w1 ⟨a_x, n_x, c_x, rfl, h_x_1, hb⟩
        clear c
        have B1 := B0.trans (hb.mono B0.size)
        clear B0
        clear hb
        go_wp2_with fail
        have c := Of_any w1 y hy
        refine c.mono ?_
        rintro e w2 ⟨a_y, n_y, c_y, rfl, h_y_2, hb⟩
        clear c
        have B2 := B1.trans (hb.mono B1.size)
        have h_x_2 := h_x_1.below hb
        clear B1 h_x_1
        clear hb
        go_wp2_with fail
        have c := Word_any w2 h_x_2
        rw [word_ok hx] at c
        refine c.mono ?_
        rintro e w_ ⟨rfl, rfl⟩
        clear c
        go_wp2_with fail
        have c := Cmp_any _ h_x_2 h_y_2
        rw [cmp_ok hx96 hy96] at c
        rw [HC.out] at c
        refine c.mono ?_
        rintro e w_ ⟨rfl, nq, rfl⟩
        clear c
        have hb := below_drewN (Below.refl w2.heap.size w2) nq
        have B3 := B2.trans (hb.mono B2.size)
        have h_x_3 := h_x_2.below hb
        have h_y_3 := h_y_2.below hb
        clear B2 h_x_2 h_y_2
        clear hb
        generalize w2.drewN nq = w3 at *
        go_wp2_with fail
        have c := Check_any w3 h_x_3
        rw [chk_limbs hx96] at c
        refine c.mono ?_
        rintro e w_ ⟨rfl, rfl⟩
        clear c
        go_wp2_with fail
        have c := Same_any w3 h_x_3 h_y_3
        rw [same_ok] at c
        rw [HB.out] at c
        refine c.mono ?_
        rintro e w_ ⟨rfl, nq, rfl⟩
        clear c
        have hb := below_drewN (Below.refl w3.heap.size w3) nq
        have B4 := B3.trans (hb.mono B3.size)
        have h_x_4 := h_x_3.below hb
        have h_y_4 := h_y_3.below hb
        clear B3 h_x_3 h_y_3
        clear hb
        generalize w3.drewN nq = w4 at *
        go_wp2_with fail
        have c := Add_any w4 h_x_4 h_y_4
        rw [add_ok (by rw [← HS.out]; exact hs96), ← HS.out] at c
        refine c.mono ?_
        rintro e w5 ⟨a_s, n_s, c_s, rfl, h_s_5, hb⟩
        clear c
        have B5 := B4.trans (hb.mono B4.size)
        have h_x_5 := h_x_4.below hb
        have h_y_5 := h_y_4.below hb
        clear B4 h_x_4 h_y_4
        clear hb
        go_wp2_with fail
        have c := Word_any w5 h_s_5
        rw [word_ok ho] at c
        refine c.mono ?_
        rintro e w_ ⟨rfl, rfl⟩
        clear c
        go_wp2_with fail
        have c := Of_any w5 r (by omega)
        refine c.mono ?_
        rintro e w6 ⟨a_r, n_r, c_r, rfl, h_r_6, hb⟩
        clear c
        have B6 := B5.trans (hb.mono B5.size)
        have h_x_6 := h_x_5.below hb
        have h_y_6 := h_y_5.below hb
        have h_s_6 := h_s_5.below hb
        clear B5 h_x_5 h_y_5 h_s_5
        clear hb
        go_wp2_with fail
        have c := Mul_any w6 h_x_6 h_r_6
        rw [mul_ok hx96 hr96 (by rw [← HPR.out]; exact hp96), ← HPR.out] at c
        refine c.mono ?_
        rintro e w7 ⟨a_p, n_p, c_p, rfl, h_p_7, hb⟩
        clear c
        have B7 := B6.trans (hb.mono B6.size)
        have h_x_7 := h_x_6.below hb
        have h_y_7 := h_y_6.below hb
        have h_s_7 := h_s_6.below hb
        have h_r_7 := h_r_6.below hb
        clear B6 h_x_6 h_y_6 h_s_6 h_r_6
        clear hb
        go_wp2_with fail
        have c := Word_any w7 h_p_7
        rw [HP.out] at c
        refine c.mono ?_
        rintro e w_ ⟨rfl, rfl⟩
        clear c
        have sm : decide ((x : Int) < 4294967296) = false := by simp; omega
        go_wp2_with fail
        have c := wakes_any w7
        refine c.mono ?_
        rintro e w8 ⟨rfl, hb⟩
        clear c
        have B8 := B7.trans (hb.mono B7.size)
        have h_x_8 := h_x_7.below hb
        have h_y_8 := h_y_7.below hb
        have h_s_8 := h_s_7.below hb
        have h_r_8 := h_r_7.below hb
        have h_p_8 := h_p_7.below hb
        clear B7 h_x_7 h_y_7 h_s_7 h_r_7 h_p_7
        clear hb
        go_wp2_with fail
        go_ret
        exact ⟨rfl, B8⟩
        all_goals contradiction
      · have yz : ((y : Int) == 0) = false := by rw [beq_eq_false_iff_ne]; omega
        obtain ⟨q, hq⟩ : ∃ q, q = x / y := ⟨_, rfl⟩
        obtain ⟨m, hm⟩ : ∃ m, m = x % y := ⟨_, rfl⟩
        have lq : q < 18446744073709551616 := by rw [hq]; exact Nat.lt_of_le_of_lt (Nat.div_le_self _ _) hx
        have lm : m < 18446744073709551616 := by rw [hm]; exact Nat.lt_of_le_of_lt (Nat.mod_le _ _) hx
        have tq : Int.tdiv (x : Int) (y : Int) = (q : Int) := by rw [hq]; rfl
        have tm : Int.tmod (x : Int) (y : Int) = (m : Int) := by rw [hm]; rfl
        have HQ := Lib.hid hq
        have HM := Lib.hid hm
        clear hq hm
        have wq : IntKind.u64.wrap (q : Int) = (q : Int) := w64 lq
        have wm : IntKind.u64.wrap (m : Int) = (m : Int) := w64 lm
        go_enter Try.func10, Try.ntmps10
        have B0 : Below w.heap.size w w := Below.refl _ _
        go_wp2_with fail
        have c := Of_any w x hx
        refine c.mono ?_
        rintro e w1 ⟨a_x, n_x, c_x, rfl, h_x_1, hb⟩
        clear c
        have B1 := B0.trans (hb.mono B0.size)
        clear B0
        clear hb
        go_wp2_with fail
        have c := Of_any w1 y hy
        refine c.mono ?_
        rintro e w2 ⟨a_y, n_y, c_y, rfl, h_y_2, hb⟩
        clear c
        have B2 := B1.trans (hb.mono B1.size)
        have h_x_2 := h_x_1.below hb
        clear B1 h_x_1
        clear hb
        go_wp2_with fail
        have c := Word_any w2 h_x_2
        rw [word_ok hx] at c
        refine c.mono ?_
        rintro e w_ ⟨rfl, rfl⟩
        clear c
        go_wp2_with fail
        have c := Cmp_any _ h_x_2 h_y_2
        rw [cmp_ok hx96 hy96] at c
        rw [HC.out] at c
        refine c.mono ?_
        rintro e w_ ⟨rfl, nq, rfl⟩
        clear c
        have hb := below_drewN (Below.refl w2.heap.size w2) nq
        have B3 := B2.trans (hb.mono B2.size)
        have h_x_3 := h_x_2.below hb
        have h_y_3 := h_y_2.below hb
        clear B2 h_x_2 h_y_2
        clear hb
        generalize w2.drewN nq = w3 at *
        go_wp2_with fail
        have c := Check_any w3 h_x_3
        rw [chk_limbs hx96] at c
        refine c.mono ?_
        rintro e w_ ⟨rfl, rfl⟩
        clear c
        go_wp2_with fail
        have c := Same_any w3 h_x_3 h_y_3
        rw [same_ok] at c
        rw [HB.out] at c
        refine c.mono ?_
        rintro e w_ ⟨rfl, nq, rfl⟩
        clear c
        have hb := below_drewN (Below.refl w3.heap.size w3) nq
        have B4 := B3.trans (hb.mono B3.size)
        have h_x_4 := h_x_3.below hb
        have h_y_4 := h_y_3.below hb
        clear B3 h_x_3 h_y_3
        clear hb
        generalize w3.drewN nq = w4 at *
        go_wp2_with fail
        have c := Add_any w4 h_x_4 h_y_4
        rw [add_ok (by rw [← HS.out]; exact hs96), ← HS.out] at c
        refine c.mono ?_
        rintro e w5 ⟨a_s, n_s, c_s, rfl, h_s_5, hb⟩
        clear c
        have B5 := B4.trans (hb.mono B4.size)
        have h_x_5 := h_x_4.below hb
        have h_y_5 := h_y_4.below hb
        clear B4 h_x_4 h_y_4
        clear hb
        go_wp2_with fail
        have c := Word_any w5 h_s_5
        rw [word_ok ho] at c
        refine c.mono ?_
        rintro e w_ ⟨rfl, rfl⟩
        clear c
        go_wp2_with fail
        have c := Of_any w5 r (by omega)
        refine c.mono ?_
        rintro e w6 ⟨a_r, n_r, c_r, rfl, h_r_6, hb⟩
        clear c
        have B6 := B5.trans (hb.mono B5.size)
        have h_x_6 := h_x_5.below hb
        have h_y_6 := h_y_5.below hb
        have h_s_6 := h_s_5.below hb
        clear B5 h_x_5 h_y_5 h_s_5
        clear hb
        go_wp2_with fail
        have c := Mul_any w6 h_x_6 h_r_6
        rw [mul_ok hx96 hr96 (by rw [← HPR.out]; exact hp96), ← HPR.out] at c
        refine c.mono ?_
        rintro e w7 ⟨a_p, n_p, c_p, rfl, h_p_7, hb⟩
        clear c
        have B7 := B6.trans (hb.mono B6.size)
        have h_x_7 := h_x_6.below hb
        have h_y_7 := h_y_6.below hb
        have h_s_7 := h_s_6.below hb
        have h_r_7 := h_r_6.below hb
        clear B6 h_x_6 h_y_6 h_s_6 h_r_6
        clear hb
        go_wp2_with fail
        have c := Word_any w7 h_p_7
        rw [HP.out] at c
        refine c.mono ?_
        rintro e w_ ⟨rfl, rfl⟩
        clear c
        have sm : decide ((x : Int) < 4294967296) = false := by simp; omega
        go_wp2_with fail
        have c := Div_any _ h_x_7 h_y_7
        rw [div_ok hx96 hy96 (by omega), ← HQ.out, ← HM.out] at c
        refine c.mono ?_
        rintro e w8 ⟨a_q, n_q, c_q, a_m, n_m, c_m, rfl, h_q_8, h_m_8, hb⟩
        clear c
        have B8 := B7.trans (hb.mono B7.size)
        have h_x_8 := h_x_7.below hb
        have h_y_8 := h_y_7.below hb
        have h_s_8 := h_s_7.below hb
        have h_r_8 := h_r_7.below hb
        have h_p_8 := h_p_7.below hb
        clear B7 h_x_7 h_y_7 h_s_7 h_r_7 h_p_7
        clear hb
        go_wp2_with fail
        have c := Word_any w8 h_q_8
        rw [word_ok lq] at c
        refine c.mono ?_
        rintro e w_ ⟨rfl, rfl⟩
        clear c
        go_wp2_with fail
        have c := Word_any w8 h_m_8
        rw [word_ok lm] at c
        refine c.mono ?_
        rintro e w_ ⟨rfl, rfl⟩
        clear c
        go_wp2_with fail
        have c := wakes_any w8
        refine c.mono ?_
        rintro e w9 ⟨rfl, hb⟩
        clear c
        have B9 := B8.trans (hb.mono B8.size)
        have h_x_9 := h_x_8.below hb
        have h_y_9 := h_y_8.below hb
        have h_s_9 := h_s_8.below hb
        have h_r_9 := h_r_8.below hb
        have h_p_9 := h_p_8.below hb
        have h_q_9 := h_q_8.below hb
        have h_m_9 := h_m_8.below hb
        clear B8 h_x_8 h_y_8 h_s_8 h_r_8 h_p_8 h_q_8 h_m_8
        clear hb
        go_wp2_with fail
        go_ret
        exact ⟨rfl, B9⟩
        all_goals contradiction
  · obtain ⟨z, hz⟩ : ∃ z, z = s - 18446744073709551616 := ⟨_, rfl⟩
    have ow : IntKind.u64.wrap ((x : Int) + (y : Int)) = ((z : Nat) : Int) := by
      rw [IntKind.wrap_u64]; omega
    have oge : decide ((x : Int) ≤ (z : Int)) = false := by simp; omega
    have hxs : ¬ x ≤ z := by omega
    clear hs hp hz
    by_cases hsm : x < 4294967296
    · skip
      have hpl : p < 18446744073709551616 := by rw [HPR.out]; exact Nat.lt_of_lt_of_le (Nat.mul_lt_mul'' hsm hr32) (by decide)
      have hpw : IntKind.u64.wrap ((x : Int) * (r : Int)) = ((p : Nat) : Int) := by
        rw [← Int.natCast_mul, ← HPR.out, IntKind.wrap_u64]; omega
      obtain ⟨rfl, rfl⟩ : pv = p ∧ pj = 0 := by
        have := HP.out
        rw [word_ok hpl] at this
        exact ⟨(Prod.mk.inj this).1.symm, (Prod.mk.inj this).2.symm⟩
      by_cases hz : y = 0
      · have yz : ((y : Int) == 0) = true := by rw [hz]; rfl
        clear hz
        go_enter Try.func10, Try.ntmps10
        have B0 : Below w.heap.size w w := Below.refl _ _
        go_wp2_with fail
        have c := Of_any w x hx
        refine c.mono ?_
        rintro e w1 ⟨a_x, n_x, c_x, rfl, h_x_1, hb⟩
        clear c
        have B1 := B0.trans (hb.mono B0.size)
        clear B0
        clear hb
        go_wp2_with fail
        have c := Of_any w1 y hy
        refine c.mono ?_
        rintro e w2 ⟨a_y, n_y, c_y, rfl, h_y_2, hb⟩
        clear c
        have B2 := B1.trans (hb.mono B1.size)
        have h_x_2 := h_x_1.below hb
        clear B1 h_x_1
        clear hb
        go_wp2_with fail
        have c := Word_any w2 h_x_2
        rw [word_ok hx] at c
        refine c.mono ?_
        rintro e w_ ⟨rfl, rfl⟩
        clear c
        go_wp2_with fail
        have c := Cmp_any _ h_x_2 h_y_2
        rw [cmp_ok hx96 hy96] at c
        rw [HC.out] at c
        refine c.mono ?_
        rintro e w_ ⟨rfl, nq, rfl⟩
        clear c
        have hb := below_drewN (Below.refl w2.heap.size w2) nq
        have B3 := B2.trans (hb.mono B2.size)
        have h_x_3 := h_x_2.below hb
        have h_y_3 := h_y_2.below hb
        clear B2 h_x_2 h_y_2
        clear hb
        generalize w2.drewN nq = w3 at *
        go_wp2_with fail
        have c := Check_any w3 h_x_3
        rw [chk_limbs hx96] at c
        refine c.mono ?_
        rintro e w_ ⟨rfl, rfl⟩
        clear c
        go_wp2_with fail
        have c := Same_any w3 h_x_3 h_y_3
        rw [same_ok] at c
        rw [HB.out] at c
        refine c.mono ?_
        rintro e w_ ⟨rfl, nq, rfl⟩
        clear c
        have hb := below_drewN (Below.refl w3.heap.size w3) nq
        have B4 := B3.trans (hb.mono B3.size)
        have h_x_4 := h_x_3.below hb
        have h_y_4 := h_y_3.below hb
        clear B3 h_x_3 h_y_3
        clear hb
        generalize w3.drewN nq = w4 at *
        go_wp2_with fail
        have c := Add_any w4 h_x_4 h_y_4
        rw [add_ok (by rw [← HS.out]; exact hs96), ← HS.out] at c
        refine c.mono ?_
        rintro e w5 ⟨a_s, n_s, c_s, rfl, h_s_5, hb⟩
        clear c
        have B5 := B4.trans (hb.mono B4.size)
        have h_x_5 := h_x_4.below hb
        have h_y_5 := h_y_4.below hb
        clear B4 h_x_4 h_y_4
        clear hb
        go_wp2_with fail
        have c := Word_any w5 h_s_5
        rw [word_great hs96 ho] at c
        refine c.mono ?_
        rintro e w_ ⟨rfl, rfl⟩
        clear c
        go_wp2_with fail
        have c := Of_any w5 r (by omega)
        refine c.mono ?_
        rintro e w6 ⟨a_r, n_r, c_r, rfl, h_r_6, hb⟩
        clear c
        have B6 := B5.trans (hb.mono B5.size)
        have h_x_6 := h_x_5.below hb
        have h_y_6 := h_y_5.below hb
        have h_s_6 := h_s_5.below hb
        clear B5 h_x_5 h_y_5 h_s_5
        clear hb
        go_wp2_with fail
        have c := Mul_any w6 h_x_6 h_r_6
        rw [mul_ok hx96 hr96 (by rw [← HPR.out]; exact hp96), ← HPR.out] at c
        refine c.mono ?_
        rintro e w7 ⟨a_p, n_p, c_p, rfl, h_p_7, hb⟩
        clear c
        have B7 := B6.trans (hb.mono B6.size)
        have h_x_7 := h_x_6.below hb
        have h_y_7 := h_y_6.below hb
        have h_s_7 := h_s_6.below hb
        have h_r_7 := h_r_6.below hb
        clear B6 h_x_6 h_y_6 h_s_6 h_r_6
        clear hb
        go_wp2_with fail
        have c := Word_any w7 h_p_7
        rw [HP.out] at c
        refine c.mono ?_
        rintro e w_ ⟨rfl, rfl⟩
        clear c
        have sm : decide ((x : Int) < 4294967296) = true := by simp; omega
        go_wp2_with fail
        have c := wakes_any w7
        refine c.mono ?_
        rintro e w8 ⟨rfl, hb⟩
        clear c
        have B8 := B7.trans (hb.mono B7.size)
        have h_x_8 := h_x_7.below hb
        have h_y_8 := h_y_7.below hb
        have h_s_8 := h_s_7.below hb
        have h_r_8 := h_r_7.below hb
        have h_p_8 := h_p_7.below hb
        clear B7 h_x_7 h_y_7 h_s_7 h_r_7 h_p_7
        clear hb
        go_wp2_with fail
        go_ret
        exact ⟨rfl, B8⟩
        all_goals contradiction
      · have yz : ((y : Int) == 0) = false := by rw [beq_eq_false_iff_ne]; omega
        obtain ⟨q, hq⟩ : ∃ q, q = x / y := ⟨_, rfl⟩
        obtain ⟨m, hm⟩ : ∃ m, m = x % y := ⟨_, rfl⟩
        have lq : q < 18446744073709551616 := by rw [hq]; exact Nat.lt_of_le_of_lt (Nat.div_le_self _ _) hx
        have lm : m < 18446744073709551616 := by rw [hm]; exact Nat.lt_of_le_of_lt (Nat.mod_le _ _) hx
        have tq : Int.tdiv (x : Int) (y : Int) = (q : Int) := by rw [hq]; rfl
        have tm : Int.tmod (x : Int) (y : Int) = (m : Int) := by rw [hm]; rfl
        have HQ := Lib.hid hq
        have HM := Lib.hid hm
        clear hq hm
        have wq : IntKind.u64.wrap (q : Int) = (q : Int) := w64 lq
        have wm : IntKind.u64.wrap (m : Int) = (m : Int) := w64 lm
        go_enter Try.func10, Try.ntmps10
        have B0 : Below w.heap.size w w := Below.refl _ _
        go_wp2_with fail
        have c := Of_any w x hx
        refine c.mono ?_
        rintro e w1 ⟨a_x, n_x, c_x, rfl, h_x_1, hb⟩
        clear c
        have B1 := B0.trans (hb.mono B0.size)
        clear B0
        clear hb
        go_wp2_with fail
        have c := Of_any w1 y hy
        refine c.mono ?_
        rintro e w2 ⟨a_y, n_y, c_y, rfl, h_y_2, hb⟩
        clear c
        have B2 := B1.trans (hb.mono B1.size)
        have h_x_2 := h_x_1.below hb
        clear B1 h_x_1
        clear hb
        go_wp2_with fail
        have c := Word_any w2 h_x_2
        rw [word_ok hx] at c
        refine c.mono ?_
        rintro e w_ ⟨rfl, rfl⟩
        clear c
        go_wp2_with fail
        have c := Cmp_any _ h_x_2 h_y_2
        rw [cmp_ok hx96 hy96] at c
        rw [HC.out] at c
        refine c.mono ?_
        rintro e w_ ⟨rfl, nq, rfl⟩
        clear c
        have hb := below_drewN (Below.refl w2.heap.size w2) nq
        have B3 := B2.trans (hb.mono B2.size)
        have h_x_3 := h_x_2.below hb
        have h_y_3 := h_y_2.below hb
        clear B2 h_x_2 h_y_2
        clear hb
        generalize w2.drewN nq = w3 at *
        go_wp2_with fail
        have c := Check_any w3 h_x_3
        rw [chk_limbs hx96] at c
        refine c.mono ?_
        rintro e w_ ⟨rfl, rfl⟩
        clear c
        go_wp2_with fail
        have c := Same_any w3 h_x_3 h_y_3
        rw [same_ok] at c
        rw [HB.out] at c
        refine c.mono ?_
        rintro e w_ ⟨rfl, nq, rfl⟩
        clear c
        have hb := below_drewN (Below.refl w3.heap.size w3) nq
        have B4 := B3.trans (hb.mono B3.size)
        have h_x_4 := h_x_3.below hb
        have h_y_4 := h_y_3.below hb
        clear B3 h_x_3 h_y_3
        clear hb
        generalize w3.drewN nq = w4 at *
        go_wp2_with fail
        have c := Add_any w4 h_x_4 h_y_4
        rw [add_ok (by rw [← HS.out]; exact hs96), ← HS.out] at c
        refine c.mono ?_
        rintro e w5 ⟨a_s, n_s, c_s, rfl, h_s_5, hb⟩
        clear c
        have B5 := B4.trans (hb.mono B4.size)
        have h_x_5 := h_x_4.below hb
        have h_y_5 := h_y_4.below hb
        clear B4 h_x_4 h_y_4
        clear hb
        go_wp2_with fail
        have c := Word_any w5 h_s_5
        rw [word_great hs96 ho] at c
        refine c.mono ?_
        rintro e w_ ⟨rfl, rfl⟩
        clear c
        go_wp2_with fail
        have c := Of_any w5 r (by omega)
        refine c.mono ?_
        rintro e w6 ⟨a_r, n_r, c_r, rfl, h_r_6, hb⟩
        clear c
        have B6 := B5.trans (hb.mono B5.size)
        have h_x_6 := h_x_5.below hb
        have h_y_6 := h_y_5.below hb
        have h_s_6 := h_s_5.below hb
        clear B5 h_x_5 h_y_5 h_s_5
        clear hb
        go_wp2_with fail
        have c := Mul_any w6 h_x_6 h_r_6
        rw [mul_ok hx96 hr96 (by rw [← HPR.out]; exact hp96), ← HPR.out] at c
        refine c.mono ?_
        rintro e w7 ⟨a_p, n_p, c_p, rfl, h_p_7, hb⟩
        clear c
        have B7 := B6.trans (hb.mono B6.size)
        have h_x_7 := h_x_6.below hb
        have h_y_7 := h_y_6.below hb
        have h_s_7 := h_s_6.below hb
        have h_r_7 := h_r_6.below hb
        clear B6 h_x_6 h_y_6 h_s_6 h_r_6
        clear hb
        go_wp2_with fail
        have c := Word_any w7 h_p_7
        rw [HP.out] at c
        refine c.mono ?_
        rintro e w_ ⟨rfl, rfl⟩
        clear c
        have sm : decide ((x : Int) < 4294967296) = true := by simp; omega
        go_wp2_with fail
        have c := Div_any _ h_x_7 h_y_7
        rw [div_ok hx96 hy96 (by omega), ← HQ.out, ← HM.out] at c
        refine c.mono ?_
        rintro e w8 ⟨a_q, n_q, c_q, a_m, n_m, c_m, rfl, h_q_8, h_m_8, hb⟩
        clear c
        have B8 := B7.trans (hb.mono B7.size)
        have h_x_8 := h_x_7.below hb
        have h_y_8 := h_y_7.below hb
        have h_s_8 := h_s_7.below hb
        have h_r_8 := h_r_7.below hb
        have h_p_8 := h_p_7.below hb
        clear B7 h_x_7 h_y_7 h_s_7 h_r_7 h_p_7
        clear hb
        go_wp2_with fail
        have c := Word_any w8 h_q_8
        rw [word_ok lq] at c
        refine c.mono ?_
        rintro e w_ ⟨rfl, rfl⟩
        clear c
        go_wp2_with fail
        have c := Word_any w8 h_m_8
        rw [word_ok lm] at c
        refine c.mono ?_
        rintro e w_ ⟨rfl, rfl⟩
        clear c
        go_wp2_with fail
        have c := wakes_any w8
        refine c.mono ?_
        rintro e w9 ⟨rfl, hb⟩
        clear c
        have B9 := B8.trans (hb.mono B8.size)
        have h_x_9 := h_x_8.below hb
        have h_y_9 := h_y_8.below hb
        have h_s_9 := h_s_8.below hb
        have h_r_9 := h_r_8.below hb
        have h_p_9 := h_p_8.below hb
        have h_q_9 := h_q_8.below hb
        have h_m_9 := h_m_8.below hb
        clear B8 h_x_8 h_y_8 h_s_8 h_r_8 h_p_8 h_q_8 h_m_8
        clear hb
        go_wp2_with fail
        go_ret
        exact ⟨rfl, B9⟩
        all_goals contradiction
    · skip
      by_cases hz : y = 0
      · have yz : ((y : Int) == 0) = true := by rw [hz]; rfl
        clear hz
        go_enter Try.func10, Try.ntmps10
        have B0 : Below w.heap.size w w := Below.refl _ _
        go_wp2_with fail
        have c := Of_any w x hx
        refine c.mono ?_
        rintro e w1 ⟨a_x, n_x, c_x, rfl, h_x_1, hb⟩
        clear c
        have B1 := B0.trans (hb.mono B0.size)
        clear B0
        clear hb
        go_wp2_with fail
        have c := Of_any w1 y hy
        refine c.mono ?_
        rintro e w2 ⟨a_y, n_y, c_y, rfl, h_y_2, hb⟩
        clear c
        have B2 := B1.trans (hb.mono B1.size)
        have h_x_2 := h_x_1.below hb
        clear B1 h_x_1
        clear hb
        go_wp2_with fail
        have c := Word_any w2 h_x_2
        rw [word_ok hx] at c
        refine c.mono ?_
        rintro e w_ ⟨rfl, rfl⟩
        clear c
        go_wp2_with fail
        have c := Cmp_any _ h_x_2 h_y_2
        rw [cmp_ok hx96 hy96] at c
        rw [HC.out] at c
        refine c.mono ?_
        rintro e w_ ⟨rfl, nq, rfl⟩
        clear c
        have hb := below_drewN (Below.refl w2.heap.size w2) nq
        have B3 := B2.trans (hb.mono B2.size)
        have h_x_3 := h_x_2.below hb
        have h_y_3 := h_y_2.below hb
        clear B2 h_x_2 h_y_2
        clear hb
        generalize w2.drewN nq = w3 at *
        go_wp2_with fail
        have c := Check_any w3 h_x_3
        rw [chk_limbs hx96] at c
        refine c.mono ?_
        rintro e w_ ⟨rfl, rfl⟩
        clear c
        go_wp2_with fail
        have c := Same_any w3 h_x_3 h_y_3
        rw [same_ok] at c
        rw [HB.out] at c
        refine c.mono ?_
        rintro e w_ ⟨rfl, nq, rfl⟩
        clear c
        have hb := below_drewN (Below.refl w3.heap.size w3) nq
        have B4 := B3.trans (hb.mono B3.size)
        have h_x_4 := h_x_3.below hb
        have h_y_4 := h_y_3.below hb
        clear B3 h_x_3 h_y_3
        clear hb
        generalize w3.drewN nq = w4 at *
        go_wp2_with fail
        have c := Add_any w4 h_x_4 h_y_4
        rw [add_ok (by rw [← HS.out]; exact hs96), ← HS.out] at c
        refine c.mono ?_
        rintro e w5 ⟨a_s, n_s, c_s, rfl, h_s_5, hb⟩
        clear c
        have B5 := B4.trans (hb.mono B4.size)
        have h_x_5 := h_x_4.below hb
        have h_y_5 := h_y_4.below hb
        clear B4 h_x_4 h_y_4
        clear hb
        go_wp2_with fail
        have c := Word_any w5 h_s_5
        rw [word_great hs96 ho] at c
        refine c.mono ?_
        rintro e w_ ⟨rfl, rfl⟩
        clear c
        go_wp2_with fail
        have c := Of_any w5 r (by omega)
        refine c.mono ?_
        rintro e w6 ⟨a_r, n_r, c_r, rfl, h_r_6, hb⟩
        clear c
        have B6 := B5.trans (hb.mono B5.size)
        have h_x_6 := h_x_5.below hb
        have h_y_6 := h_y_5.below hb
        have h_s_6 := h_s_5.below hb
        clear B5 h_x_5 h_y_5 h_s_5
        clear hb
        go_wp2_with fail
        have c := Mul_any w6 h_x_6 h_r_6
        rw [mul_ok hx96 hr96 (by rw [← HPR.out]; exact hp96), ← HPR.out] at c
        refine c.mono ?_
        rintro e w7 ⟨a_p, n_p, c_p, rfl, h_p_7, hb⟩
        clear c
        have B7 := B6.trans (hb.mono B6.size)
        have h_x_7 := h_x_6.below hb
        have h_y_7 := h_y_6.below hb
        have h_s_7 := h_s_6.below hb
        have h_r_7 := h_r_6.below hb
        clear B6 h_x_6 h_y_6 h_s_6 h_r_6
        clear hb
        go_wp2_with fail
        have c := Word_any w7 h_p_7
        rw [HP.out] at c
        refine c.mono ?_
        rintro e w_ ⟨rfl, rfl⟩
        clear c
        have sm : decide ((x : Int) < 4294967296) = false := by simp; omega
        go_wp2_with fail
        have c := wakes_any w7
        refine c.mono ?_
        rintro e w8 ⟨rfl, hb⟩
        clear c
        have B8 := B7.trans (hb.mono B7.size)
        have h_x_8 := h_x_7.below hb
        have h_y_8 := h_y_7.below hb
        have h_s_8 := h_s_7.below hb
        have h_r_8 := h_r_7.below hb
        have h_p_8 := h_p_7.below hb
        clear B7 h_x_7 h_y_7 h_s_7 h_r_7 h_p_7
        clear hb
        go_wp2_with fail
        go_ret
        exact ⟨rfl, B8⟩
        all_goals contradiction
      · have yz : ((y : Int) == 0) = false := by rw [beq_eq_false_iff_ne]; omega
        obtain ⟨q, hq⟩ : ∃ q, q = x / y := ⟨_, rfl⟩
        obtain ⟨m, hm⟩ : ∃ m, m = x % y := ⟨_, rfl⟩
        have lq : q < 18446744073709551616 := by rw [hq]; exact Nat.lt_of_le_of_lt (Nat.div_le_self _ _) hx
        have lm : m < 18446744073709551616 := by rw [hm]; exact Nat.lt_of_le_of_lt (Nat.mod_le _ _) hx
        have tq : Int.tdiv (x : Int) (y : Int) = (q : Int) := by rw [hq]; rfl
        have tm : Int.tmod (x : Int) (y : Int) = (m : Int) := by rw [hm]; rfl
        have HQ := Lib.hid hq
        have HM := Lib.hid hm
        clear hq hm
        have wq : IntKind.u64.wrap (q : Int) = (q : Int) := w64 lq
        have wm : IntKind.u64.wrap (m : Int) = (m : Int) := w64 lm
        go_enter Try.func10, Try.ntmps10
        have B0 : Below w.heap.size w w := Below.refl _ _
        go_wp2_with fail
        have c := Of_any w x hx
        refine c.mono ?_
        rintro e w1 ⟨a_x, n_x, c_x, rfl, h_x_1, hb⟩
        clear c
        have B1 := B0.trans (hb.mono B0.size)
        clear B0
        clear hb
        go_wp2_with fail
        have c := Of_any w1 y hy
        refine c.mono ?_
        rintro e w2 ⟨a_y, n_y, c_y, rfl, h_y_2, hb⟩
        clear c
        have B2 := B1.trans (hb.mono B1.size)
        have h_x_2 := h_x_1.below hb
        clear B1 h_x_1
        clear hb
        go_wp2_with fail
        have c := Word_any w2 h_x_2
        rw [word_ok hx] at c
        refine c.mono ?_
        rintro e w_ ⟨rfl, rfl⟩
        clear c
        go_wp2_with fail
        have c := Cmp_any _ h_x_2 h_y_2
        rw [cmp_ok hx96 hy96] at c
        rw [HC.out] at c
        refine c.mono ?_
        rintro e w_ ⟨rfl, nq, rfl⟩
        clear c
        have hb := below_drewN (Below.refl w2.heap.size w2) nq
        have B3 := B2.trans (hb.mono B2.size)
        have h_x_3 := h_x_2.below hb
        have h_y_3 := h_y_2.below hb
        clear B2 h_x_2 h_y_2
        clear hb
        generalize w2.drewN nq = w3 at *
        go_wp2_with fail
        have c := Check_any w3 h_x_3
        rw [chk_limbs hx96] at c
        refine c.mono ?_
        rintro e w_ ⟨rfl, rfl⟩
        clear c
        go_wp2_with fail
        have c := Same_any w3 h_x_3 h_y_3
        rw [same_ok] at c
        rw [HB.out] at c
        refine c.mono ?_
        rintro e w_ ⟨rfl, nq, rfl⟩
        clear c
        have hb := below_drewN (Below.refl w3.heap.size w3) nq
        have B4 := B3.trans (hb.mono B3.size)
        have h_x_4 := h_x_3.below hb
        have h_y_4 := h_y_3.below hb
        clear B3 h_x_3 h_y_3
        clear hb
        generalize w3.drewN nq = w4 at *
        go_wp2_with fail
        have c := Add_any w4 h_x_4 h_y_4
        rw [add_ok (by rw [← HS.out]; exact hs96), ← HS.out] at c
        refine c.mono ?_
        rintro e w5 ⟨a_s, n_s, c_s, rfl, h_s_5, hb⟩
        clear c
        have B5 := B4.trans (hb.mono B4.size)
        have h_x_5 := h_x_4.below hb
        have h_y_5 := h_y_4.below hb
        clear B4 h_x_4 h_y_4
        clear hb
        go_wp2_with fail
        have c := Word_any w5 h_s_5
        rw [word_great hs96 ho] at c
        refine c.mono ?_
        rintro e w_ ⟨rfl, rfl⟩
        clear c
        go_wp2_with fail
        have c := Of_any w5 r (by omega)
        refine c.mono ?_
        rintro e w6 ⟨a_r, n_r, c_r, rfl, h_r_6, hb⟩
        clear c
        have B6 := B5.trans (hb.mono B5.size)
        have h_x_6 := h_x_5.below hb
        have h_y_6 := h_y_5.below hb
        have h_s_6 := h_s_5.below hb
        clear B5 h_x_5 h_y_5 h_s_5
        clear hb
        go_wp2_with fail
        have c := Mul_any w6 h_x_6 h_r_6
        rw [mul_ok hx96 hr96 (by rw [← HPR.out]; exact hp96), ← HPR.out] at c
        refine c.mono ?_
        rintro e w7 ⟨a_p, n_p, c_p, rfl, h_p_7, hb⟩
        clear c
        have B7 := B6.trans (hb.mono B6.size)
        have h_x_7 := h_x_6.below hb
        have h_y_7 := h_y_6.below hb
        have h_s_7 := h_s_6.below hb
        have h_r_7 := h_r_6.below hb
        clear B6 h_x_6 h_y_6 h_s_6 h_r_6
        clear hb
        go_wp2_with fail
        have c := Word_any w7 h_p_7
        rw [HP.out] at c
        refine c.mono ?_
        rintro e w_ ⟨rfl, rfl⟩
        clear c
        have sm : decide ((x : Int) < 4294967296) = false := by simp; omega
        go_wp2_with fail
        have c := Div_any _ h_x_7 h_y_7
        rw [div_ok hx96 hy96 (by omega), ← HQ.out, ← HM.out] at c
        refine c.mono ?_
        rintro e w8 ⟨a_q, n_q, c_q, a_m, n_m, c_m, rfl, h_q_8, h_m_8, hb⟩
        clear c
        have B8 := B7.trans (hb.mono B7.size)
        have h_x_8 := h_x_7.below hb
        have h_y_8 := h_y_7.below hb
        have h_s_8 := h_s_7.below hb
        have h_r_8 := h_r_7.below hb
        have h_p_8 := h_p_7.below hb
        clear B7 h_x_7 h_y_7 h_s_7 h_r_7 h_p_7
        clear hb
        go_wp2_with fail
        have c := Word_any w8 h_q_8
        rw [word_ok lq] at c
        refine c.mono ?_
        rintro e w_ ⟨rfl, rfl⟩
        clear c
        go_wp2_with fail
        have c := Word_any w8 h_m_8
        rw [word_ok lm] at c
        refine c.mono ?_
        rintro e w_ ⟨rfl, rfl⟩
        clear c
        go_wp2_with fail
        have c := wakes_any w8
        refine c.mono ?_
        rintro e w9 ⟨rfl, hb⟩
        clear c
        have B9 := B8.trans (hb.mono B8.size)
        have h_x_9 := h_x_8.below hb
        have h_y_9 := h_y_8.below hb
        have h_s_9 := h_s_8.below hb
        have h_r_9 := h_r_8.below hb
        have h_p_9 := h_p_8.below hb
        have h_q_9 := h_q_8.below hb
        have h_m_9 := h_m_8.below hb
        clear B8 h_x_8 h_y_8 h_s_8 h_r_8 h_p_8 h_q_8 h_m_8
        clear hb
        go_wp2_with fail
        go_ret
        exact ⟨rfl, B9⟩
        all_goals contradiction
set_option maxRecDepth 100000 in
set_option maxHeartbeats 8000000 in
theorem natWords_walk (w : World) (x : Nat) (hx0 : x < lim .u64) (y : Nat) (hy0 : y < lim .u64) :
    Calls Try.prog 10 #[.int .u64 (x : Nat), .int .u64 (y : Nat)] w fun e w' => e = .returned (.bool true) ∧ Below w.heap.size w w' := by
  rcases Nat.lt_trichotomy x y with h | h | h
  · exact natWords_less w x hx0 y hy0 h
  · exact natWords_same w x hx0 y hy0 h
  · exact natWords_more w x hx0 y hy0 h
end Go.Proofs.Ytnjhmaeialnfiaa
