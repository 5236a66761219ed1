/- The walk of the law NatText: it returns true and turns nothing that was there. No condition. Printed by gen_nat.py. -/
import Derived.Test.YtnjhmaeialnfiaaNatY
import Derived.Test.YtnjhmaeialnfiaaNatApi
namespace Go.Proofs.Ytnjhmaeialnfiaa
open Go.RowKit Go.Suf
set_option linter.unusedVariables false
set_option linter.unusedSimpArgs false

theorem limbs_ten : limbs 10 = [10] := limbs_of (xs := [10]) (by decide) (by unfold small32; decide) (by unfold canon; decide)

set_option maxRecDepth 100000 in
set_option maxHeartbeats 8000000 in
theorem natText_walk (w : World) {a0 : Option Addr} {n0 cap0 : Nat} {xs : List Nat} (h0 : Rd .u32 w a0 n0 cap0 xs) (s : ByteArray) (_hs : s.size ≤ maxLen) :
    Calls Try.prog 5 #[.slice a0 n0 cap0, .string s] w fun e w' => e = .returned (.bool true) ∧ Below w.heap.size w w' := by
  obtain ⟨ss, rfl, hss⟩ : ∃ ss, s = strB ss ∧ ∀ x ∈ ss, x < 256 := ⟨bytesOf s, (strB_bytesOf s).symm, bytesOf_bd s⟩
  have hsz := strB_size ss
  have hlit := rdNL_lit1 w h0
  have hv0 := right_any _ hlit 96 (by decide)
  by_cases hv : rightB 96 [xs] = true
  case neg =>
    have hf : rightB 96 [xs] = false := by simpa using hv
    rw [hf] at hv0
    clear hv hf hlit
    go_enter Try.func5, Try.ntmps5
    go_wp2_with fail
    refine hv0.mono ?_
    rintro e w1 ⟨rfl, rfl⟩
    clear hv0
    go_wp2_with fail
    refine (wakes_any _).mono ?_
    rintro e w2 ⟨rfl, hb⟩
    go_wp2_with fail
    go_ret
    exact ⟨rfl, ((Below.refl _ _).alloc (Nat.le_refl _) _).trans (hb.mono (by simp))⟩
  rw [hv] at hv0
  have hall : ∀ x ∈ [xs], vldN 96 x = true := by
    unfold rightB at hv
    rwa [decide_eq_true_eq] at hv
  obtain ⟨A, rfl, hA⟩ := vldN_limbs h0 (hall _ (by simp)) (by decide)
  clear hall hv hlit
  by_cases hC : 2000 < ss.length
  · go_enter Try.func5, Try.ntmps5
    go_wp2_with fail
    refine hv0.mono ?_
    rintro e w_ ⟨rfl, rfl⟩
    clear hv0
    have B0 : Below w.heap.size w w := Below.refl _ _
    have h_a_0 := h0
    have hb := (Below.refl w.heap.size w).alloc (Nat.le_refl _) (.cells #[.slice a0 n0 cap0] 22)
    have B1 := B0.trans (hb.mono B0.size)
    have h_a_1 := h_a_0.below hb
    clear B0 h_a_0
    clear hb
    generalize w.alloc (.cells #[.slice a0 n0 cap0] 22) = w1 at *
    go_wp2_with fail
    have c := wakes_any w1
    refine c.mono ?_
    rintro e w2 ⟨rfl, hb⟩
    clear c
    have B2 := B1.trans (hb.mono B1.size)
    have h_a_2 := h_a_1.below hb
    clear B1 h_a_1
    clear hb
    go_wp2_with fail
    go_ret
    exact ⟨rfl, B2⟩
  have hd2 : decide ((2000 : Int) < (ss.length : Int)) = false := by simp; omega
  have hl : ss.length ≤ 1099511627776 := by omega
  have HS := Lib.hid hss
  have hA10 : A / 10 < pw 96 := Nat.lt_of_le_of_lt (Nat.div_le_self _ _) hA
  have hA1 : A % 10 < pw 96 := Nat.lt_of_le_of_lt (Nat.mod_le _ _) hA
  have hten : 10 < pw 96 := Nat.lt_of_lt_of_le (by decide : 10 < pw 1) (pw_le (by decide))
  have ht1 := textN_len hA
  have ht2 := textN_ne A
  have htz := strB_size (textN A)
  have htb := Lib.hid (textN_bd A)
  have hne : (((textN A).length : Int) == 0) = false := by rw [beq_eq_false_iff_ne]; omega
  clear hss hC _hs
  have hcase : (∃ N, readC ss = (limbs N, 0) ∧ N < pw 96 ∧ textN N = ss) ∨ readC ss = ([], 11) ∨ readC ss = ([], 30) := by
    by_cases hf : formB ss = true
    · by_cases hN : dread ss 0 < pw 96
      · exact .inl ⟨_, by rw [readC, if_pos hf, fit_limbs hN], hN, textN_dread hf⟩
      · exact .inr (.inr (by rw [readC, if_pos hf, fit_great hN]))
    · exact .inr (.inl (by rw [readC, if_neg hf]))
  rcases hcase with ⟨N, hr, hN, hT⟩ | hr | hr
  · have HR := Lib.hid hr
    have HT := Lib.hid hT
    clear hr hT
    go_enter Try.func5, Try.ntmps5
    go_wp2_with fail
    refine hv0.mono ?_
    rintro e w_ ⟨rfl, rfl⟩
    clear hv0
    have B0 : Below w.heap.size w w := Below.refl _ _
    have h_a_0 := h0
    have hb := (Below.refl w.heap.size w).alloc (Nat.le_refl _) (.cells #[.slice a0 n0 cap0] 22)
    have B1 := B0.trans (hb.mono B0.size)
    have h_a_1 := h_a_0.below hb
    clear B0 h_a_0
    clear hb
    generalize w.alloc (.cells #[.slice a0 n0 cap0] 22) = w1 at *
    go_wp2_with fail
    have c := Text_any _ h_a_1
    rw [text_ok hA] at c
    refine c.mono ?_
    rintro e w2 ⟨rfl, hb⟩
    clear c
    have B2 := B1.trans (hb.mono B1.size)
    have h_a_2 := h_a_1.below hb
    clear B1 h_a_1
    clear hb
    go_wp2_with fail
    have c := Read_any w2 (textN A) htb.out (by omega)
    rw [read_ok hA] at c
    refine c.mono ?_
    rintro e w3 ⟨a_b, n_b, c_b, rfl, h_b_3, hb⟩
    clear c
    have B3 := B2.trans (hb.mono B2.size)
    have h_a_3 := h_a_2.below hb
    clear B2 h_a_2
    clear hb
    go_wp2_with fail
    have c := refSame_any _ h_a_3 h_b_3
    rw [same_self] at c
    refine c.mono ?_
    rintro e w_ ⟨rfl, nq, rfl⟩
    clear c
    have hb := below_drewN (Below.refl w3.heap.size w3) nq
    have B4 := B3.trans (hb.mono B3.size)
    have h_a_4 := h_a_3.below hb
    have h_b_4 := h_b_3.below hb
    clear B3 h_a_3 h_b_3
    clear hb
    generalize w3.drewN nq = w4 at *
    clear h_b_4
    go_wp2_with fail
    have c := Read_any w4 ss HS.out hl
    rw [HR.out] at c
    refine c.mono ?_
    rintro e w5 ⟨a_n, n_n, c_n, rfl, h_n_5, hb⟩
    clear c
    have B5 := B4.trans (hb.mono B4.size)
    have h_a_5 := h_a_4.below hb
    clear B4 h_a_4
    clear hb
    go_wp2_with fail
    have c := Text_any _ h_n_5
    rw [text_ok hN] at c
    rw [HT.out] at c
    refine c.mono ?_
    rintro e w6 ⟨rfl, hb⟩
    clear c
    have B6 := B5.trans (hb.mono B5.size)
    have h_a_6 := h_a_5.below hb
    have h_n_6 := h_n_5.below hb
    clear B5 h_a_5 h_n_5
    clear hb
    go_wp2_with fail
    have c := Check_any _ h_n_6
    rw [chk_limbs hN] at c
    refine c.mono ?_
    rintro e w_ ⟨rfl, rfl⟩
    clear c
    go_wp2_with fail
    have c := wakes_any w6
    refine c.mono ?_
    rintro e w7 ⟨rfl, hb⟩
    clear c
    have B7 := B6.trans (hb.mono B6.size)
    have h_a_7 := h_a_6.below hb
    have h_n_7 := h_n_6.below hb
    clear B6 h_a_6 h_n_6
    clear hb
    go_wp2_with fail
    go_ret
    exact ⟨rfl, B7⟩
  · have HR := Lib.hid hr
    clear hr
    by_cases h10 : A < 10
    · have hone := textN_digit h10
      go_enter Try.func5, Try.ntmps5
      go_wp2_with fail
      refine hv0.mono ?_
      rintro e w_ ⟨rfl, rfl⟩
      clear hv0
      have B0 : Below w.heap.size w w := Below.refl _ _
      have h_a_0 := h0
      have hb := (Below.refl w.heap.size w).alloc (Nat.le_refl _) (.cells #[.slice a0 n0 cap0] 22)
      have B1 := B0.trans (hb.mono B0.size)
      have h_a_1 := h_a_0.below hb
      clear B0 h_a_0
      clear hb
      generalize w.alloc (.cells #[.slice a0 n0 cap0] 22) = w1 at *
      go_wp2_with fail
      have c := Text_any _ h_a_1
      rw [text_ok hA] at c
      refine c.mono ?_
      rintro e w2 ⟨rfl, hb⟩
      clear c
      have B2 := B1.trans (hb.mono B1.size)
      have h_a_2 := h_a_1.below hb
      clear B1 h_a_1
      clear hb
      go_wp2_with fail
      have c := Read_any w2 (textN A) htb.out (by omega)
      rw [read_ok hA] at c
      refine c.mono ?_
      rintro e w3 ⟨a_b, n_b, c_b, rfl, h_b_3, hb⟩
      clear c
      have B3 := B2.trans (hb.mono B2.size)
      have h_a_3 := h_a_2.below hb
      clear B2 h_a_2
      clear hb
      go_wp2_with fail
      have c := refSame_any _ h_a_3 h_b_3
      rw [same_self] at c
      refine c.mono ?_
      rintro e w_ ⟨rfl, nq, rfl⟩
      clear c
      have hb := below_drewN (Below.refl w3.heap.size w3) nq
      have B4 := B3.trans (hb.mono B3.size)
      have h_a_4 := h_a_3.below hb
      have h_b_4 := h_b_3.below hb
      clear B3 h_a_3 h_b_3
      clear hb
      generalize w3.drewN nq = w4 at *
      clear h_b_4
      go_wp2_with fail
      have c := Read_any w4 ss HS.out hl
      rw [HR.out] at c
      refine c.mono ?_
      rintro e w5 ⟨a_x5, n_x5, c_x5, rfl, hd, hb⟩
      clear c
      have B5 := B4.trans (hb.mono B4.size)
      have h_a_5 := h_a_4.below hb
      clear B4 h_a_4
      clear hb
      obtain rfl := hd.len
      clear hd
      go_wp2_with fail
      have c := wakes_any w5
      refine c.mono ?_
      rintro e w6 ⟨rfl, hb⟩
      clear c
      have B6 := B5.trans (hb.mono B5.size)
      have h_a_6 := h_a_5.below hb
      clear B5 h_a_5
      clear hb
      go_wp2_with fail
      go_ret
      exact ⟨rfl, B6⟩
    · have htwo := textN_long (A := A) (by omega)
      have hq1 := textN_len hA10
      have hr1 := textN_len hA1
      have hqz := strB_size (textN (A / 10))
      have hrz := strB_size (textN (A % 10))
      have hcc : strB (textN (A / 10)) ++ strB (textN (A % 10)) = strB (textN A) := by rw [strB_append, ← textN_tenth (by omega)]
      have HCC := Lib.hid hcc
      clear hcc
      go_enter Try.func5, Try.ntmps5
      go_wp2_with fail
      refine hv0.mono ?_
      rintro e w_ ⟨rfl, rfl⟩
      clear hv0
      have B0 : Below w.heap.size w w := Below.refl _ _
      have h_a_0 := h0
      have hb := (Below.refl w.heap.size w).alloc (Nat.le_refl _) (.cells #[.slice a0 n0 cap0] 22)
      have B1 := B0.trans (hb.mono B0.size)
      have h_a_1 := h_a_0.below hb
      clear B0 h_a_0
      clear hb
      generalize w.alloc (.cells #[.slice a0 n0 cap0] 22) = w1 at *
      go_wp2_with fail
      have c := Text_any _ h_a_1
      rw [text_ok hA] at c
      refine c.mono ?_
      rintro e w2 ⟨rfl, hb⟩
      clear c
      have B2 := B1.trans (hb.mono B1.size)
      have h_a_2 := h_a_1.below hb
      clear B1 h_a_1
      clear hb
      go_wp2_with fail
      have c := Read_any w2 (textN A) htb.out (by omega)
      rw [read_ok hA] at c
      refine c.mono ?_
      rintro e w3 ⟨a_b, n_b, c_b, rfl, h_b_3, hb⟩
      clear c
      have B3 := B2.trans (hb.mono B2.size)
      have h_a_3 := h_a_2.below hb
      clear B2 h_a_2
      clear hb
      go_wp2_with fail
      have c := refSame_any _ h_a_3 h_b_3
      rw [same_self] at c
      refine c.mono ?_
      rintro e w_ ⟨rfl, nq, rfl⟩
      clear c
      have hb := below_drewN (Below.refl w3.heap.size w3) nq
      have B4 := B3.trans (hb.mono B3.size)
      have h_a_4 := h_a_3.below hb
      have h_b_4 := h_b_3.below hb
      clear B3 h_a_3 h_b_3
      clear hb
      generalize w3.drewN nq = w4 at *
      clear h_b_4
      go_wp2_with fail
      have c := Read_any w4 ss HS.out hl
      rw [HR.out] at c
      refine c.mono ?_
      rintro e w5 ⟨a_x5, n_x5, c_x5, rfl, hd, hb⟩
      clear c
      have B5 := B4.trans (hb.mono B4.size)
      have h_a_5 := h_a_4.below hb
      clear B4 h_a_4
      clear hb
      obtain rfl := hd.len
      clear hd
      go_wp2_with fail
      have hb := al w5 (.cells #[.int .u32 (10 : Nat)] 36)
      have B6 := B5.trans (hb.mono B5.size)
      have h_l_6 := lit1 w5 10 (by decide)
      have h_a_6 := h_a_5.below hb
      clear B5 h_a_5
      clear hb
      generalize w5.alloc (.cells #[.int .u32 (10 : Nat)] 36) = w6 at *
      rw [← limbs_ten] at h_l_6
      have c := Div_any _ h_a_6 h_l_6
      rw [div_ok hA hten (by decide)] at c
      refine c.mono ?_
      rintro e w7 ⟨a_q, n_q, c_q, a_r, n_r, c_r, rfl, h_q_7, h_r_7, hb⟩
      clear c
      have B7 := B6.trans (hb.mono B6.size)
      have h_a_7 := h_a_6.below hb
      have h_l_7 := h_l_6.below hb
      clear B6 h_a_6 h_l_6
      clear hb
      go_wp2_with fail
      have c := Text_any _ h_q_7
      rw [text_ok hA10] at c
      refine c.mono ?_
      rintro e w8 ⟨rfl, hb⟩
      clear c
      have B8 := B7.trans (hb.mono B7.size)
      have h_a_8 := h_a_7.below hb
      have h_l_8 := h_l_7.below hb
      have h_q_8 := h_q_7.below hb
      have h_r_8 := h_r_7.below hb
      clear B7 h_a_7 h_l_7 h_q_7 h_r_7
      clear hb
      go_wp2_with fail
      have c := Text_any _ h_r_8
      rw [text_ok hA1] at c
      refine c.mono ?_
      rintro e w9 ⟨rfl, hb⟩
      clear c
      have B9 := B8.trans (hb.mono B8.size)
      have h_a_9 := h_a_8.below hb
      have h_l_9 := h_l_8.below hb
      have h_q_9 := h_q_8.below hb
      have h_r_9 := h_r_8.below hb
      clear B8 h_a_8 h_l_8 h_q_8 h_r_8
      clear hb
      have hcc := HCC.out
      go_wp2_with fail
      have c := wakes_any w9
      refine c.mono ?_
      rintro e w10 ⟨rfl, hb⟩
      clear c
      have B10 := B9.trans (hb.mono B9.size)
      have h_a_10 := h_a_9.below hb
      have h_l_10 := h_l_9.below hb
      have h_q_10 := h_q_9.below hb
      have h_r_10 := h_r_9.below hb
      clear B9 h_a_9 h_l_9 h_q_9 h_r_9
      clear hb
      go_wp2_with fail
      go_ret
      exact ⟨rfl, B10⟩
  · have HR := Lib.hid hr
    clear hr
    by_cases h10 : A < 10
    · have hone := textN_digit h10
      go_enter Try.func5, Try.ntmps5
      go_wp2_with fail
      refine hv0.mono ?_
      rintro e w_ ⟨rfl, rfl⟩
      clear hv0
      have B0 : Below w.heap.size w w := Below.refl _ _
      have h_a_0 := h0
      have hb := (Below.refl w.heap.size w).alloc (Nat.le_refl _) (.cells #[.slice a0 n0 cap0] 22)
      have B1 := B0.trans (hb.mono B0.size)
      have h_a_1 := h_a_0.below hb
      clear B0 h_a_0
      clear hb
      generalize w.alloc (.cells #[.slice a0 n0 cap0] 22) = w1 at *
      go_wp2_with fail
      have c := Text_any _ h_a_1
      rw [text_ok hA] at c
      refine c.mono ?_
      rintro e w2 ⟨rfl, hb⟩
      clear c
      have B2 := B1.trans (hb.mono B1.size)
      have h_a_2 := h_a_1.below hb
      clear B1 h_a_1
      clear hb
      go_wp2_with fail
      have c := Read_any w2 (textN A) htb.out (by omega)
      rw [read_ok hA] at c
      refine c.mono ?_
      rintro e w3 ⟨a_b, n_b, c_b, rfl, h_b_3, hb⟩
      clear c
      have B3 := B2.trans (hb.mono B2.size)
      have h_a_3 := h_a_2.below hb
      clear B2 h_a_2
      clear hb
      go_wp2_with fail
      have c := refSame_any _ h_a_3 h_b_3
      rw [same_self] at c
      refine c.mono ?_
      rintro e w_ ⟨rfl, nq, rfl⟩
      clear c
      have hb := below_drewN (Below.refl w3.heap.size w3) nq
      have B4 := B3.trans (hb.mono B3.size)
      have h_a_4 := h_a_3.below hb
      have h_b_4 := h_b_3.below hb
      clear B3 h_a_3 h_b_3
      clear hb
      generalize w3.drewN nq = w4 at *
      clear h_b_4
      go_wp2_with fail
      have c := Read_any w4 ss HS.out hl
      rw [HR.out] at c
      refine c.mono ?_
      rintro e w5 ⟨a_x5, n_x5, c_x5, rfl, hd, hb⟩
      clear c
      have B5 := B4.trans (hb.mono B4.size)
      have h_a_5 := h_a_4.below hb
      clear B4 h_a_4
      clear hb
      obtain rfl := hd.len
      clear hd
      go_wp2_with fail
      have c := wakes_any w5
      refine c.mono ?_
      rintro e w6 ⟨rfl, hb⟩
      clear c
      have B6 := B5.trans (hb.mono B5.size)
      have h_a_6 := h_a_5.below hb
      clear B5 h_a_5
      clear hb
      go_wp2_with fail
      go_ret
      exact ⟨rfl, B6⟩
    · have htwo := textN_long (A := A) (by omega)
      have hq1 := textN_len hA10
      have hr1 := textN_len hA1
      have hqz := strB_size (textN (A / 10))
      have hrz := strB_size (textN (A % 10))
      have hcc : strB (textN (A / 10)) ++ strB (textN (A % 10)) = strB (textN A) := by rw [strB_append, ← textN_tenth (by omega)]
      have HCC := Lib.hid hcc
      clear hcc
      go_enter Try.func5, Try.ntmps5
      go_wp2_with fail
      refine hv0.mono ?_
      rintro e w_ ⟨rfl, rfl⟩
      clear hv0
      have B0 : Below w.heap.size w w := Below.refl _ _
      have h_a_0 := h0
      have hb := (Below.refl w.heap.size w).alloc (Nat.le_refl _) (.cells #[.slice a0 n0 cap0] 22)
      have B1 := B0.trans (hb.mono B0.size)
      have h_a_1 := h_a_0.below hb
      clear B0 h_a_0
      clear hb
      generalize w.alloc (.cells #[.slice a0 n0 cap0] 22) = w1 at *
      go_wp2_with fail
      have c := Text_any _ h_a_1
      rw [text_ok hA] at c
      refine c.mono ?_
      rintro e w2 ⟨rfl, hb⟩
      clear c
      have B2 := B1.trans (hb.mono B1.size)
      have h_a_2 := h_a_1.below hb
      clear B1 h_a_1
      clear hb
      go_wp2_with fail
      have c := Read_any w2 (textN A) htb.out (by omega)
      rw [read_ok hA] at c
      refine c.mono ?_
      rintro e w3 ⟨a_b, n_b, c_b, rfl, h_b_3, hb⟩
      clear c
      have B3 := B2.trans (hb.mono B2.size)
      have h_a_3 := h_a_2.below hb
      clear B2 h_a_2
      clear hb
      go_wp2_with fail
      have c := refSame_any _ h_a_3 h_b_3
      rw [same_self] at c
      refine c.mono ?_
      rintro e w_ ⟨rfl, nq, rfl⟩
      clear c
      have hb := below_drewN (Below.refl w3.heap.size w3) nq
      have B4 := B3.trans (hb.mono B3.size)
      have h_a_4 := h_a_3.below hb
      have h_b_4 := h_b_3.below hb
      clear B3 h_a_3 h_b_3
      clear hb
      generalize w3.drewN nq = w4 at *
      clear h_b_4
      go_wp2_with fail
      have c := Read_any w4 ss HS.out hl
      rw [HR.out] at c
      refine c.mono ?_
      rintro e w5 ⟨a_x5, n_x5, c_x5, rfl, hd, hb⟩
      clear c
      have B5 := B4.trans (hb.mono B4.size)
      have h_a_5 := h_a_4.below hb
      clear B4 h_a_4
      clear hb
      obtain rfl := hd.len
      clear hd
      go_wp2_with fail
      have hb := al w5 (.cells #[.int .u32 (10 : Nat)] 36)
      have B6 := B5.trans (hb.mono B5.size)
      have h_l_6 := lit1 w5 10 (by decide)
      have h_a_6 := h_a_5.below hb
      clear B5 h_a_5
      clear hb
      generalize w5.alloc (.cells #[.int .u32 (10 : Nat)] 36) = w6 at *
      rw [← limbs_ten] at h_l_6
      have c := Div_any _ h_a_6 h_l_6
      rw [div_ok hA hten (by decide)] at c
      refine c.mono ?_
      rintro e w7 ⟨a_q, n_q, c_q, a_r, n_r, c_r, rfl, h_q_7, h_r_7, hb⟩
      clear c
      have B7 := B6.trans (hb.mono B6.size)
      have h_a_7 := h_a_6.below hb
      have h_l_7 := h_l_6.below hb
      clear B6 h_a_6 h_l_6
      clear hb
      go_wp2_with fail
      have c := Text_any _ h_q_7
      rw [text_ok hA10] at c
      refine c.mono ?_
      rintro e w8 ⟨rfl, hb⟩
      clear c
      have B8 := B7.trans (hb.mono B7.size)
      have h_a_8 := h_a_7.below hb
      have h_l_8 := h_l_7.below hb
      have h_q_8 := h_q_7.below hb
      have h_r_8 := h_r_7.below hb
      clear B7 h_a_7 h_l_7 h_q_7 h_r_7
      clear hb
      go_wp2_with fail
      have c := Text_any _ h_r_8
      rw [text_ok hA1] at c
      refine c.mono ?_
      rintro e w9 ⟨rfl, hb⟩
      clear c
      have B9 := B8.trans (hb.mono B8.size)
      have h_a_9 := h_a_8.below hb
      have h_l_9 := h_l_8.below hb
      have h_q_9 := h_q_8.below hb
      have h_r_9 := h_r_8.below hb
      clear B8 h_a_8 h_l_8 h_q_8 h_r_8
      clear hb
      have hcc := HCC.out
      go_wp2_with fail
      have c := wakes_any w9
      refine c.mono ?_
      rintro e w10 ⟨rfl, hb⟩
      clear c
      have B10 := B9.trans (hb.mono B9.size)
      have h_a_10 := h_a_9.below hb
      have h_l_10 := h_l_9.below hb
      have h_q_10 := h_q_9.below hb
      have h_r_10 := h_r_9.below hb
      clear B9 h_a_9 h_l_9 h_q_9 h_r_9
      clear hb
      go_wp2_with fail
      go_ret
      exact ⟨rfl, B10⟩
end Go.Proofs.Ytnjhmaeialnfiaa
