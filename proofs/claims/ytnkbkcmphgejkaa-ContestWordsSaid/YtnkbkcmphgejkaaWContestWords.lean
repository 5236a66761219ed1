/- The walk of the law ContestWords: it returns true and turns nothing that was there. No condition. -/
import Derived.Test.YtnkbkcmphgejkaaConJ
namespace Go.Proofs.Ytnkbkcmphgejkaa
open Go.RowKit Go.Suf

theorem word_ne : ∀ n, isR n = true → (ruleOf n).1 ≠ [] := upto17 (by decide) (fun n h => absurd ((isR_iff _).1 h).2 (by omega))
theorem kind_ge : ∀ n, isR n = true → 1 ≤ kindN n := upto17 (by decide) (fun n h => absurd ((isR_iff _).1 h).2 (by omega))
theorem marks_kind : ∀ n, isR n = true → (n = 1 ∨ listsN n = true) → kindN n = 2 := upto17 (by decide) (fun n h => absurd ((isR_iff _).1 h).2 (by omega))
theorem word_inj : ∀ n, n < 17 → ∀ m, m < 17 → isR n = true → isR m = true → (ruleOf n).1 = (ruleOf m).1 → n = m := by decide

theorem wordN_toList (n : Nat) : (wordN n).toList = (ruleOf n).1 := by
  rw [ByteArray.toList_eq]
  simp [wordN]

theorem word_same {n m : Nat} (hn : isR n = true) (hm : isR m = true) (h : n ≠ m) : ((wordN n).toList == (wordN m).toList) = false := by
  rw [beq_eq_false_iff_ne, wordN_toList, wordN_toList]
  have h1 := ((isR_iff n).1 hn).2
  have h2 := ((isR_iff m).1 hm).2
  exact fun e => h (word_inj n (by omega) m (by omega) hn hm e)

theorem ruleC_word {n : Nat} (hn : isR n = true) : ruleC (wordN n) = (n, 0) := by
  have h1 := (isR_iff n).1 hn
  refine ruleC_at (by omega) (by simp [isWord, h1.1]) fun j hj => ?_
  by_cases h : 1 ≤ j
  · simp [isWord, word_same ((isR_iff j).2 ⟨h, by omega⟩) hn (by omega)]
  · simp [isWord, h]

theorem ruleC_any (s : ByteArray) : ruleC s = (0, 6) ∨ ∃ i, isR i = true ∧ ruleC s = (i, 0) ∧ ((wordN i).toList == s.toList) = true := by
  unfold ruleC
  cases h : (List.range 17).find? (isWord s) with
  | none => exact .inl rfl
  | some i =>
    have h1 := List.mem_range.1 (List.mem_of_find?_eq_some h)
    have h2 := List.find?_some h
    simp only [isWord, Bool.and_eq_true, decide_eq_true_eq] at h2
    exact .inr ⟨i, (isR_iff i).2 ⟨h2.1, by omega⟩, rfl, h2.2⟩

set_option maxRecDepth 100000 in
set_option maxHeartbeats 8000000 in
theorem contestWords_walk (w : World) (rule : Nat) (hr0 : rule < lim .u8) (other : Nat) (ho0 : other < lim .u8) (c : Int) (hc1 : -9223372036854775808 ≤ c) (hc2 : c ≤ 9223372036854775807) (s : ByteArray) (_hs : s.size ≤ maxLen) :
    Calls Try.prog 5 #[.int .u8 (rule : Nat), .int .u8 (other : Nat), .int .i64 c, .string s] w fun e w' => e = .returned (.bool true) ∧ Below w.heap.size w w' := by
  have hr : rule < 256 := hr0
  have ho : other < 256 := ho0
  clear hr0 ho0
  go_enter Try.func5, Try.ntmps5
  go_wp2_with fail
  refine (alive_any _).mono ?_
  rintro e w1 ⟨rfl, hb1⟩
  by_cases hbig : 1000 < s.size
  · go_wp2_with fail
    go_ret
    exact ⟨rfl, hb1⟩
  go_wp2_with fail
  refine (Word_any _ rule hr).mono ?_
  rintro e w2 ⟨rfl, hb2⟩
  have hB2 := hb1.trans (hb2.mono hb1.size)
  go_wp2_with fail
  refine (Word_any _ other ho).mono ?_
  rintro e w3 ⟨rfl, hb3⟩
  have hB3 := hB2.trans (hb3.mono hB2.size)
  go_wp2_with fail
  refine (Kind_any _ rule hr).mono ?_
  rintro e w4 ⟨rfl, hb4⟩
  have hB4 := hB3.trans (hb4.mono hB3.size)
  clear hb1 hb2 hb3 hb4 hB2 hB3
  cases hi : isR rule
  · rw [show wordC rule = (⟨#[]⟩, 2) by simp [wordC, hi], show kindC rule = (0, 2) by simp [kindC, hi]]
    have hn := (isR_not rule).1 hi
    by_cases h1 : 1 ≤ rule
    · have h2 : ¬ rule ≤ 16 := fun h => hn ⟨h1, h⟩
      clear hn
      go_wp2_with fail
      refine (Most_any _ rule hr c hc1 hc2).mono ?_
      rintro e w5 ⟨rfl, hb5⟩
      have hB5 := hB4.trans (hb5.mono hB4.size)
      rw [show mostC rule c = (0, 2) by simp [mostC, hi]]
      go_wp2_with fail
      refine (Rule_any _ _).mono ?_
      rintro e w6 ⟨rfl, hb6⟩
      have hB6 := hB5.trans (hb6.mono hB5.size)
      go_wp2_with fail
      refine (Rule_any _ s).mono ?_
      rintro e w7 ⟨rfl, hb7⟩
      have hB7 := hB6.trans (hb7.mono hB6.size)
      rcases ruleC_any s with hq | ⟨i, hi2, hq, he⟩
      · rw [hq]
        go_wp2_with fail
        refine (Word_any _ 0 (by omega)).mono ?_
        rintro e w8 ⟨rfl, hb8⟩
        have hB8 := hB7.trans (hb8.mono hB7.size)
        clear hq
        go_wp2_with fail
        go_ret
        exact ⟨rfl, hB8⟩
      · rw [hq]
        have hi3 := (isR_iff i).1 hi2
        go_wp2_with fail
        refine (Word_any _ i (by omega)).mono ?_
        rintro e w8 ⟨rfl, hb8⟩
        have hB8 := hB7.trans (hb8.mono hB7.size)
        rw [show wordC i = (wordN i, 0) by simp [wordC, hi2]]
        clear hq hi2
        go_wp2_with fail
        go_ret
        exact ⟨rfl, hB8⟩
    · clear hn
      go_wp2_with fail
      refine (Most_any _ rule hr c hc1 hc2).mono ?_
      rintro e w5 ⟨rfl, hb5⟩
      have hB5 := hB4.trans (hb5.mono hB4.size)
      rw [show mostC rule c = (0, 2) by simp [mostC, hi]]
      go_wp2_with fail
      refine (Rule_any _ _).mono ?_
      rintro e w6 ⟨rfl, hb6⟩
      have hB6 := hB5.trans (hb6.mono hB5.size)
      go_wp2_with fail
      refine (Rule_any _ s).mono ?_
      rintro e w7 ⟨rfl, hb7⟩
      have hB7 := hB6.trans (hb7.mono hB6.size)
      rcases ruleC_any s with hq | ⟨i, hi2, hq, he⟩
      · rw [hq]
        go_wp2_with fail
        refine (Word_any _ 0 (by omega)).mono ?_
        rintro e w8 ⟨rfl, hb8⟩
        have hB8 := hB7.trans (hb8.mono hB7.size)
        clear hq
        go_wp2_with fail
        go_ret
        exact ⟨rfl, hB8⟩
      · rw [hq]
        have hi3 := (isR_iff i).1 hi2
        go_wp2_with fail
        refine (Word_any _ i (by omega)).mono ?_
        rintro e w8 ⟨rfl, hb8⟩
        have hB8 := hB7.trans (hb8.mono hB7.size)
        rw [show wordC i = (wordN i, 0) by simp [wordC, hi2]]
        clear hq hi2
        go_wp2_with fail
        go_ret
        exact ⟨rfl, hB8⟩
  · rw [show wordC rule = (wordN rule, 0) by simp [wordC, hi], show kindC rule = (kindN rule, 0) by simp [kindC, hi]]
    have hn := (isR_iff rule).1 hi
    have h1 := hn.1
    have h2 := hn.2
    have HQ := Lib.hid (ruleC_word hi)
    have HI := Lib.hid hi
    have k1 := kind_ge rule hi
    have k2 := kind_le rule
    have hem : (wordN rule).toList.isEmpty = false := by
      rw [wordN_toList, List.isEmpty_eq_false_iff]
      exact word_ne rule hi
    clear hn
    by_cases hro : rule = other
    · subst hro
      rw [show wordC rule = (wordN rule, 0) by simp [wordC, hi]]
      clear hi
      go_wp2_with fail
      refine (Most_any _ rule hr c hc1 hc2).mono ?_
      rintro e w5 ⟨rfl, hb5⟩
      have hB5 := hB4.trans (hb5.mono hB4.size)
      by_cases g1 : c < 1
      · rw [show mostC rule c = (0, 2) by simp [mostC, show ¬ 1 ≤ c by omega]]
        go_wp2_with fail
        refine (Rule_any _ _).mono ?_
        rintro e w6 ⟨rfl, hb6⟩
        have hB6 := hB5.trans (hb6.mono hB5.size)
        rw [HQ.out]
        go_wp2_with fail
        refine (Rule_any _ s).mono ?_
        rintro e w7 ⟨rfl, hb7⟩
        have hB7 := hB6.trans (hb7.mono hB6.size)
        rcases ruleC_any s with hq | ⟨i, hi2, hq, he⟩
        · rw [hq]
          go_wp2_with fail
          refine (Word_any _ 0 (by omega)).mono ?_
          rintro e w8 ⟨rfl, hb8⟩
          have hB8 := hB7.trans (hb8.mono hB7.size)
          clear hq
          go_wp2_with fail
          go_ret
          exact ⟨rfl, hB8⟩
        · rw [hq]
          have hi3 := (isR_iff i).1 hi2
          go_wp2_with fail
          refine (Word_any _ i (by omega)).mono ?_
          rintro e w8 ⟨rfl, hb8⟩
          have hB8 := hB7.trans (hb8.mono hB7.size)
          rw [show wordC i = (wordN i, 0) by simp [wordC, hi2]]
          clear hq hi2
          go_wp2_with fail
          go_ret
          exact ⟨rfl, hB8⟩
      by_cases g2 : 10 < c
      · rw [show mostC rule c = (0, 2) by simp [mostC, show ¬ c ≤ 10 by omega]]
        go_wp2_with fail
        refine (Rule_any _ _).mono ?_
        rintro e w6 ⟨rfl, hb6⟩
        have hB6 := hB5.trans (hb6.mono hB5.size)
        rw [HQ.out]
        go_wp2_with fail
        refine (Rule_any _ s).mono ?_
        rintro e w7 ⟨rfl, hb7⟩
        have hB7 := hB6.trans (hb7.mono hB6.size)
        rcases ruleC_any s with hq | ⟨i, hi2, hq, he⟩
        · rw [hq]
          go_wp2_with fail
          refine (Word_any _ 0 (by omega)).mono ?_
          rintro e w8 ⟨rfl, hb8⟩
          have hB8 := hB7.trans (hb8.mono hB7.size)
          clear hq
          go_wp2_with fail
          go_ret
          exact ⟨rfl, hB8⟩
        · rw [hq]
          have hi3 := (isR_iff i).1 hi2
          go_wp2_with fail
          refine (Word_any _ i (by omega)).mono ?_
          rintro e w8 ⟨rfl, hb8⟩
          have hB8 := hB7.trans (hb8.mono hB7.size)
          rw [show wordC i = (wordN i, 0) by simp [wordC, hi2]]
          clear hq hi2
          go_wp2_with fail
          go_ret
          exact ⟨rfl, hB8⟩
      rw [show mostC rule c = (marksN rule c, 0) by simp [mostC, HI.out, show 1 ≤ c by omega, show c ≤ 10 by omega]]
      by_cases g3 : rule = 1 ∨ listsN rule = true
      · rw [show marksN rule c = 1 by rw [marksN, if_pos g3]]
        have hk := marks_kind rule HI.out g3
        clear g3
        go_wp2_with fail
        refine (Rule_any _ _).mono ?_
        rintro e w6 ⟨rfl, hb6⟩
        have hB6 := hB5.trans (hb6.mono hB5.size)
        rw [HQ.out]
        go_wp2_with fail
        refine (Rule_any _ s).mono ?_
        rintro e w7 ⟨rfl, hb7⟩
        have hB7 := hB6.trans (hb7.mono hB6.size)
        rcases ruleC_any s with hq | ⟨i, hi2, hq, he⟩
        · rw [hq]
          go_wp2_with fail
          refine (Word_any _ 0 (by omega)).mono ?_
          rintro e w8 ⟨rfl, hb8⟩
          have hB8 := hB7.trans (hb8.mono hB7.size)
          clear hq
          go_wp2_with fail
          go_ret
          exact ⟨rfl, hB8⟩
        · rw [hq]
          have hi3 := (isR_iff i).1 hi2
          go_wp2_with fail
          refine (Word_any _ i (by omega)).mono ?_
          rintro e w8 ⟨rfl, hb8⟩
          have hB8 := hB7.trans (hb8.mono hB7.size)
          rw [show wordC i = (wordN i, 0) by simp [wordC, hi2]]
          clear hq hi2
          go_wp2_with fail
          go_ret
          exact ⟨rfl, hB8⟩
      · rw [show marksN rule c = c by rw [marksN, if_neg g3]]
        clear g3
        by_cases gk : kindN rule = 2
        · skip
          go_wp2_with fail
          refine (Rule_any _ _).mono ?_
          rintro e w6 ⟨rfl, hb6⟩
          have hB6 := hB5.trans (hb6.mono hB5.size)
          rw [HQ.out]
          go_wp2_with fail
          refine (Rule_any _ s).mono ?_
          rintro e w7 ⟨rfl, hb7⟩
          have hB7 := hB6.trans (hb7.mono hB6.size)
          rcases ruleC_any s with hq | ⟨i, hi2, hq, he⟩
          · rw [hq]
            go_wp2_with fail
            refine (Word_any _ 0 (by omega)).mono ?_
            rintro e w8 ⟨rfl, hb8⟩
            have hB8 := hB7.trans (hb8.mono hB7.size)
            clear hq
            go_wp2_with fail
            go_ret
            exact ⟨rfl, hB8⟩
          · rw [hq]
            have hi3 := (isR_iff i).1 hi2
            go_wp2_with fail
            refine (Word_any _ i (by omega)).mono ?_
            rintro e w8 ⟨rfl, hb8⟩
            have hB8 := hB7.trans (hb8.mono hB7.size)
            rw [show wordC i = (wordN i, 0) by simp [wordC, hi2]]
            clear hq hi2
            go_wp2_with fail
            go_ret
            exact ⟨rfl, hB8⟩
        · skip
          go_wp2_with fail
          refine (Rule_any _ _).mono ?_
          rintro e w6 ⟨rfl, hb6⟩
          have hB6 := hB5.trans (hb6.mono hB5.size)
          rw [HQ.out]
          go_wp2_with fail
          refine (Rule_any _ s).mono ?_
          rintro e w7 ⟨rfl, hb7⟩
          have hB7 := hB6.trans (hb7.mono hB6.size)
          rcases ruleC_any s with hq | ⟨i, hi2, hq, he⟩
          · rw [hq]
            go_wp2_with fail
            refine (Word_any _ 0 (by omega)).mono ?_
            rintro e w8 ⟨rfl, hb8⟩
            have hB8 := hB7.trans (hb8.mono hB7.size)
            clear hq
            go_wp2_with fail
            go_ret
            exact ⟨rfl, hB8⟩
          · rw [hq]
            have hi3 := (isR_iff i).1 hi2
            go_wp2_with fail
            refine (Word_any _ i (by omega)).mono ?_
            rintro e w8 ⟨rfl, hb8⟩
            have hB8 := hB7.trans (hb8.mono hB7.size)
            rw [show wordC i = (wordN i, 0) by simp [wordC, hi2]]
            clear hq hi2
            go_wp2_with fail
            go_ret
            exact ⟨rfl, hB8⟩
    cases hio : isR other
    · rw [show wordC other = (⟨#[]⟩, 2) by simp [wordC, hio]]
      clear hi hio
      go_wp2_with fail
      refine (Most_any _ rule hr c hc1 hc2).mono ?_
      rintro e w5 ⟨rfl, hb5⟩
      have hB5 := hB4.trans (hb5.mono hB4.size)
      by_cases g1 : c < 1
      · rw [show mostC rule c = (0, 2) by simp [mostC, show ¬ 1 ≤ c by omega]]
        go_wp2_with fail
        refine (Rule_any _ _).mono ?_
        rintro e w6 ⟨rfl, hb6⟩
        have hB6 := hB5.trans (hb6.mono hB5.size)
        rw [HQ.out]
        go_wp2_with fail
        refine (Rule_any _ s).mono ?_
        rintro e w7 ⟨rfl, hb7⟩
        have hB7 := hB6.trans (hb7.mono hB6.size)
        rcases ruleC_any s with hq | ⟨i, hi2, hq, he⟩
        · rw [hq]
          go_wp2_with fail
          refine (Word_any _ 0 (by omega)).mono ?_
          rintro e w8 ⟨rfl, hb8⟩
          have hB8 := hB7.trans (hb8.mono hB7.size)
          clear hq
          go_wp2_with fail
          go_ret
          exact ⟨rfl, hB8⟩
        · rw [hq]
          have hi3 := (isR_iff i).1 hi2
          go_wp2_with fail
          refine (Word_any _ i (by omega)).mono ?_
          rintro e w8 ⟨rfl, hb8⟩
          have hB8 := hB7.trans (hb8.mono hB7.size)
          rw [show wordC i = (wordN i, 0) by simp [wordC, hi2]]
          clear hq hi2
          go_wp2_with fail
          go_ret
          exact ⟨rfl, hB8⟩
      by_cases g2 : 10 < c
      · rw [show mostC rule c = (0, 2) by simp [mostC, show ¬ c ≤ 10 by omega]]
        go_wp2_with fail
        refine (Rule_any _ _).mono ?_
        rintro e w6 ⟨rfl, hb6⟩
        have hB6 := hB5.trans (hb6.mono hB5.size)
        rw [HQ.out]
        go_wp2_with fail
        refine (Rule_any _ s).mono ?_
        rintro e w7 ⟨rfl, hb7⟩
        have hB7 := hB6.trans (hb7.mono hB6.size)
        rcases ruleC_any s with hq | ⟨i, hi2, hq, he⟩
        · rw [hq]
          go_wp2_with fail
          refine (Word_any _ 0 (by omega)).mono ?_
          rintro e w8 ⟨rfl, hb8⟩
          have hB8 := hB7.trans (hb8.mono hB7.size)
          clear hq
          go_wp2_with fail
          go_ret
          exact ⟨rfl, hB8⟩
        · rw [hq]
          have hi3 := (isR_iff i).1 hi2
          go_wp2_with fail
          refine (Word_any _ i (by omega)).mono ?_
          rintro e w8 ⟨rfl, hb8⟩
          have hB8 := hB7.trans (hb8.mono hB7.size)
          rw [show wordC i = (wordN i, 0) by simp [wordC, hi2]]
          clear hq hi2
          go_wp2_with fail
          go_ret
          exact ⟨rfl, hB8⟩
      rw [show mostC rule c = (marksN rule c, 0) by simp [mostC, HI.out, show 1 ≤ c by omega, show c ≤ 10 by omega]]
      by_cases g3 : rule = 1 ∨ listsN rule = true
      · rw [show marksN rule c = 1 by rw [marksN, if_pos g3]]
        have hk := marks_kind rule HI.out g3
        clear g3
        go_wp2_with fail
        refine (Rule_any _ _).mono ?_
        rintro e w6 ⟨rfl, hb6⟩
        have hB6 := hB5.trans (hb6.mono hB5.size)
        rw [HQ.out]
        go_wp2_with fail
        refine (Rule_any _ s).mono ?_
        rintro e w7 ⟨rfl, hb7⟩
        have hB7 := hB6.trans (hb7.mono hB6.size)
        rcases ruleC_any s with hq | ⟨i, hi2, hq, he⟩
        · rw [hq]
          go_wp2_with fail
          refine (Word_any _ 0 (by omega)).mono ?_
          rintro e w8 ⟨rfl, hb8⟩
          have hB8 := hB7.trans (hb8.mono hB7.size)
          clear hq
          go_wp2_with fail
          go_ret
          exact ⟨rfl, hB8⟩
        · rw [hq]
          have hi3 := (isR_iff i).1 hi2
          go_wp2_with fail
          refine (Word_any _ i (by omega)).mono ?_
          rintro e w8 ⟨rfl, hb8⟩
          have hB8 := hB7.trans (hb8.mono hB7.size)
          rw [show wordC i = (wordN i, 0) by simp [wordC, hi2]]
          clear hq hi2
          go_wp2_with fail
          go_ret
          exact ⟨rfl, hB8⟩
      · rw [show marksN rule c = c by rw [marksN, if_neg g3]]
        clear g3
        by_cases gk : kindN rule = 2
        · skip
          go_wp2_with fail
          refine (Rule_any _ _).mono ?_
          rintro e w6 ⟨rfl, hb6⟩
          have hB6 := hB5.trans (hb6.mono hB5.size)
          rw [HQ.out]
          go_wp2_with fail
          refine (Rule_any _ s).mono ?_
          rintro e w7 ⟨rfl, hb7⟩
          have hB7 := hB6.trans (hb7.mono hB6.size)
          rcases ruleC_any s with hq | ⟨i, hi2, hq, he⟩
          · rw [hq]
            go_wp2_with fail
            refine (Word_any _ 0 (by omega)).mono ?_
            rintro e w8 ⟨rfl, hb8⟩
            have hB8 := hB7.trans (hb8.mono hB7.size)
            clear hq
            go_wp2_with fail
            go_ret
            exact ⟨rfl, hB8⟩
          · rw [hq]
            have hi3 := (isR_iff i).1 hi2
            go_wp2_with fail
            refine (Word_any _ i (by omega)).mono ?_
            rintro e w8 ⟨rfl, hb8⟩
            have hB8 := hB7.trans (hb8.mono hB7.size)
            rw [show wordC i = (wordN i, 0) by simp [wordC, hi2]]
            clear hq hi2
            go_wp2_with fail
            go_ret
            exact ⟨rfl, hB8⟩
        · skip
          go_wp2_with fail
          refine (Rule_any _ _).mono ?_
          rintro e w6 ⟨rfl, hb6⟩
          have hB6 := hB5.trans (hb6.mono hB5.size)
          rw [HQ.out]
          go_wp2_with fail
          refine (Rule_any _ s).mono ?_
          rintro e w7 ⟨rfl, hb7⟩
          have hB7 := hB6.trans (hb7.mono hB6.size)
          rcases ruleC_any s with hq | ⟨i, hi2, hq, he⟩
          · rw [hq]
            go_wp2_with fail
            refine (Word_any _ 0 (by omega)).mono ?_
            rintro e w8 ⟨rfl, hb8⟩
            have hB8 := hB7.trans (hb8.mono hB7.size)
            clear hq
            go_wp2_with fail
            go_ret
            exact ⟨rfl, hB8⟩
          · rw [hq]
            have hi3 := (isR_iff i).1 hi2
            go_wp2_with fail
            refine (Word_any _ i (by omega)).mono ?_
            rintro e w8 ⟨rfl, hb8⟩
            have hB8 := hB7.trans (hb8.mono hB7.size)
            rw [show wordC i = (wordN i, 0) by simp [wordC, hi2]]
            clear hq hi2
            go_wp2_with fail
            go_ret
            exact ⟨rfl, hB8⟩
    · rw [show wordC other = (wordN other, 0) by simp [wordC, hio]]
      have hws := word_same hi hio hro
      have hro2 : ((rule : Int) == (other : Int)) = false := by rw [beq_eq_false_iff_ne]; omega
      clear hi hio
      go_wp2_with fail
      refine (Most_any _ rule hr c hc1 hc2).mono ?_
      rintro e w5 ⟨rfl, hb5⟩
      have hB5 := hB4.trans (hb5.mono hB4.size)
      by_cases g1 : c < 1
      · rw [show mostC rule c = (0, 2) by simp [mostC, show ¬ 1 ≤ c by omega]]
        go_wp2_with fail
        refine (Rule_any _ _).mono ?_
        rintro e w6 ⟨rfl, hb6⟩
        have hB6 := hB5.trans (hb6.mono hB5.size)
        rw [HQ.out]
        go_wp2_with fail
        refine (Rule_any _ s).mono ?_
        rintro e w7 ⟨rfl, hb7⟩
        have hB7 := hB6.trans (hb7.mono hB6.size)
        rcases ruleC_any s with hq | ⟨i, hi2, hq, he⟩
        · rw [hq]
          go_wp2_with fail
          refine (Word_any _ 0 (by omega)).mono ?_
          rintro e w8 ⟨rfl, hb8⟩
          have hB8 := hB7.trans (hb8.mono hB7.size)
          clear hq
          go_wp2_with fail
          go_ret
          exact ⟨rfl, hB8⟩
        · rw [hq]
          have hi3 := (isR_iff i).1 hi2
          go_wp2_with fail
          refine (Word_any _ i (by omega)).mono ?_
          rintro e w8 ⟨rfl, hb8⟩
          have hB8 := hB7.trans (hb8.mono hB7.size)
          rw [show wordC i = (wordN i, 0) by simp [wordC, hi2]]
          clear hq hi2
          go_wp2_with fail
          go_ret
          exact ⟨rfl, hB8⟩
      by_cases g2 : 10 < c
      · rw [show mostC rule c = (0, 2) by simp [mostC, show ¬ c ≤ 10 by omega]]
        go_wp2_with fail
        refine (Rule_any _ _).mono ?_
        rintro e w6 ⟨rfl, hb6⟩
        have hB6 := hB5.trans (hb6.mono hB5.size)
        rw [HQ.out]
        go_wp2_with fail
        refine (Rule_any _ s).mono ?_
        rintro e w7 ⟨rfl, hb7⟩
        have hB7 := hB6.trans (hb7.mono hB6.size)
        rcases ruleC_any s with hq | ⟨i, hi2, hq, he⟩
        · rw [hq]
          go_wp2_with fail
          refine (Word_any _ 0 (by omega)).mono ?_
          rintro e w8 ⟨rfl, hb8⟩
          have hB8 := hB7.trans (hb8.mono hB7.size)
          clear hq
          go_wp2_with fail
          go_ret
          exact ⟨rfl, hB8⟩
        · rw [hq]
          have hi3 := (isR_iff i).1 hi2
          go_wp2_with fail
          refine (Word_any _ i (by omega)).mono ?_
          rintro e w8 ⟨rfl, hb8⟩
          have hB8 := hB7.trans (hb8.mono hB7.size)
          rw [show wordC i = (wordN i, 0) by simp [wordC, hi2]]
          clear hq hi2
          go_wp2_with fail
          go_ret
          exact ⟨rfl, hB8⟩
      rw [show mostC rule c = (marksN rule c, 0) by simp [mostC, HI.out, show 1 ≤ c by omega, show c ≤ 10 by omega]]
      by_cases g3 : rule = 1 ∨ listsN rule = true
      · rw [show marksN rule c = 1 by rw [marksN, if_pos g3]]
        have hk := marks_kind rule HI.out g3
        clear g3
        go_wp2_with fail
        refine (Rule_any _ _).mono ?_
        rintro e w6 ⟨rfl, hb6⟩
        have hB6 := hB5.trans (hb6.mono hB5.size)
        rw [HQ.out]
        go_wp2_with fail
        refine (Rule_any _ s).mono ?_
        rintro e w7 ⟨rfl, hb7⟩
        have hB7 := hB6.trans (hb7.mono hB6.size)
        rcases ruleC_any s with hq | ⟨i, hi2, hq, he⟩
        · rw [hq]
          go_wp2_with fail
          refine (Word_any _ 0 (by omega)).mono ?_
          rintro e w8 ⟨rfl, hb8⟩
          have hB8 := hB7.trans (hb8.mono hB7.size)
          clear hq
          go_wp2_with fail
          go_ret
          exact ⟨rfl, hB8⟩
        · rw [hq]
          have hi3 := (isR_iff i).1 hi2
          go_wp2_with fail
          refine (Word_any _ i (by omega)).mono ?_
          rintro e w8 ⟨rfl, hb8⟩
          have hB8 := hB7.trans (hb8.mono hB7.size)
          rw [show wordC i = (wordN i, 0) by simp [wordC, hi2]]
          clear hq hi2
          go_wp2_with fail
          go_ret
          exact ⟨rfl, hB8⟩
      · rw [show marksN rule c = c by rw [marksN, if_neg g3]]
        clear g3
        by_cases gk : kindN rule = 2
        · skip
          go_wp2_with fail
          refine (Rule_any _ _).mono ?_
          rintro e w6 ⟨rfl, hb6⟩
          have hB6 := hB5.trans (hb6.mono hB5.size)
          rw [HQ.out]
          go_wp2_with fail
          refine (Rule_any _ s).mono ?_
          rintro e w7 ⟨rfl, hb7⟩
          have hB7 := hB6.trans (hb7.mono hB6.size)
          rcases ruleC_any s with hq | ⟨i, hi2, hq, he⟩
          · rw [hq]
            go_wp2_with fail
            refine (Word_any _ 0 (by omega)).mono ?_
            rintro e w8 ⟨rfl, hb8⟩
            have hB8 := hB7.trans (hb8.mono hB7.size)
            clear hq
            go_wp2_with fail
            go_ret
            exact ⟨rfl, hB8⟩
          · rw [hq]
            have hi3 := (isR_iff i).1 hi2
            go_wp2_with fail
            refine (Word_any _ i (by omega)).mono ?_
            rintro e w8 ⟨rfl, hb8⟩
            have hB8 := hB7.trans (hb8.mono hB7.size)
            rw [show wordC i = (wordN i, 0) by simp [wordC, hi2]]
            clear hq hi2
            go_wp2_with fail
            go_ret
            exact ⟨rfl, hB8⟩
        · skip
          go_wp2_with fail
          refine (Rule_any _ _).mono ?_
          rintro e w6 ⟨rfl, hb6⟩
          have hB6 := hB5.trans (hb6.mono hB5.size)
          rw [HQ.out]
          go_wp2_with fail
          refine (Rule_any _ s).mono ?_
          rintro e w7 ⟨rfl, hb7⟩
          have hB7 := hB6.trans (hb7.mono hB6.size)
          rcases ruleC_any s with hq | ⟨i, hi2, hq, he⟩
          · rw [hq]
            go_wp2_with fail
            refine (Word_any _ 0 (by omega)).mono ?_
            rintro e w8 ⟨rfl, hb8⟩
            have hB8 := hB7.trans (hb8.mono hB7.size)
            clear hq
            go_wp2_with fail
            go_ret
            exact ⟨rfl, hB8⟩
          · rw [hq]
            have hi3 := (isR_iff i).1 hi2
            go_wp2_with fail
            refine (Word_any _ i (by omega)).mono ?_
            rintro e w8 ⟨rfl, hb8⟩
            have hB8 := hB7.trans (hb8.mono hB7.size)
            rw [show wordC i = (wordN i, 0) by simp [wordC, hi2]]
            clear hq hi2
            go_wp2_with fail
            go_ret
            exact ⟨rfl, hB8⟩
end Go.Proofs.Ytnkbkcmphgejkaa
