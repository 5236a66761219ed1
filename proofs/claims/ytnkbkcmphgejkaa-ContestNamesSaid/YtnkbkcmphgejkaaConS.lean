/- One more candidate, as plain data: a valid contest stays valid exactly if the name is new, is a name, and there is room. No program in sight. No condition. -/
import Derived.Test.YtnkbkcmphgejkaaConR
import Derived.Test.YtnkbkcmphgejkaaConK
set_option linter.unusedVariables false
set_option linter.unusedSimpArgs false
namespace Go.Proofs.Ytnkbkcmphgejkaa
open Go.RowKit Go.Suf

theorem has_idx (ss : List ByteArray) (s : ByteArray) : hasS ss s = decide (0 ≤ idxI ss s) := by
  unfold idxI
  rw [fstI_ge]
  unfold hasS
  exact (any_sth (eqS s)).symm

theorem twice_snoc (ss : List ByteArray) (s : ByteArray) : twiceL (ss ++ [s]) = (twiceL ss || hasS ss s) := by
  unfold twiceL
  rw [List.length_append, List.length_singleton, List.range_succ, List.any_append]
  have h1 : ((List.range ss.length).any fun i => hasS ((ss ++ [s]).take i) (sth (ss ++ [s]) i)) = ((List.range ss.length).any fun i => hasS (ss.take i) (sth ss i)) := by
    rw [Bool.eq_iff_iff, List.any_eq_true, List.any_eq_true]
    have e : ∀ i, i < ss.length → hasS ((ss ++ [s]).take i) (sth (ss ++ [s]) i) = hasS (ss.take i) (sth ss i) := fun i hi => by
      rw [List.take_append_of_le_length (by omega)]
      simp only [sth, List.getD_eq_getElem?_getD, List.getElem?_append_left hi]
    constructor
    · rintro ⟨i, hi, h⟩
      exact ⟨i, hi, by rw [← e i (List.mem_range.1 hi)]; exact h⟩
    · rintro ⟨i, hi, h⟩
      exact ⟨i, hi, by rw [e i (List.mem_range.1 hi)]; exact h⟩
  rw [h1]
  have h2 : (ss ++ [s]).take ss.length = ss := by simp
  have h3 : sth (ss ++ [s]) ss.length = s := by simp [sth]
  simp [h2, h3]

theorem odd_snoc (ss : List ByteArray) (s : ByteArray) : oddL (ss ++ [s]) = (oddL ss || oddS s) := by simp [oddL]

theorem fits_snoc {n : Nat} {seats : Int} {rule : Nat} (h : fitsC n seats rule = true) : fitsC (n + 1) seats rule = true := by
  unfold fitsC at h ⊢
  split
  · rename_i hs; rw [if_pos hs] at h; exact h
  · rename_i hs
    rw [if_neg hs] at h
    split
    · rename_i h1; rw [if_pos h1] at h; exact h
    · rename_i h1
      rw [if_neg h1] at h
      split
      · rename_i h2
        rw [if_pos h2, decide_eq_true_eq] at h
        exact decide_eq_true (by omega)
      · rename_i h2; rw [if_neg h2] at h; exact h

theorem fits_one {n : Nat} {seats : Int} {rule : Nat} (hn : n ≠ 0) (h : fitsC n seats rule = true) : fitsC n 1 rule = true := by
  unfold fitsC at h ⊢
  rw [if_neg (by omega)]
  split at h
  · simp at h
  · split
    · rfl
    · rename_i h1
      rw [if_neg h1] at h
      split
      · exact decide_eq_true (by omega)
      · rename_i h2; rw [if_neg h2] at h; exact h

/-- With one seat. -/
theorem check_one {nm : ByteArray} {ss : List ByteArray} {seats : Int} {rule : Nat} (h : checkC nm ss seats rule = 0) : checkC nm ss 1 rule = 0 := by
  obtain ⟨k1, k2, _, _, _, _, a2, a3, a4, a5⟩ := check_ok h
  have e0 : oddL [nm] = oddS nm := by simp [oddL]
  unfold checkC
  rw [if_neg (by omega), if_neg]
  rintro (h | h | h | h | h)
  · exact k2 h
  · rw [e0, a2] at h; cases h
  · rw [a3] at h; cases h
  · rw [a4] at h; cases h
  · rw [fits_one k2 a5] at h; cases h

/-- With one candidate more. -/
theorem check_more {nm : ByteArray} {ss : List ByteArray} {seats : Int} {rule : Nat} (h : checkC nm ss seats rule = 0) (s : ByteArray) : checkC nm (ss ++ [s]) seats rule = if 10 ≤ ss.length then 4 else if oddS s = true ∨ hasS ss s = true then 8 else 0 := by
  obtain ⟨k1, k2, _, _, _, _, a2, a3, a4, a5⟩ := check_ok h
  have e0 : oddL [nm] = oddS nm := by simp [oddL]
  unfold checkC
  rw [List.length_append, List.length_singleton, odd_snoc, twice_snoc, fits_snoc a5, e0, a2, a3, a4]
  by_cases hb : 10 ≤ ss.length
  · rw [if_pos (by omega), if_pos hb]
  · rw [if_neg (by omega), if_neg hb]
    simp

theorem idx_snoc {ss : List ByteArray} {s : ByteArray} (h : hasS ss s = false) : idxI (ss ++ [s]) s = ss.length := by
  unfold idxI
  refine fstI_at (by simp) ?_ ?_
  · show eqS s (sth (ss ++ [s]) ss.length) = true
    rw [show sth (ss ++ [s]) ss.length = s by simp [sth]]
    exact eqS_iff.2 rfl
  · intro j hj
    show eqS s (sth (ss ++ [s]) j) = false
    have e : sth (ss ++ [s]) j = sth ss j := by simp only [sth, List.getD_eq_getElem?_getD, List.getElem?_append_left hj]
    rw [e]
    unfold hasS at h
    rw [List.any_eq_false] at h
    have := h (sth ss j) (sth_mem hj)
    simpa using this

/-- What Place says of the name, ahead and behind. -/
theorem place_more {nm : ByteArray} {ss : List ByteArray} {seats : Int} {rule : Nat} (h : checkC nm ss seats rule = 0) (s : ByteArray) :
    (placeC nm ss seats rule s).2 = (if hasS ss s = true then 0 else 6) ∧
    ((ss.length < 10 ∧ oddS s = false ∧ hasS ss s = false ∧ placeC nm (ss ++ [s]) seats rule s = (((ss.length : Nat) : Int), 0)) ∨
     (¬ (ss.length < 10 ∧ oddS s = false ∧ hasS ss s = false) ∧ ¬ (placeC nm (ss ++ [s]) seats rule s).2 = 0)) := by
  constructor
  · unfold placeC
    rw [if_pos h, has_idx]
    by_cases hi : idxI ss s < 0
    · rw [if_pos hi, if_neg (by simp; omega)]
    · rw [if_neg hi, if_pos (by simp; omega)]
  · have hc := check_more h s
    by_cases hk : ss.length < 10 ∧ oddS s = false ∧ hasS ss s = false
    · refine .inl ⟨hk.1, hk.2.1, hk.2.2, ?_⟩
      rw [if_neg (by omega), if_neg (by rw [hk.2.1, hk.2.2]; simp)] at hc
      unfold placeC
      rw [if_pos hc, idx_snoc hk.2.2, if_neg (by omega)]
    · refine .inr ⟨hk, ?_⟩
      have : ¬ checkC nm (ss ++ [s]) seats rule = 0 := by
        rw [hc]
        split
        · decide
        · rename_i h10
          rw [if_pos]
          · decide
          · cases h1 : oddS s
            · cases h2 : hasS ss s
              · exact absurd ⟨by omega, h1, h2⟩ hk
              · exact .inr rfl
            · exact .inl rfl
      unfold placeC
      rw [if_neg this]
      exact this

end Go.Proofs.Ytnkbkcmphgejkaa
