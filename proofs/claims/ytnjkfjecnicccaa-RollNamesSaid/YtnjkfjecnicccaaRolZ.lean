/- What the operations and Add turn: plain laws. No condition. -/
import Derived.Test.YtnjkfjecnicccaaRolW
namespace Go.Proofs.Ytnjkfjecnicccaa
open Go.RowKit Go.Suf
set_option linter.unusedVariables false
set_option linter.unusedSimpArgs false

theorem opV_spec (vs : List VQ) (s : ByteArray) (x y : Nat) : ((opV vs s x y).2 ≠ 0 ∧ (opV vs s x y).1 = []) ∨ ((opV vs s x y).2 = 0 ∧ chkV vs = 0 ∧ ∃ k, k < vs.length ∧ (vth vs k).nm = s ∧ (vth vs k).st = x ∧ (opV vs s x y).1 = vs.set k ⟨(vth vs k).nm, (vth vs k).pc, y⟩) := by
  unfold opV
  by_cases hc : chkV vs = 0
  · rw [if_pos hc]
    cases hf : findV vs s with
    | none => exact .inl ⟨by show (6 : Int) ≠ 0; decide, rfl⟩
    | some k =>
      dsimp only
      by_cases hx : (vth vs k).st = x
      · rw [if_pos hx]
        unfold findV at hf
        refine .inr ⟨rfl, hc, k, List.mem_range.1 (List.mem_of_find?_eq_some hf), ?_, hx, rfl⟩
        have := List.find?_some hf
        exact eqS_iff.1 this
      · rw [if_neg hx]
        exact .inl ⟨by show (241 : Int) ≠ 0; decide, rfl⟩
  · rw [if_neg hc]
    exact .inl ⟨hc, rfl⟩

theorem vth_set {vs : List VQ} {k : Nat} (v : VQ) (hk : k < vs.length) (i : Nat) : vth (vs.set k v) i = if i = k then v else vth vs i := by
  unfold vth
  by_cases h : i = k
  · subst h; rw [if_pos rfl]; simp [hk]
  · rw [if_neg h]
    simp [List.getD_eq_getElem?_getD, List.getElem?_set, Ne.symm h]

theorem rise_ne {vs : List VQ} (h : Rise vs) {j k : Nat} (hj : j < vs.length) (hk : k < vs.length) (hne : j ≠ k) : (vth vs j).nm ≠ (vth vs k).nm := by
  intro e
  rcases Nat.lt_or_ge j k with h1 | h1
  · have := h j k h1 hk
    rw [e, ltS_irrefl] at this
    cases this
  · have := h k j (by omega) hj
    rw [e, ltS_irrefl] at this
    cases this

theorem chk_of {vs : List VQ} (hl : vs.length ≤ 64) (hm : ∀ i, i < vs.length → mayV (vth vs i) = true) (hr : Rise vs) : chkV vs = 0 := by
  refine chk_all (by omega) fun i hi => ?_
  unfold okAt
  rw [hm i hi, Bool.true_and]
  by_cases h0 : i = 0
  · rw [decide_eq_true h0]; rfl
  · rw [hr (i - 1) i (by omega) hi, Bool.or_true]

theorem may_st {v : VQ} {y : Nat} (h : mayV v = true) (h1 : 1 ≤ y) (h2 : y ≤ 4) : mayV ⟨v.nm, v.pc, y⟩ = true := by
  unfold mayV at *
  simp only [Bool.and_eq_true, decide_eq_true_eq] at *
  exact ⟨⟨h.1.1, h1⟩, h2⟩

theorem chk_set {vs : List VQ} {k y : Nat} (h : chkV vs = 0) (hk : k < vs.length) (h1 : 1 ≤ y) (h2 : y ≤ 4) : chkV (vs.set k ⟨(vth vs k).nm, (vth vs k).pc, y⟩) = 0 := by
  obtain ⟨hR, hl, hm⟩ := rise_of h
  have hn : ∀ i, (vth (vs.set k ⟨(vth vs k).nm, (vth vs k).pc, y⟩) i).nm = (vth vs i).nm := fun i => by
    rw [vth_set _ hk]
    by_cases e : i = k
    · rw [if_pos e, e]
    · rw [if_neg e]
  refine chk_of (by simpa using hl) (fun i hi => ?_) (fun j i hj hi => ?_)
  · rw [List.length_set] at hi
    rw [vth_set _ hk]
    by_cases e : i = k
    · rw [if_pos e]; exact may_st (hm k hk) h1 h2
    · rw [if_neg e]; exact hm i hi
  · rw [List.length_set] at hi
    rw [hn, hn]
    exact hR j i hj hi

theorem addV_spec (vs : List VQ) (s : ByteArray) (p : Int) : ((addV vs s p).2 ≠ 0 ∧ (addV vs s p).1 = []) ∨ ((addV vs s p).2 = 0 ∧ chkV vs = 0 ∧ mayV ⟨s, p, 1⟩ = true ∧ isV vs s = false ∧ vs.length < 64 ∧ (addV vs s p).1 = vs.take (posV vs s) ++ [⟨s, p, 1⟩] ++ vs.drop (posV vs s)) := by
  unfold addV
  by_cases hc : chkV vs = 0
  · rw [if_pos hc]
    by_cases hm : mayV ⟨s, p, 1⟩ = true
    · rw [if_pos hm]
      by_cases hi : isV vs s = true
      · rw [if_pos hi]
        exact .inl ⟨by show (240 : Int) ≠ 0; decide, rfl⟩
      · rw [if_neg hi]
        by_cases hl : 64 ≤ vs.length
        · rw [if_pos hl]
          exact .inl ⟨by show (9 : Int) ≠ 0; decide, rfl⟩
        · rw [if_neg hl]
          exact .inr ⟨rfl, hc, hm, by simpa using hi, by omega, rfl⟩
    · rw [if_neg hm]
      exact .inl ⟨by show (2 : Int) ≠ 0; decide, rfl⟩
  · rw [if_neg hc]
    exact .inl ⟨hc, rfl⟩

theorem vth_insert {vs : List VQ} {P : Nat} (v : VQ) (hP : P ≤ vs.length) (i : Nat) : vth (vs.take P ++ [v] ++ vs.drop P) i = if i < P then vth vs i else if i = P then v else vth vs (i - 1) := by
  unfold vth
  simp only [List.getD_eq_getElem?_getD, List.append_assoc]
  by_cases h : i < P
  · rw [if_pos h, List.getElem?_append_left (by simp; omega), List.getElem?_take_of_lt h]
  · rw [if_neg h, List.getElem?_append_right (by simp; omega)]
    have hl : (vs.take P).length = P := by simp; omega
    rw [hl]
    by_cases e : i = P
    · rw [if_pos e, e, Nat.sub_self]; rfl
    · rw [if_neg e]
      obtain ⟨d, rfl⟩ : ∃ d, i = P + (d + 1) := ⟨i - P - 1, by omega⟩
      rw [Nat.add_sub_cancel_left]
      show (vs.drop P)[d]?.getD _ = _
      rw [List.getElem?_drop, show P + (d + 1) - 1 = P + d by omega]

theorem isV_no {vs : List VQ} {s : ByteArray} (hR : Rise vs) (h : isV vs s = false) : ∀ i, i < vs.length → (vth vs i).nm ≠ s := by
  have hf := find_pos hR s
  rw [if_neg (by rw [h]; simp)] at hf
  intro i hi e
  exact List.find?_eq_none.1 hf i (List.mem_range.2 hi) (eqS_iff.2 e)

theorem pos_rise {vs : List VQ} (hR : Rise vs) (s : ByteArray) : ∀ i, posV vs s ≤ i → i < vs.length → ltS (vth vs i).nm s = false := by
  obtain ⟨h0, h1, h2⟩ := pos_spec vs s
  intro i hi hl
  cases h : ltS (vth vs i).nm s
  · rfl
  · by_cases e : posV vs s = i
    · subst e; rw [h2 hl] at h; cases h
    · have := ltS_trans (hR (posV vs s) i (by omega) hl) h
      rw [h2 (by omega)] at this
      cases this

theorem chk_insert {vs : List VQ} {s : ByteArray} {p : Int} (h : chkV vs = 0) (hv : mayV ⟨s, p, 1⟩ = true) (hi : isV vs s = false) (hl : vs.length < 64) : chkV (vs.take (posV vs s) ++ [⟨s, p, 1⟩] ++ vs.drop (posV vs s)) = 0 := by
  obtain ⟨hR, -, hm⟩ := rise_of h
  obtain ⟨h0, h1, h2⟩ := pos_spec vs s
  have hno := isV_no hR hi
  have hg : ∀ i, posV vs s ≤ i → i < vs.length → ltS s (vth vs i).nm = true := fun i h3 h4 => by
    rcases ltS_total (vth vs i).nm s with h5 | h5 | h5
    · rw [pos_rise hR s i h3 h4] at h5; cases h5
    · exact absurd h5 (hno i h4)
    · exact h5
  have hlen : (vs.take (posV vs s) ++ ([⟨s, p, 1⟩] : List VQ) ++ vs.drop (posV vs s)).length = vs.length + 1 := insert_len vs _ _ h0
  generalize posV vs s = P at *
  refine chk_of (by omega) (fun i hi' => ?_) (fun j i hj hi' => ?_)
  · rw [vth_insert _ h0]
    by_cases e1 : i < P
    · rw [if_pos e1]; exact hm i (by omega)
    · rw [if_neg e1]
      by_cases e2 : i = P
      · rw [if_pos e2]; exact hv
      · rw [if_neg e2]; exact hm (i - 1) (by omega)
  · rw [vth_insert _ h0, vth_insert _ h0]
    by_cases e1 : i < P
    · rw [if_pos e1, if_pos (by omega)]
      exact hR j i hj (by omega)
    · rw [if_neg e1]
      by_cases e2 : i = P
      · rw [if_pos e2, if_pos (by omega)]
        exact h1 j (by omega)
      · rw [if_neg e2]
        by_cases e3 : j < P
        · rw [if_pos e3]
          exact hR j (i - 1) (by omega) (by omega)
        · rw [if_neg e3]
          by_cases e4 : j = P
          · rw [if_pos e4]
            exact hg (i - 1) (by omega) (by omega)
          · rw [if_neg e4]
            exact hR (j - 1) (i - 1) (by omega) (by omega)

theorem wasN_isN (k : Int) : wasN k ≠ isN k := by
  unfold wasN isN
  split
  · decide
  split
  · decide
  split
  · decide
  split <;> decide
theorem wasN_in (k : Int) : 1 ≤ wasN k ∧ wasN k ≤ 4 ∧ wasN k ≠ 3 := by
  unfold wasN
  split
  · decide
  split
  · decide
  split
  · decide
  split <;> decide
theorem isN_in (k : Int) : 1 ≤ isN k ∧ isN k ≤ 4 := by
  unfold isN
  split
  · decide
  split
  · decide
  split
  · decide
  split <;> decide

end Go.Proofs.Ytnjkfjecnicccaa
