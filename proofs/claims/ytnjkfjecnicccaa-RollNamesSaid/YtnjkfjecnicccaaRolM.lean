/- What the laws about counts of rolls and about other voters lean on: plain laws. No condition. -/
import Derived.Test.YtnjkfjecnicccaaRolN
namespace Go.Proofs.Ytnjkfjecnicccaa
open Go.RowKit Go.Suf
set_option linter.unusedVariables false
set_option linter.unusedSimpArgs false

theorem PRow.base {t : TypeId} {w0 w w1 : World} {k : Nat} {cs : Array Value} (h : PRow t w w1 k cs) (hb : Below w0.heap.size w0 w) : PRow t w0 w1 k cs := ⟨hb.trans (h.below.mono hb.size), h.row, Nat.le_trans hb.size h.lo, h.lt⟩

theorem cnt_ok {vs : List VQ} (h : chkV vs = 0) {p : Int} (h1 : -1 ≤ p) (h2 : p < 8) : cntV vs p = ((manyV vs p 1, manyV vs p 2, manyV vs p 3, manyV vs p 4), 0) := by
  unfold cntV
  rw [if_pos h, if_neg (by omega)]

/-- Count of all voters. -/
theorem cnt_all {vs : List VQ} (h : chkV vs = 0) : ∃ f g u s : Nat, cntV vs (-1) = ((f, g, u, s), 0) ∧ f + g + u + s = vs.length ∧ f = manyV vs (-1) 1 ∧ g = manyV vs (-1) 2 ∧ u = manyV vs (-1) 3 ∧ s = manyV vs (-1) 4 :=
  ⟨_, _, _, _, cnt_ok h (by decide) (by decide), many_sum (may_mem h), rfl, rfl, rfl, rfl⟩

/-- The sums of a round. -/
def LoS (vs : List VQ) (p f g u s : Nat) : Prop := f = loV vs p 1 ∧ g = loV vs p 2 ∧ u = loV vs p 3 ∧ s = loV vs p 4
theorem loS_zero (vs : List VQ) : LoS vs 0 0 0 0 0 := ⟨(lo_zero _ _).symm, (lo_zero _ _).symm, (lo_zero _ _).symm, (lo_zero _ _).symm⟩
theorem loS_le {vs : List VQ} {p f g u s : Nat} (h : LoS vs p f g u s) : f ≤ vs.length ∧ g ≤ vs.length ∧ u ≤ vs.length ∧ s ≤ vs.length := by
  obtain ⟨rfl, rfl, rfl, rfl⟩ := h
  exact ⟨lo_le _ _ _, lo_le _ _ _, lo_le _ _ _, lo_le _ _ _⟩
theorem loS_step {vs : List VQ} {p f g u s : Nat} (h : LoS vs p f g u s) {a b c d : Nat} {z : Int} (hc : cntV vs (p : Nat) = ((a, b, c, d), z)) (hk : chkV vs = 0) (hp : p < 8) : LoS vs (p + 1) (f + a) (g + b) (u + c) (s + d) := by
  rw [cnt_ok hk (by omega) (by omega)] at hc
  simp only [Prod.mk.injEq] at hc
  obtain ⟨rfl, rfl, rfl, rfl⟩ := h
  obtain ⟨⟨rfl, rfl, rfl, rfl⟩, -⟩ := hc
  exact ⟨(lo_step _ _ _).symm, (lo_step _ _ _).symm, (lo_step _ _ _).symm, (lo_step _ _ _).symm⟩
theorem cnt_at {vs : List VQ} (hk : chkV vs = 0) {p : Nat} (hp : p < 8) : ∃ a b c d : Nat, cntV vs (p : Nat) = ((a, b, c, d), 0) ∧ a ≤ vs.length ∧ b ≤ vs.length ∧ c ≤ vs.length ∧ d ≤ vs.length :=
  ⟨_, _, _, _, cnt_ok hk (by omega) (by omega), many_le _ _ _, many_le _ _ _, many_le _ _ _, many_le _ _ _⟩
theorem loS_end {vs : List VQ} {f g u s : Nat} (h : LoS vs 8 f g u s) (hk : chkV vs = 0) : f = manyV vs (-1) 1 ∧ g = manyV vs (-1) 2 ∧ u = manyV vs (-1) 3 ∧ s = manyV vs (-1) 4 := by
  obtain ⟨rfl, rfl, rfl, rfl⟩ := h
  exact ⟨lo_all (may_mem hk) _, lo_all (may_mem hk) _, lo_all (may_mem hk) _, lo_all (may_mem hk) _⟩

/-- An operation moves one voter from one state to another. -/
theorem op_moves (vs : List VQ) (s : ByteArray) (k : Int) :
    (∃ z, ((z != (0 : Int)) = true ∧ (z == (0 : Int)) = false) ∧ opV vs s (wasN k) (isN k) = ([], z)) ∨
    (∃ us f g u t, opV vs s (wasN k) (isN k) = (us, 0) ∧ chkV us = 0 ∧ cntV us (-1) = ((f, g, u, t), 0) ∧ f + g + u + t = vs.length ∧ (¬ f = manyV vs (-1) 1 ∨ ¬ g = manyV vs (-1) 2) ∧ manyV vs (-1) 3 ≤ u ∧ u ≤ manyV vs (-1) 3 + 1) := by
  rcases opV_spec vs s (wasN k) (isN k) with ⟨h1, h2⟩ | ⟨h0, hc, m, hm, h2, h3, h4⟩
  · exact .inl ⟨(opV vs s (wasN k) (isN k)).2, by simpa using h1, by rw [← h2]⟩
  · have hi := isN_in k
    have hw := wasN_in k
    have hne := wasN_isN k
    have hck := chk_set hc hm hi.1 hi.2
    obtain ⟨f, g, u, t, e1, e2, e3, e4, e5, e6⟩ := cnt_all hck
    refine .inr ⟨_, f, g, u, t, (by rw [← h0, ← h4] : opV vs s (wasN k) (isN k) = (vs.set m ⟨(vth vs m).nm, (vth vs m).pc, isN k⟩, 0)), hck, e1, by rw [e2]; simp, ?_, ?_⟩
    · have q1 := many_set hm (isN k) 1
      have q2 := many_set hm (isN k) 2
      rw [← e3, h3] at q1
      rw [← e4, h3] at q2
      unfold wasN isN at *
      by_cases a1 : k = 1
      · simp [a1] at q1 q2; omega
      by_cases a2 : k = 2
      · simp [a2] at q1 q2; omega
      by_cases a3 : k = 3
      · simp [a3] at q1 q2; omega
      by_cases a4 : k = 4
      · simp [a4] at q1 q2; omega
      · simp [a1, a2, a3, a4] at q1 q2; omega
    · have q3 := many_set hm (isN k) 3
      rw [← e5, h3, if_neg hw.2.2] at q3
      split at q3 <;> omega

/-- What an operation turns: one voter's state. -/
theorem op_turns (vs : List VQ) (s : ByteArray) (k : Int) :
    (∃ z, ((z != (0 : Int)) = true ∧ (z == (0 : Int)) = false) ∧ opV vs s (wasN k) (isN k) = ([], z)) ∨
    (∃ m us, opV vs s (wasN k) (isN k) = (us, 0) ∧ us.length = vs.length ∧ m < vs.length ∧ (vth vs m).nm = s ∧ (∀ i, ¬ i = m → vth us i = vth vs i) ∧ (vth us m).nm = s ∧ (vth us m).pc = (vth vs m).pc ∧ ¬ (vth us m).st = (vth vs m).st) := by
  rcases opV_spec vs s (wasN k) (isN k) with ⟨h1, h2⟩ | ⟨h0, hc, m, hm, h2, h3, h4⟩
  · exact .inl ⟨(opV vs s (wasN k) (isN k)).2, by simpa using h1, by rw [← h2]⟩
  · refine .inr ⟨m, vs.set m ⟨(vth vs m).nm, (vth vs m).pc, isN k⟩, (by rw [← h0, ← h4] : opV vs s (wasN k) (isN k) = (vs.set m ⟨(vth vs m).nm, (vth vs m).pc, isN k⟩, 0)), by simp, hm, h2, fun i hi => by rw [vth_set _ hm, if_neg hi], ?_, ?_, ?_⟩
    · rw [vth_set _ hm, if_pos rfl]; exact h2
    · rw [vth_set _ hm, if_pos rfl]
    · rw [vth_set _ hm, if_pos rfl, h3]
      exact fun e => wasN_isN k e.symm

/-- What adding a voter turns: one more. -/
theorem add_turns (vs : List VQ) (s : ByteArray) (p : Int) :
    (∃ z, ((z != (0 : Int)) = true ∧ (z == (0 : Int)) = false) ∧ addV vs s p = ([], z)) ∨
    (∃ m us, addV vs s p = (us, 0) ∧ chkV us = 0 ∧ us.length = vs.length + 1 ∧ m ≤ vs.length ∧ (∀ i, i < m → vth us i = vth vs i ∧ ¬ (vth vs i).nm = s) ∧ (vth us m).nm = s ∧ (∀ i, m < i → vth us i = vth vs (i - 1))) := by
  rcases addV_spec vs s p with ⟨h1, h2⟩ | ⟨h0, hc, hm, hi, hl, h4⟩
  · exact .inl ⟨(addV vs s p).2, by simpa using h1, by rw [← h2]⟩
  · have hP := (pos_spec vs s).1
    refine .inr ⟨posV vs s, _, (by rw [← h0, ← h4] : addV vs s p = (vs.take (posV vs s) ++ [⟨s, p, 1⟩] ++ vs.drop (posV vs s), 0)), chk_insert hc hm hi hl, insert_len vs _ _ hP, hP, fun i h => ?_, ?_, fun i h => ?_⟩
    · exact ⟨by rw [vth_insert _ hP, if_pos h], isV_no (rise_of hc).1 hi i (by omega)⟩
    · rw [vth_insert _ hP, if_neg (by omega), if_pos rfl]
    · rw [vth_insert _ hP, if_neg (by omega), if_neg (by omega)]

end Go.Proofs.Ytnjkfjecnicccaa
