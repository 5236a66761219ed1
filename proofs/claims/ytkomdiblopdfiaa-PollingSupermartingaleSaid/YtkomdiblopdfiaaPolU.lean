/- What the laws about polling say of the pure answers. No program in sight. -/
import Derived.Test.YtkomdiblopdfiaaPolS
namespace Go.Proofs.Ytkomdiblopdfiaa
open Go.RowKit Go.Suf
set_option linter.unusedVariables false
set_option linter.unusedSimpArgs false

/-! ### observing keeps validity -/

theorem obsN_vld {vs : List Int} : ∀ {p q : PV} {L B : Nat}, Vld p L B → obsN p vs = some q →
    ∃ L' B', Vld q L' B' ∧ B ≤ B' ∧ q.bet = p.bet ∧ q.s0 + q.s1 + q.s2 = p.s0 + p.s1 + p.s2 + (vs.length : Int) := by
  induction vs with
  | nil =>
    intro p q L B v h
    obtain rfl : p = q := by injection h
    exact ⟨L, B, v, Nat.le_refl _, rfl, by simp⟩
  | cons x xs ih =>
    intro p q L B v h
    have h' : (obs1 p x).bind (fun q => obsN q xs) = some q := h
    by_cases hx : x < 0 ∨ 2 < x ∨ 1000000 ≤ seenAt p x
    · rw [obs1_out hx] at h'
      simp at h'
    · rw [obs1_in hx] at h'
      have v2 := step_vld v (v := x) (by omega) (by omega) (by omega)
      obtain ⟨L', B', v3, hb, he, hs⟩ := ih v2 h'
      refine ⟨L', B', v3, Nat.le_trans (Nat.le_max_left _ _) hb, he, ?_⟩
      rw [hs]
      have three : x = 0 ∨ x = 1 ∨ x = 2 := by omega
      rcases three with rfl | rfl | rfl
      · show (p.s0 + 1) + p.s1 + p.s2 + _ = _
        simp only [List.length_cons, Int.natCast_succ]
        omega
      · show p.s0 + (p.s1 + 1) + p.s2 + _ = _
        simp only [List.length_cons, Int.natCast_succ]
        omega
      · show p.s0 + p.s1 + (p.s2 + 1) + _ = _
        simp only [List.length_cons, Int.natCast_succ]
        omega

/-- The two ways of an observation of a valid state. -/
theorem obsC_ways {p : PV} {L B : Nat} (v : Vld p L B) (vs : List Int) :
    (obsN p vs = none ∧ obsC p vs = (zeroP, 2)) ∨ ∃ q L' B', obsN p vs = some q ∧ obsC p vs = (q, 0) ∧ Vld q L' B' ∧ B ≤ B' ∧ q.bet = p.bet ∧ q.s0 + q.s1 + q.s2 = p.s0 + p.s1 + p.s2 + (vs.length : Int) := by
  cases h : obsN p vs with
  | none => exact .inl ⟨rfl, obsC_none v.chk h⟩
  | some q =>
    obtain ⟨L', B', v', h1, h2, h3⟩ := obsN_vld v h
    exact .inr ⟨q, L', B', rfl, obsC_some v.chk h, v', h1, h2, h3⟩

theorem obsC_two {p q : PV} {L B : Nat} (v : Vld p L B) {vs : List Int} {k : Nat} (h : obsN p (vs.take k) = some q) {L' B' : Nat} (v' : Vld q L' B') : obsC q (vs.drop k) = obsC p vs := by
  have e : obsN p vs = obsN q (vs.drop k) := by
    conv => lhs; rw [← List.take_append_drop k vs]
    rw [obsN_append, h]
    rfl
  unfold obsC
  rw [if_pos v.chk, if_pos v'.chk, e]

/-! ### comparing fractions -/

/-- A valid number that is not negative and not long. -/
structure Frac (x : QV) (N D : Nat) : Prop where
  eq : x = ⟨false, limbs N, limbs D⟩
  chk : chkV x = 0
  num : N < pw 8
  den : D < pw 8

theorem Frac.q {x : QV} {N D : Nat} (h : Frac x N D) : ∃ p : Rat, x = ofQ p ∧ fitQ p ∧ p.num = (N : Int) ∧ p.den = D := by
  have p8 : pw 8 ≤ pw 96 := pw_le (by decide)
  obtain ⟨p, e, f⟩ := chkV_get (x := x) (by rw [h.eq]; exact limbs_small _) (by rw [h.eq]; exact limbs_small _) h.chk
  have e2 : ofQ p = ⟨false, limbs N, limbs D⟩ := by rw [← e, h.eq]
  have g := ofQ_get e2
  refine ⟨p, e, f, ?_, g.2⟩
  have s : decide (p.num < 0) = false := congrArg QV.neg e2
  have s' := of_decide_eq_false s
  omega

theorem cmp_frac {x y : QV} {N D N' D' : Nat} (hx : Frac x N D) (hy : Frac y N' D') : ∃ c : Int, cmpV x y = (c, 0) ∧ (c ≤ 0 ↔ N * D' ≤ N' * D) ∧ (0 ≤ c ↔ N' * D ≤ N * D') := by
  obtain ⟨p, e1, f1, n1, d1⟩ := hx.q
  obtain ⟨q, e2, f2, n2, d2⟩ := hy.q
  have hl : N * D' < pw 96 := Nat.lt_of_lt_of_le (mul_lt_pw hx.num hy.den) (pw_le (by decide))
  have hr : N' * D < pw 96 := Nat.lt_of_lt_of_le (mul_lt_pw hy.num hx.den) (pw_le (by decide))
  refine ⟨cmpR p q, ?_, ?_, ?_⟩
  · rw [cmpV, if_pos ⟨hx.chk, hy.chk⟩, e1, e2, toQ_ofQ, toQ_ofQ, cmpQ, if_neg]
    rintro ⟨_, _, h⟩
    refine h ⟨?_, ?_⟩
    · rw [n1, d2, Int.natAbs_natCast]; exact hl
    · rw [n2, d1, Int.natAbs_natCast]; exact hr
  · rw [cmpR_num, n1, n2, d1, d2]
    simp only [← Int.natCast_mul]
    split
    · constructor
      · intro _; omega
      · intro _; decide
    · split
      · constructor
        · intro h; exact absurd h (by decide)
        · intro h; omega
      · constructor
        · intro _; omega
        · intro _; decide
  · rw [cmpR_num, n1, n2, d1, d2]
    simp only [← Int.natCast_mul]
    split
    · constructor
      · intro h; exact absurd h (by decide)
      · intro h; omega
    · split
      · constructor
        · intro _; omega
        · intro _; decide
      · constructor
        · intro _; omega
        · intro _; decide

theorem limC_chk {x : QV} (h : limC x = 0) : chkV x = 0 := by
  unfold limC at h
  split at h
  · assumption
  · simp at h

theorem Lim.frac {x : QV} {n d : Nat} (h : Lim x n d) (hl : limC x = 0) : Frac x n d := by
  have p2 : pw 2 ≤ pw 8 := pw_le (by decide)
  have e : pw 2 = 18446744073709551616 := by decide
  refine ⟨?_, limC_chk hl, by have := h.le; have := h.lt; omega, by have := h.lt; omega⟩
  obtain ⟨g, n', d'⟩ := x
  have h1 : g = false := h.neg
  have h2 : n' = limbs n := h.num
  have h3 : d' = limbs d := h.den
  rw [h1, h2, h3]

/-- The risk of a valid state as a fraction. -/
theorem risk_frac {p : PV} {L B : Nat} (v : Vld p L B) : Frac (lowV false oneN B) (oneN / oneN.gcd B) (B / oneN.gcd B) := by
  have one0 : 0 < oneN := by decide
  have hz : B ≠ 0 := fun h => by rw [h] at v; exact Nat.not_lt_of_le v.lo one0
  have o8 : oneN < pw 8 := by decide
  have b8 : B < pw 8 := Nat.lt_of_le_of_lt v.hi (by decide)
  have hf : fitQ (mkRat (sg false oneN) B) := by
    have e := lowV_eq false oneN B hz
    have e2 : ofQ (mkRat (sg false oneN) B) = ⟨false, limbs (oneN / oneN.gcd B), limbs (B / oneN.gcd B)⟩ := by rw [← e]; rfl
    have g := ofQ_get e2
    refine ⟨?_, ?_⟩
    · rw [g.1]; exact Nat.lt_of_le_of_lt (Nat.div_le_self _ _) (Nat.lt_of_lt_of_le o8 (pw_le (by decide)))
    · rw [g.2]; exact Nat.lt_of_le_of_lt (Nat.div_le_self _ _) (Nat.lt_of_lt_of_le b8 (pw_le (by decide)))
  refine ⟨rfl, ?_, Nat.lt_of_le_of_lt (Nat.div_le_self _ _) o8, Nat.lt_of_le_of_lt (Nat.div_le_self _ _) b8⟩
  rw [lowV_eq false oneN B hz]
  exact chkV_ofQ hf

theorem risk_le {B n d : Nat} (hB : B ≠ 0) : oneN / oneN.gcd B * d ≤ n * (B / oneN.gcd B) ↔ oneN * d ≤ B * n := by
  have hg : 0 < oneN.gcd B := Nat.gcd_pos_of_pos_right _ (by omega)
  have e1 := Nat.div_mul_cancel (Nat.gcd_dvd_left oneN B)
  have e2 := Nat.div_mul_cancel (Nat.gcd_dvd_right oneN B)
  generalize oneN / oneN.gcd B = a at *
  generalize hb : B / oneN.gcd B = b at *
  generalize oneN.gcd B = g at *
  constructor
  · intro h
    have := Nat.mul_le_mul_right g h
    rw [← e1, ← e2]
    calc a * g * d = a * d * g := by rw [Nat.mul_right_comm]
      _ ≤ n * b * g := this
      _ = b * g * n := by rw [Nat.mul_assoc, Nat.mul_comm]
  · intro h
    refine Nat.le_of_mul_le_mul_right ?_ hg
    calc a * d * g = a * g * d := by rw [Nat.mul_right_comm]
      _ = oneN * d := by rw [e1]
      _ ≤ B * n := h
      _ = b * g * n := by rw [e2]
      _ = n * b * g := by rw [Nat.mul_comm, Nat.mul_assoc]

/-- A larger limit confirms whenever a smaller one does. -/
theorem sure_up {B n d n' d' : Nat} (hd : 0 < d) (h : n * d' ≤ n' * d) (hs : sureN B n d = true) : sureN B n' d' = true := by
  have h1 : oneN * d ≤ B * n := of_decide_eq_true hs
  refine decide_eq_true (Nat.le_of_mul_le_mul_right ?_ hd)
  calc oneN * d' * d = oneN * d * d' := by rw [Nat.mul_right_comm]
    _ ≤ B * n * d' := Nat.mul_le_mul_right _ h1
    _ = B * (n * d') := Nat.mul_assoc _ _ _
    _ ≤ B * (n' * d) := Nat.mul_le_mul_left _ h
    _ = B * n' * d := (Nat.mul_assoc _ _ _).symm

theorem sure_more {B B' n d : Nat} (h : B ≤ B') (hs : sureN B n d = true) : sureN B' n d = true := by
  have h1 : oneN * d ≤ B * n := of_decide_eq_true hs
  exact decide_eq_true (Nat.le_trans h1 (Nat.mul_le_mul_right _ h))

theorem Lim.sure {x : QV} {n d : Nat} (h : Lim x n d) {B : Nat} (hB : B ≤ mostN) : sureC (limbs B) x.num x.den = sureN B n d := by
  rw [h.num, h.den]
  exact sureC_ok hB (Nat.lt_of_le_of_lt h.le h.lt) h.lt

/-! ### the least sample -/

theorem seek_spec {bet : Int} {N D : Nat} : ∀ (f k : Nat), (seekN bet N D f k = (0, 6) ∧ ∀ j, k ≤ j → j < k + f → ¬ sureN (levN bet j) N D = true) ∨
    ∃ j, k ≤ j ∧ j < k + f ∧ seekN bet N D f k = ((j : Int), 0) ∧ sureN (levN bet j) N D = true ∧ ∀ i, k ≤ i → i < j → ¬ sureN (levN bet i) N D = true
  | 0, k => .inl ⟨rfl, fun j h1 h2 => by omega⟩
  | f + 1, k => by
    by_cases h : sureN (levN bet k) N D = true
    · exact .inr ⟨k, Nat.le_refl _, by omega, seek_yes h, h, fun i h1 h2 => by omega⟩
    · rw [seek_no h]
      rcases seek_spec f (k + 1) with ⟨e, ha⟩ | ⟨j, h1, h2, e, hs, ha⟩
      · refine .inl ⟨e, fun j h1 h2 => ?_⟩
        by_cases hj : j = k
        · rw [hj]; exact h
        · exact ha j (by omega) (by omega)
      · refine .inr ⟨j, by omega, by omega, e, hs, fun i h3 h4 => ?_⟩
        by_cases hj : i = k
        · rw [hj]; exact h
        · exact ha i (by omega) h4

end Go.Proofs.Ytkomdiblopdfiaa
