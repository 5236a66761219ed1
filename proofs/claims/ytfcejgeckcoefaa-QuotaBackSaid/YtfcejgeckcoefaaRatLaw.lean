/- What the operations on rational numbers answer, and how they answer it. No program in sight. -/
import Derived.Test.YtfcejgeckcoefaaRatPlain
namespace Go.Proofs.Ytfcejgeckcoefaa
open Go.RowKit Go.Suf
set_option linter.unusedVariables false
set_option linter.unusedSimpArgs false

/-! ### the sign, and the comparison -/

def sideV (x : QV) : Int := if x.num.length = 0 then 0 else if x.neg = true then -1 else 1
def sideQ (q : Rat) : Int := if q.num = 0 then 0 else if q.num < 0 then -1 else 1

theorem sideV_ofQ (q : Rat) : sideV (ofQ q) = sideQ q := by
  unfold sideV sideQ ofQ
  simp only [limbs_len_zero, Int.natAbs_eq_zero, decide_eq_true_eq]

theorem sideQ_three (q : Rat) : sideQ q = -1 ∨ sideQ q = 0 ∨ sideQ q = 1 := by
  unfold sideQ
  split
  · simp
  · split <;> simp

/-- The sign of p - q. -/
def cmpR (p q : Rat) : Int := if p < q then -1 else if q < p then 1 else 0

theorem cmpR_num (p q : Rat) : cmpR p q = if p.num * q.den < q.num * p.den then -1 else if q.num * p.den < p.num * q.den then 1 else 0 := by
  unfold cmpR
  simp only [Rat.lt_iff]

theorem num_cases (q : Rat) : (sideQ q = 0 ∧ q.num = 0) ∨ (sideQ q = -1 ∧ q.num < 0 ∧ q.num = -(q.num.natAbs : Int)) ∨ (sideQ q = 1 ∧ 0 < q.num ∧ q.num = (q.num.natAbs : Int)) := by
  unfold sideQ
  by_cases h : q.num = 0
  · simp [h]
  · by_cases h' : q.num < 0
    · right; left
      rw [if_neg h, if_pos h']
      exact ⟨rfl, h', by omega⟩
    · right; right
      rw [if_neg h, if_neg h']
      exact ⟨rfl, by omega, by omega⟩

theorem den_pos' (q : Rat) : (0 : Int) < (q.den : Int) := by
  have := q.den_nz
  omega

/-- Where the signs differ, or both are 0, they tell. -/
theorem cmpR_side {p q : Rat} (h : sideQ p ≠ sideQ q ∨ sideQ p = 0) : cmpR p q = max (-1) (min 1 (sideQ p - sideQ q)) := by
  rw [cmpR_num]
  have dp := den_pos' p
  have dq := den_pos' q
  rcases num_cases p with ⟨s, z⟩ | ⟨s, z, _⟩ | ⟨s, z, _⟩ <;> rcases num_cases q with ⟨t, y⟩ | ⟨t, y, _⟩ | ⟨t, y, _⟩ <;> rw [s, t] <;> rw [s, t] at h
  · rw [z, y]; simp; decide
  · have : q.num * p.den < 0 := Int.mul_neg_of_neg_of_pos y dp
    rw [z, Int.zero_mul, if_neg (by omega), if_pos this]; decide
  · have : 0 < q.num * p.den := Int.mul_pos y dp
    rw [z, Int.zero_mul, if_pos this]; decide
  · have : p.num * q.den < 0 := Int.mul_neg_of_neg_of_pos z dq
    rw [y, Int.zero_mul, if_pos this]; decide
  · exact absurd h (by decide)
  · have h1 : p.num * q.den < 0 := Int.mul_neg_of_neg_of_pos z dq
    have h2 : 0 < q.num * p.den := Int.mul_pos y dp
    rw [if_pos (by omega)]; decide
  · have : 0 < p.num * q.den := Int.mul_pos z dq
    rw [y, Int.zero_mul, if_neg (by omega), if_pos this]; decide
  · have h1 : 0 < p.num * q.den := Int.mul_pos z dq
    have h2 : q.num * p.den < 0 := Int.mul_neg_of_neg_of_pos y dp
    rw [if_neg (by omega), if_pos (by omega)]; decide
  · exact absurd h (by decide)

/-- Where the signs are the same, the cross products tell. -/
theorem cmpR_cross {p q : Rat} (h : sideQ p = sideQ q) : cmpR p q = sideQ p * cmpN (p.num.natAbs * q.den) (q.num.natAbs * p.den) := by
  rw [cmpR_num]
  unfold cmpN
  have e : ∀ a b : Nat, (a < b) = ((a : Int) < (b : Int)) := fun a b => by simp
  simp only [e, Int.natCast_mul]
  rcases num_cases p with ⟨s, z⟩ | ⟨s, z, z'⟩ | ⟨s, z, z'⟩ <;> rcases num_cases q with ⟨t, y⟩ | ⟨t, y, y'⟩ | ⟨t, y, y'⟩ <;> rw [s, t] at h <;> try (exact absurd h (by decide))
  · rw [s, z, y]; simp
  · rw [s]
    generalize hA : (p.num.natAbs : Int) * (q.den : Int) = A
    generalize hB : (q.num.natAbs : Int) * (p.den : Int) = B
    rw [z', y', Int.neg_mul, Int.neg_mul, hA, hB]
    by_cases h1 : A < B
    · rw [if_neg (by omega), if_pos (by omega), if_pos h1]; decide
    · by_cases h2 : B < A
      · rw [if_pos (by omega), if_neg h1, if_pos h2]; decide
      · rw [if_neg (by omega), if_neg (by omega), if_neg h1, if_neg h2]; decide
  · rw [s]
    generalize hA : (p.num.natAbs : Int) * (q.den : Int) = A
    generalize hB : (q.num.natAbs : Int) * (p.den : Int) = B
    rw [z', y', hA, hB, Int.one_mul]

/-- What Cmp answers to two valid numbers. -/
def cmpQ (p q : Rat) : Int × Int :=
  if sideQ p = sideQ q ∧ sideQ p ≠ 0 ∧ ¬ (p.num.natAbs * q.den < pw 96 ∧ q.num.natAbs * p.den < pw 96) then (0, 30) else (cmpR p q, 0)

def cmpV (x y : QV) : Int × Int := if chkV x = 0 ∧ chkV y = 0 then cmpQ (toQ x) (toQ y) else (0, 8)

/-! ### sum, product, quotient -/

theorem sg_mul (n m : Bool) (a b : Nat) : sg n a * sg m b = sg (n != m) (a * b) := by
  unfold sg
  cases n <;> cases m <;> simp [Int.neg_mul, Int.mul_neg]

theorem sg_scale (n : Bool) (a b : Nat) : sg n a * (b : Int) = sg n (a * b) := by
  unfold sg
  cases n <;> simp [Int.neg_mul]

theorem sg_add (n : Bool) (a b : Nat) : sg n a + sg n b = sg n (a + b) := by
  unfold sg
  cases n <;> simp <;> omega

theorem sg_sub {n m : Bool} (h : n ≠ m) {a b : Nat} (hb : b ≤ a) : sg n a + sg m b = sg n (a - b) := by
  unfold sg
  cases n <;> cases m <;> simp at h ⊢ <;> omega

theorem mul_den_nz (p q : Rat) : p.den * q.den ≠ 0 := Nat.mul_ne_zero p.den_nz q.den_nz

theorem add_mk (p q : Rat) : p + q = mkRat (sg (decide (p.num < 0)) (p.num.natAbs * q.den) + sg (decide (q.num < 0)) (q.num.natAbs * p.den)) (p.den * q.den) := by
  rw [Rat.add_def', ← sg_scale, ← sg_scale, sg_of, sg_of]

theorem add_same {p q : Rat} (h : decide (p.num < 0) = decide (q.num < 0)) : lowV (decide (p.num < 0)) (p.num.natAbs * q.den + q.num.natAbs * p.den) (p.den * q.den) = ofQ (p + q) := by
  rw [lowV_eq _ _ _ (mul_den_nz p q), add_mk, ← h, sg_add]

theorem add_more {p q : Rat} (h : decide (p.num < 0) ≠ decide (q.num < 0)) (hb : q.num.natAbs * p.den ≤ p.num.natAbs * q.den) :
    lowV (decide (p.num < 0)) (p.num.natAbs * q.den - q.num.natAbs * p.den) (p.den * q.den) = ofQ (p + q) := by
  rw [lowV_eq _ _ _ (mul_den_nz p q), add_mk, sg_sub h hb]

theorem add_less {p q : Rat} (h : decide (p.num < 0) ≠ decide (q.num < 0)) (hb : p.num.natAbs * q.den ≤ q.num.natAbs * p.den) :
    lowV (decide (q.num < 0)) (q.num.natAbs * p.den - p.num.natAbs * q.den) (p.den * q.den) = ofQ (p + q) := by
  rw [lowV_eq _ _ _ (mul_den_nz p q), add_mk, Int.add_comm, sg_sub (Ne.symm h) hb]

theorem mul_low (p q : Rat) : lowV (decide (p.num < 0) != decide (q.num < 0)) (p.num.natAbs * q.num.natAbs) (p.den * q.den) = ofQ (p * q) := by
  rw [lowV_eq _ _ _ (mul_den_nz p q), Rat.mul_def', ← sg_mul, sg_of, sg_of]

/-- What Add answers to two valid numbers. -/
def addQ (p q : Rat) : QV × Int :=
  if p.num.natAbs * q.den < pw 96 ∧ q.num.natAbs * p.den < pw 96 ∧ p.den * q.den < pw 96 ∧ (decide (p.num < 0) = decide (q.num < 0) → p.num.natAbs * q.den + q.num.natAbs * p.den < pw 96) then (ofQ (p + q), 0) else (zeroV, 30)

def mulQ (p q : Rat) : QV × Int :=
  if p.num.natAbs * q.num.natAbs < pw 96 ∧ p.den * q.den < pw 96 then (ofQ (p * q), 0) else (zeroV, 30)

def divQ (p q : Rat) : QV × Int := if q = 0 then (zeroV, 40) else mulQ p q⁻¹

def bothV (f : Rat → Rat → QV × Int) (x y : QV) : QV × Int := if chkV x = 0 ∧ chkV y = 0 then f (toQ x) (toQ y) else (zeroV, 8)

def addV : QV → QV → QV × Int := bothV addQ
def subV : QV → QV → QV × Int := bothV fun p q => addQ p (-q)
def mulV : QV → QV → QV × Int := bothV mulQ
def divV : QV → QV → QV × Int := bothV divQ

/-- The fields of a reciprocal. -/
theorem ofQ_inv {q : Rat} (h : q ≠ 0) : ofQ q⁻¹ = ⟨decide (q.num < 0), limbs q.den, limbs q.num.natAbs⟩ := by
  have hn : q.num ≠ 0 := fun e => h (Rat.num_eq_zero.1 e)
  have hd := den_pos' q
  unfold ofQ
  rw [Rat.num_inv, Rat.den_inv, if_neg hn]
  rcases Int.lt_or_gt_of_ne hn with h1 | h1
  · rw [Int.sign_eq_neg_one_of_neg h1, Int.neg_one_mul]
    have hd' : 0 < q.den := by omega
    simp [h1, hd']
  · rw [Int.sign_eq_one_of_pos h1, Int.one_mul]
    have h2 : ¬ (q.num < 0) := by omega
    have h3 : ¬ ((q.den : Int) < 0) := by omega
    simp [h2]

theorem fitQ_inv {q : Rat} (h : q ≠ 0) (hf : fitQ q) : fitQ q⁻¹ := by
  have hn : q.num ≠ 0 := fun e => h (Rat.num_eq_zero.1 e)
  constructor
  · rw [Rat.num_inv, Int.natAbs_mul, Int.natAbs_sign_of_ne_zero hn, Nat.one_mul, Int.natAbs_natCast]
    exact hf.2
  · rw [Rat.den_inv, if_neg hn]
    exact hf.1

theorem fitQ_neg {q : Rat} (hf : fitQ q) : fitQ (-q) := by
  constructor
  · rw [Rat.neg_num, Int.natAbs_neg]
    exact hf.1
  · exact hf.2

theorem ofQ_neg (q : Rat) : ofQ (-q) = ⟨!decide (q.num < 0) && decide (0 < q.num.natAbs), limbs q.num.natAbs, limbs q.den⟩ := by
  unfold ofQ
  rw [Rat.neg_num, Int.natAbs_neg, Rat.neg_den]
  congr 1
  by_cases h : q.num < 0
  · have h2 : ¬ (-q.num < 0) := by omega
    rw [decide_eq_true h, decide_eq_false h2]
    rfl
  · by_cases h0 : q.num = 0
    · simp [h0]
    · have h2 : -q.num < 0 := by omega
      have h3 : 0 < q.num.natAbs := by omega
      rw [decide_eq_true h2, decide_eq_false h, decide_eq_true h3]
      rfl

/-- What Of answers. -/
def ofC (n d : Int) : QV × Int := if d = 0 then (zeroV, 40) else (ofQ ((n : Rat) / (d : Rat)), 0)

theorem of_low {n d : Int} (hd : d ≠ 0) : lowV (decide (n < 0) != decide (d < 0)) n.natAbs d.natAbs = ofQ ((n : Rat) / (d : Rat)) := by
  rw [lowV_eq _ _ _ (by omega), ← Rat.divInt_eq_div]
  congr 1
  rcases Int.lt_or_gt_of_ne hd with h | h
  · have e : (decide (n < 0) != decide (d < 0)) = !decide (n < 0) := by simp [h]
    rw [e]
    have e1 : sg (!decide (n < 0)) n.natAbs = -n ∨ n = 0 := by
      unfold sg
      by_cases h1 : n < 0
      · simp [h1]; omega
      · simp [h1]; omega
    have e2 : d = -(d.natAbs : Int) := by omega
    rw [show Rat.divInt n d = Rat.divInt (-n) (d.natAbs : Int) by
      conv => lhs; rw [e2]
      rw [Rat.divInt_neg']]
    rw [Rat.divInt_ofNat]
    rcases e1 with e1 | e1
    · rw [e1]
    · rw [e1]
      simp [sg]
  · have e : (decide (n < 0) != decide (d < 0)) = decide (n < 0) := by
      have : ¬ d < 0 := by omega
      simp [this]
    rw [e, sg_of]
    have e2 : d = (d.natAbs : Int) := by omega
    conv => rhs; rw [e2]
    rw [Rat.divInt_ofNat]

end Go.Proofs.Ytfcejgeckcoefaa
