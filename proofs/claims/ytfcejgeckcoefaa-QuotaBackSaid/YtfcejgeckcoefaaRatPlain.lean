/- Rational numbers as lists of limbs: the image of a Rat, its limits, and what the operations answer. No program in sight. -/
import Derived.Test.YtfcejgeckcoefaaNatApi
namespace Go.Proofs.Ytfcejgeckcoefaa
open Go.RowKit Go.Suf
set_option linter.unusedVariables false
set_option linter.unusedSimpArgs false

/-- What the three fields of an api.Ratio read as. -/
structure QV where
  neg : Bool
  num : List Nat
  den : List Nat

def zeroV : QV := ⟨false, [], []⟩

def sg (neg : Bool) (N : Nat) : Int := if neg then -(N : Int) else (N : Int)

theorem sg_abs (neg : Bool) (N : Nat) : (sg neg N).natAbs = N := by
  unfold sg
  cases neg <;> simp

theorem sg_neg (neg : Bool) (N : Nat) : decide (sg neg N < 0) = (neg && decide (0 < N)) := by
  unfold sg
  cases neg
  · simp
  · by_cases h : 0 < N
    · simp [h]
    · simp [h]

theorem sg_of (z : Int) : sg (decide (z < 0)) z.natAbs = z := by
  unfold sg
  by_cases h : z < 0
  · simp [h]; omega
  · simp [h]; omega

/-- A rational number's three fields. -/
def ofQ (q : Rat) : QV := ⟨decide (q.num < 0), limbs q.num.natAbs, limbs q.den⟩

/-- n / d in lowest terms, as the code makes it. -/
def lowV (neg : Bool) (N D : Nat) : QV := ⟨neg && decide (0 < N / N.gcd D), limbs (N / N.gcd D), limbs (D / N.gcd D)⟩

theorem sg_div (neg : Bool) (N g : Nat) (h : g ∣ N) (hg : 0 < g) : sg neg N / (g : Int) = sg neg (N / g) := by
  obtain ⟨k, rfl⟩ := h
  rw [Nat.mul_div_cancel_left _ hg]
  unfold sg
  cases neg
  · simp only [Bool.false_eq_true, if_false]
    rw [Int.natCast_mul, Int.mul_ediv_cancel_left _ (by omega)]
  · simp only [if_true]
    rw [Int.natCast_mul, show -((g : Int) * (k : Int)) = (g : Int) * (-(k : Int)) by rw [Int.mul_neg], Int.mul_ediv_cancel_left _ (by omega)]

theorem lowV_eq (neg : Bool) (N D : Nat) (hD : D ≠ 0) : lowV neg N D = ofQ (mkRat (sg neg N) D) := by
  have hg : 0 < N.gcd D := Nat.gcd_pos_of_pos_right _ (by omega)
  rw [mkRat, dif_neg hD, Rat.normalize_eq]
  unfold lowV ofQ
  simp only [sg_abs]
  rw [sg_div _ _ _ (Nat.gcd_dvd_left N D) hg, sg_abs, sg_neg]

/-- The number that three fields stand for. -/
def toQ (x : QV) : Rat := mkRat (sg x.neg (val x.num)) (val x.den)

theorem toQ_ofQ (q : Rat) : toQ (ofQ q) = q := by
  unfold toQ ofQ
  simp only [val_limbs, sg_of]
  exact Rat.mkRat_self q

/-- The number's fields have at most 96 limbs. -/
def fitQ (q : Rat) : Prop := q.num.natAbs < pw 96 ∧ q.den < pw 96

/-- The error of a number: ErrBad, or none. -/
def chkV (x : QV) : Int := if bothC x.num x.den = 0 ∧ x.den.length ≠ 0 ∧ ¬ (x.neg = true ∧ x.num.length = 0) ∧ Nat.gcd (val x.num) (val x.den) = 1 then 0 else 8

theorem chkV_two (x : QV) : chkV x = 0 ∨ chkV x = 8 := by
  unfold chkV
  split
  · exact .inl rfl
  · exact .inr rfl

theorem limbs_len_zero {A : Nat} : (limbs A).length = 0 ↔ A = 0 := by
  constructor
  · intro h
    rcases Nat.eq_zero_or_pos A with h' | h'
    · exact h'
    · exact absurd h (limbs_len0 h')
  · rintro rfl
    rw [limbs_zero]
    rfl

theorem chkV_ofQ {q : Rat} (h : fitQ q) : chkV (ofQ q) = 0 := by
  unfold chkV ofQ
  rw [if_pos]
  refine ⟨both_limbs h.1 h.2, ?_, ?_, ?_⟩
  · exact fun e => q.den_nz (limbs_len_zero.1 e)
  · rintro ⟨e1, e2⟩
    have := limbs_len_zero.1 e2
    simp at e1
    omega
  · rw [val_limbs, val_limbs]
    exact q.reduced

theorem chkV_parts {x : QV} (hn : small32 x.num) (hd : small32 x.den) (hc : chkV x = 0) :
    x.num = limbs (val x.num) ∧ x.den = limbs (val x.den) ∧ val x.num < pw 96 ∧ val x.den < pw 96 ∧ val x.den ≠ 0 ∧ (x.neg = true → val x.num ≠ 0) ∧ Nat.gcd (val x.num) (val x.den) = 1 := by
  unfold chkV at hc
  split at hc
  case isFalse => simp at hc
  case isTrue h =>
    obtain ⟨h1, h2, h3, h4⟩ := h
    have h5 : chk x.num = 0 := by
      unfold bothC at h1
      split at h1
      · assumption
      · rename_i h'; exact absurd h1 h'
    have h6 : chk x.den = 0 := by
      unfold bothC at h1
      rwa [if_pos h5] at h1
    have n1 := (limbs_val hn (chk_ok.1 h5).2).symm
    have n2 := (limbs_val hd (chk_ok.1 h6).2).symm
    refine ⟨n1, n2, Nat.lt_of_lt_of_le (val_lt' hn) (pw_le (chk_ok.1 h5).1), Nat.lt_of_lt_of_le (val_lt' hd) (pw_le (chk_ok.1 h6).1), ?_, ?_, h4⟩
    · intro e
      rw [e, limbs_zero] at n2
      exact h2 (by rw [n2]; rfl)
    · intro hg e
      rw [e, limbs_zero] at n1
      exact h3 ⟨hg, by rw [n1]; rfl⟩

/-- A valid number is the image of a rational number. -/
theorem chkV_get {x : QV} (hn : small32 x.num) (hd : small32 x.den) (hc : chkV x = 0) : ∃ q, x = ofQ q ∧ fitQ q := by
  obtain ⟨n1, n2, l1, l2, z, s, g⟩ := chkV_parts hn hd hc
  have e1 : lowV x.neg (val x.num) (val x.den) = x := by
    unfold lowV
    rw [g, Nat.div_one, Nat.div_one, ← n1, ← n2]
    cases x with
    | mk neg num den =>
      cases neg
      · simp
      · have := s rfl
        simp
        simp at this
        omega
  refine ⟨mkRat (sg x.neg (val x.num)) (val x.den), by rw [← lowV_eq _ _ _ z, e1], ?_⟩
  have e2 := lowV_eq x.neg (val x.num) (val x.den) z
  rw [e1] at e2
  have a1 : x.num = limbs (mkRat (sg x.neg (val x.num)) (val x.den)).num.natAbs := by rw [e2]; unfold ofQ; simp only [val_limbs, sg_of, Rat.mkRat_self]
  have a2 : x.den = limbs (mkRat (sg x.neg (val x.num)) (val x.den)).den := by rw [e2]; unfold ofQ; simp only [val_limbs, sg_of, Rat.mkRat_self]
  constructor
  · have : val x.num = _ := congrArg val a1
    rw [val_limbs] at this
    rw [← this]
    exact l1
  · have : val x.den = _ := congrArg val a2
    rw [val_limbs] at this
    rw [← this]
    exact l2

theorem ofQ_inj {p q : Rat} (h : ofQ p = ofQ q) : p = q := by rw [← toQ_ofQ p, h, toQ_ofQ]

end Go.Proofs.Ytfcejgeckcoefaa
