/- Rational numbers as lists of limbs: the image of a Rat, its limits, and what the operations answer. No program in sight. -/
import Derived.Test.YtmkcdlhhbnakiaaNatV
namespace Go.Proofs.Ytmkcdlhhbnakiaa
open Go.RowKit Go.Suf
set_option linter.unusedVariables false
set_option linter.unusedSimpArgs false

/-- What the three fields of an api.Ratio read as. -/
structure QV where
  neg : Bool
  num : List Nat
  den : List Nat

def zeroV : QV := ⟨false, [], []⟩

def sg (neg : Bool) (N : Nat) : Int := if neg then -(N : Int) else (N : Int)

theorem sg_abs (neg : Bool) (N : Nat) : (sg neg N).natAbs = N := by
  unfold sg
  cases neg <;> simp

theorem sg_neg (neg : Bool) (N : Nat) : decide (sg neg N < 0) = (neg && decide (0 < N)) := by
  unfold sg
  cases neg
  · simp
  · by_cases h : 0 < N
    · simp [h]
    · simp [h]

theorem sg_of (z : Int) : sg (decide (z < 0)) z.natAbs = z := by
  unfold sg
  by_cases h : z < 0
  · simp [h]; omega
  · simp [h]; omega

/-- A rational number's three fields. -/
def ofQ (q : Rat) : QV := ⟨decide (q.num < 0), limbs q.num.natAbs, limbs q.den⟩

/-- n / d in lowest terms, as the code makes it. -/
def lowV (neg : Bool) (N D : Nat) : QV := ⟨neg && decide (0 < N / N.gcd D), limbs (N / N.gcd D), limbs (D / N.gcd D)⟩

theorem sg_div (neg : Bool) (N g : Nat) (h : g ∣ N) (hg : 0 < g) : sg neg N / (g : Int) = sg neg (N / g) := by
  obtain ⟨k, rfl⟩ := h
  rw [Nat.mul_div_cancel_left _ hg]
  unfold sg
  cases neg
  · simp only [Bool.false_eq_true, if_false]
    rw [Int.natCast_mul, Int.mul_ediv_cancel_left _ (by omega)]
  · simp only [if_true]
    rw [Int.natCast_mul, show -((g : Int) * (k : Int)) = (g : Int) * (-(k : Int)) by rw [Int.mul_neg], Int.mul_ediv_cancel_left _ (by omega)]

theorem lowV_eq (neg : Bool) (N D : Nat) (hD : D ≠ 0) : lowV neg N D = ofQ (mkRat (sg neg N) D) := by
  have hg : 0 < N.gcd D := Nat.gcd_pos_of_pos_right _ (by omega)
  rw [mkRat, dif_neg hD, Rat.normalize_eq]
  unfold lowV ofQ
  simp only [sg_abs]
  rw [sg_div _ _ _ (Nat.gcd_dvd_left N D) hg, sg_abs, sg_neg]

/-- The number that three fields stand for. -/
def toQ (x : QV) : Rat := mkRat (sg x.neg (val x.num)) (val x.den)

theorem toQ_ofQ (q : Rat) : toQ (ofQ q) = q := by
  unfold toQ ofQ
  simp only [val_limbs, sg_of]
  exact Rat.mkRat_self q

/-- The number's fields have at most 96 limbs. -/
def fitQ (q : Rat) : Prop := q.num.natAbs < pw 96 ∧ q.den < pw 96

/-- The error of a number: ErrBad, or none. -/
def chkV (x : QV) : Int := if bothC x.num x.den = 0 ∧ x.den.length ≠ 0 ∧ ¬ (x.neg = true ∧ x.num.length = 0) ∧ Nat.gcd (val x.num) (val x.den) = 1 then 0 else 8

theorem chkV_two (x : QV) : chkV x = 0 ∨ chkV x = 8 := by
  unfold chkV
  split
  · exact .inl rfl
  · exact .inr rfl

theorem limbs_len_zero {A : Nat} : (limbs A).length = 0 ↔ A = 0 := by
  constructor
  · intro h
    rcases Nat.eq_zero_or_pos A with h' | h'
    · exact h'
    · exact absurd h (limbs_len0 h')
  · rintro rfl
    rw [limbs_zero]
    rfl

theorem chkV_ofQ {q : Rat} (h : fitQ q) : chkV (ofQ q) = 0 := by
  unfold chkV ofQ
  rw [if_pos]
  refine ⟨both_limbs h.1 h.2, ?_, ?_, ?_⟩
  · exact fun e => q.den_nz (limbs_len_zero.1 e)
  · rintro ⟨e1, e2⟩
    have := limbs_len_zero.1 e2
    simp at e1
    omega
  · rw [val_limbs, val_limbs]
    exact q.reduced

theorem chkV_parts {x : QV} (hn : small32 x.num) (hd : small32 x.den) (hc : chkV x = 0) :
    x.num = limbs (val x.num) ∧ x.den = limbs (val x.den) ∧ val x.num < pw 96 ∧ val x.den < pw 96 ∧ val x.den ≠ 0 ∧ (x.neg = true → val x.num ≠ 0) ∧ Nat.gcd (val x.num) (val x.den) = 1 := by
  unfold chkV at hc
  split at hc
  case isFalse => simp at hc
  case isTrue h =>
    obtain ⟨h1, h2, h3, h4⟩ := h
    have h5 : chk x.num = 0 := by
      unfold bothC at h1
      split at h1
      · assumption
      · rename_i h'; exact absurd h1 h'
    have h6 : chk x.den = 0 := by
      unfold bothC at h1
      rwa [if_pos h5] at h1
    have n1 := (limbs_val hn (chk_ok.1 h5).2).symm
    have n2 := (limbs_val hd (chk_ok.1 h6).2).symm
    refine ⟨n1, n2, Nat.lt_of_lt_of_le (val_lt' hn) (pw_le (chk_ok.1 h5).1), Nat.lt_of_lt_of_le (val_lt' hd) (pw_le (chk_ok.1 h6).1), ?_, ?_, h4⟩
    · intro e
      rw [e, limbs_zero] at n2
      exact h2 (by rw [n2]; rfl)
    · intro hg e
      rw [e, limbs_zero] at n1
      exact h3 ⟨hg, by rw [n1]; rfl⟩

/-- A valid number is the image of a rational number. -/
theorem chkV_get {x : QV} (hn : small32 x.num) (hd : small32 x.den) (hc : chkV x = 0) : ∃ q, x = ofQ q ∧ fitQ q := by
  obtain ⟨n1, n2, l1, l2, z, s, g⟩ := chkV_parts hn hd hc
  have e1 : lowV x.neg (val x.num) (val x.den) = x := by
    unfold lowV
    rw [g, Nat.div_one, Nat.div_one, ← n1, ← n2]
    cases x with
    | mk neg num den =>
      cases neg
      · simp
      · have := s rfl
        simp
        simp at this
        omega
  refine ⟨mkRat (sg x.neg (val x.num)) (val x.den), by rw [← lowV_eq _ _ _ z, e1], ?_⟩
  have e2 := lowV_eq x.neg (val x.num) (val x.den) z
  rw [e1] at e2
  have a1 : x.num = limbs (mkRat (sg x.neg (val x.num)) (val x.den)).num.natAbs := by rw [e2]; unfold ofQ; simp only [val_limbs, sg_of, Rat.mkRat_self]
  have a2 : x.den = limbs (mkRat (sg x.neg (val x.num)) (val x.den)).den := by rw [e2]; unfold ofQ; simp only [val_limbs, sg_of, Rat.mkRat_self]
  constructor
  · have : val x.num = _ := congrArg val a1
    rw [val_limbs] at this
    rw [← this]
    exact l1
  · have : val x.den = _ := congrArg val a2
    rw [val_limbs] at this
    rw [← this]
    exact l2

theorem ofQ_inj {p q : Rat} (h : ofQ p = ofQ q) : p = q := by rw [← toQ_ofQ p, h, toQ_ofQ]

end Go.Proofs.Ytmkcdlhhbnakiaa
/- What the operations on rational numbers answer, and how they answer it. No program in sight. -/
namespace Go.Proofs.Ytmkcdlhhbnakiaa
open Go.RowKit Go.Suf
set_option linter.unusedVariables false
set_option linter.unusedSimpArgs false

/-! ### the sign, and the comparison -/

def sideV (x : QV) : Int := if x.num.length = 0 then 0 else if x.neg = true then -1 else 1
def sideQ (q : Rat) : Int := if q.num = 0 then 0 else if q.num < 0 then -1 else 1

theorem sideV_ofQ (q : Rat) : sideV (ofQ q) = sideQ q := by
  unfold sideV sideQ ofQ
  simp only [limbs_len_zero, Int.natAbs_eq_zero, decide_eq_true_eq]

theorem sideQ_three (q : Rat) : sideQ q = -1 ∨ sideQ q = 0 ∨ sideQ q = 1 := by
  unfold sideQ
  split
  · simp
  · split <;> simp

/-- The sign of p - q. -/
def cmpR (p q : Rat) : Int := if p < q then -1 else if q < p then 1 else 0

theorem cmpR_num (p q : Rat) : cmpR p q = if p.num * q.den < q.num * p.den then -1 else if q.num * p.den < p.num * q.den then 1 else 0 := by
  unfold cmpR
  simp only [Rat.lt_iff]

theorem num_cases (q : Rat) : (sideQ q = 0 ∧ q.num = 0) ∨ (sideQ q = -1 ∧ q.num < 0 ∧ q.num = -(q.num.natAbs : Int)) ∨ (sideQ q = 1 ∧ 0 < q.num ∧ q.num = (q.num.natAbs : Int)) := by
  unfold sideQ
  by_cases h : q.num = 0
  · simp [h]
  · by_cases h' : q.num < 0
    · right; left
      rw [if_neg h, if_pos h']
      exact ⟨rfl, h', by omega⟩
    · right; right
      rw [if_neg h, if_neg h']
      exact ⟨rfl, by omega, by omega⟩

theorem den_pos' (q : Rat) : (0 : Int) < (q.den : Int) := by
  have := q.den_nz
  omega

/-- Where the signs differ, or both are 0, they tell. -/
theorem cmpR_side {p q : Rat} (h : sideQ p ≠ sideQ q ∨ sideQ p = 0) : cmpR p q = max (-1) (min 1 (sideQ p - sideQ q)) := by
  rw [cmpR_num]
  have dp := den_pos' p
  have dq := den_pos' q
  rcases num_cases p with ⟨s, z⟩ | ⟨s, z, _⟩ | ⟨s, z, _⟩ <;> rcases num_cases q with ⟨t, y⟩ | ⟨t, y, _⟩ | ⟨t, y, _⟩ <;> rw [s, t] <;> rw [s, t] at h
  · rw [z, y]; simp; decide
  · have : q.num * p.den < 0 := Int.mul_neg_of_neg_of_pos y dp
    rw [z, Int.zero_mul, if_neg (by omega), if_pos this]; decide
  · have : 0 < q.num * p.den := Int.mul_pos y dp
    rw [z, Int.zero_mul, if_pos this]; decide
  · have : p.num * q.den < 0 := Int.mul_neg_of_neg_of_pos z dq
    rw [y, Int.zero_mul, if_pos this]; decide
  · exact absurd h (by decide)
  · have h1 : p.num * q.den < 0 := Int.mul_neg_of_neg_of_pos z dq
    have h2 : 0 < q.num * p.den := Int.mul_pos y dp
    rw [if_pos (by omega)]; decide
  · have : 0 < p.num * q.den := Int.mul_pos z dq
    rw [y, Int.zero_mul, if_neg (by omega), if_pos this]; decide
  · have h1 : 0 < p.num * q.den := Int.mul_pos z dq
    have h2 : q.num * p.den < 0 := Int.mul_neg_of_neg_of_pos y dp
    rw [if_neg (by omega), if_pos (by omega)]; decide
  · exact absurd h (by decide)

/-- Where the signs are the same, the cross products tell. -/
theorem cmpR_cross {p q : Rat} (h : sideQ p = sideQ q) : cmpR p q = sideQ p * cmpN (p.num.natAbs * q.den) (q.num.natAbs * p.den) := by
  rw [cmpR_num]
  unfold cmpN
  have e : ∀ a b : Nat, (a < b) = ((a : Int) < (b : Int)) := fun a b => by simp
  simp only [e, Int.natCast_mul]
  rcases num_cases p with ⟨s, z⟩ | ⟨s, z, z'⟩ | ⟨s, z, z'⟩ <;> rcases num_cases q with ⟨t, y⟩ | ⟨t, y, y'⟩ | ⟨t, y, y'⟩ <;> rw [s, t] at h <;> try (exact absurd h (by decide))
  · rw [s, z, y]; simp
  · rw [s]
    generalize hA : (p.num.natAbs : Int) * (q.den : Int) = A
    generalize hB : (q.num.natAbs : Int) * (p.den : Int) = B
    rw [z', y', Int.neg_mul, Int.neg_mul, hA, hB]
    by_cases h1 : A < B
    · rw [if_neg (by omega), if_pos (by omega), if_pos h1]; decide
    · by_cases h2 : B < A
      · rw [if_pos (by omega), if_neg h1, if_pos h2]; decide
      · rw [if_neg (by omega), if_neg (by omega), if_neg h1, if_neg h2]; decide
  · rw [s]
    generalize hA : (p.num.natAbs : Int) * (q.den : Int) = A
    generalize hB : (q.num.natAbs : Int) * (p.den : Int) = B
    rw [z', y', hA, hB, Int.one_mul]

/-- What Cmp answers to two valid numbers. -/
def cmpQ (p q : Rat) : Int × Int :=
  if sideQ p = sideQ q ∧ sideQ p ≠ 0 ∧ ¬ (p.num.natAbs * q.den < pw 96 ∧ q.num.natAbs * p.den < pw 96) then (0, 30) else (cmpR p q, 0)

def cmpV (x y : QV) : Int × Int := if chkV x = 0 ∧ chkV y = 0 then cmpQ (toQ x) (toQ y) else (0, 8)

/-! ### sum, product, quotient -/

theorem sg_mul (n m : Bool) (a b : Nat) : sg n a * sg m b = sg (n != m) (a * b) := by
  unfold sg
  cases n <;> cases m <;> simp [Int.neg_mul, Int.mul_neg]

theorem sg_scale (n : Bool) (a b : Nat) : sg n a * (b : Int) = sg n (a * b) := by
  unfold sg
  cases n <;> simp [Int.neg_mul]

theorem sg_add (n : Bool) (a b : Nat) : sg n a + sg n b = sg n (a + b) := by
  unfold sg
  cases n <;> simp <;> omega

theorem sg_sub {n m : Bool} (h : n ≠ m) {a b : Nat} (hb : b ≤ a) : sg n a + sg m b = sg n (a - b) := by
  unfold sg
  cases n <;> cases m <;> simp at h ⊢ <;> omega

theorem mul_den_nz (p q : Rat) : p.den * q.den ≠ 0 := Nat.mul_ne_zero p.den_nz q.den_nz

theorem add_mk (p q : Rat) : p + q = mkRat (sg (decide (p.num < 0)) (p.num.natAbs * q.den) + sg (decide (q.num < 0)) (q.num.natAbs * p.den)) (p.den * q.den) := by
  rw [Rat.add_def', ← sg_scale, ← sg_scale, sg_of, sg_of]

theorem add_same {p q : Rat} (h : decide (p.num < 0) = decide (q.num < 0)) : lowV (decide (p.num < 0)) (p.num.natAbs * q.den + q.num.natAbs * p.den) (p.den * q.den) = ofQ (p + q) := by
  rw [lowV_eq _ _ _ (mul_den_nz p q), add_mk, ← h, sg_add]

theorem add_more {p q : Rat} (h : decide (p.num < 0) ≠ decide (q.num < 0)) (hb : q.num.natAbs * p.den ≤ p.num.natAbs * q.den) :
    lowV (decide (p.num < 0)) (p.num.natAbs * q.den - q.num.natAbs * p.den) (p.den * q.den) = ofQ (p + q) := by
  rw [lowV_eq _ _ _ (mul_den_nz p q), add_mk, sg_sub h hb]

theorem add_less {p q : Rat} (h : decide (p.num < 0) ≠ decide (q.num < 0)) (hb : p.num.natAbs * q.den ≤ q.num.natAbs * p.den) :
    lowV (decide (q.num < 0)) (q.num.natAbs * p.den - p.num.natAbs * q.den) (p.den * q.den) = ofQ (p + q) := by
  rw [lowV_eq _ _ _ (mul_den_nz p q), add_mk, Int.add_comm, sg_sub (Ne.symm h) hb]

theorem mul_low (p q : Rat) : lowV (decide (p.num < 0) != decide (q.num < 0)) (p.num.natAbs * q.num.natAbs) (p.den * q.den) = ofQ (p * q) := by
  rw [lowV_eq _ _ _ (mul_den_nz p q), Rat.mul_def', ← sg_mul, sg_of, sg_of]

/-- What Add answers to two valid numbers. -/
def addQ (p q : Rat) : QV × Int :=
  if p.num.natAbs * q.den < pw 96 ∧ q.num.natAbs * p.den < pw 96 ∧ p.den * q.den < pw 96 ∧ (decide (p.num < 0) = decide (q.num < 0) → p.num.natAbs * q.den + q.num.natAbs * p.den < pw 96) then (ofQ (p + q), 0) else (zeroV, 30)

def mulQ (p q : Rat) : QV × Int :=
  if p.num.natAbs * q.num.natAbs < pw 96 ∧ p.den * q.den < pw 96 then (ofQ (p * q), 0) else (zeroV, 30)

def divQ (p q : Rat) : QV × Int := if q = 0 then (zeroV, 40) else mulQ p q⁻¹

def bothV (f : Rat → Rat → QV × Int) (x y : QV) : QV × Int := if chkV x = 0 ∧ chkV y = 0 then f (toQ x) (toQ y) else (zeroV, 8)

def addV : QV → QV → QV × Int := bothV addQ
def subV : QV → QV → QV × Int := bothV fun p q => addQ p (-q)
def mulV : QV → QV → QV × Int := bothV mulQ
def divV : QV → QV → QV × Int := bothV divQ

/-- The fields of a reciprocal. -/
theorem ofQ_inv {q : Rat} (h : q ≠ 0) : ofQ q⁻¹ = ⟨decide (q.num < 0), limbs q.den, limbs q.num.natAbs⟩ := by
  have hn : q.num ≠ 0 := fun e => h (Rat.num_eq_zero.1 e)
  have hd := den_pos' q
  unfold ofQ
  rw [Rat.num_inv, Rat.den_inv, if_neg hn]
  rcases Int.lt_or_gt_of_ne hn with h1 | h1
  · rw [Int.sign_eq_neg_one_of_neg h1, Int.neg_one_mul]
    have hd' : 0 < q.den := by omega
    simp [h1, hd']
  · rw [Int.sign_eq_one_of_pos h1, Int.one_mul]
    have h2 : ¬ (q.num < 0) := by omega
    have h3 : ¬ ((q.den : Int) < 0) := by omega
    simp [h2]

theorem fitQ_inv {q : Rat} (h : q ≠ 0) (hf : fitQ q) : fitQ q⁻¹ := by
  have hn : q.num ≠ 0 := fun e => h (Rat.num_eq_zero.1 e)
  constructor
  · rw [Rat.num_inv, Int.natAbs_mul, Int.natAbs_sign_of_ne_zero hn, Nat.one_mul, Int.natAbs_natCast]
    exact hf.2
  · rw [Rat.den_inv, if_neg hn]
    exact hf.1

theorem fitQ_neg {q : Rat} (hf : fitQ q) : fitQ (-q) := by
  constructor
  · rw [Rat.neg_num, Int.natAbs_neg]
    exact hf.1
  · exact hf.2

theorem ofQ_neg (q : Rat) : ofQ (-q) = ⟨!decide (q.num < 0) && decide (0 < q.num.natAbs), limbs q.num.natAbs, limbs q.den⟩ := by
  unfold ofQ
  rw [Rat.neg_num, Int.natAbs_neg, Rat.neg_den]
  congr 1
  by_cases h : q.num < 0
  · have h2 : ¬ (-q.num < 0) := by omega
    rw [decide_eq_true h, decide_eq_false h2]
    rfl
  · by_cases h0 : q.num = 0
    · simp [h0]
    · have h2 : -q.num < 0 := by omega
      have h3 : 0 < q.num.natAbs := by omega
      rw [decide_eq_true h2, decide_eq_false h, decide_eq_true h3]
      rfl

/-- What Of answers. -/
def ofC (n d : Int) : QV × Int := if d = 0 then (zeroV, 40) else (ofQ ((n : Rat) / (d : Rat)), 0)

theorem of_low {n d : Int} (hd : d ≠ 0) : lowV (decide (n < 0) != decide (d < 0)) n.natAbs d.natAbs = ofQ ((n : Rat) / (d : Rat)) := by
  rw [lowV_eq _ _ _ (by omega), ← Rat.divInt_eq_div]
  congr 1
  rcases Int.lt_or_gt_of_ne hd with h | h
  · have e : (decide (n < 0) != decide (d < 0)) = !decide (n < 0) := by simp [h]
    rw [e]
    have e1 : sg (!decide (n < 0)) n.natAbs = -n ∨ n = 0 := by
      unfold sg
      by_cases h1 : n < 0
      · simp [h1]; omega
      · simp [h1]; omega
    have e2 : d = -(d.natAbs : Int) := by omega
    rw [show Rat.divInt n d = Rat.divInt (-n) (d.natAbs : Int) by
      conv => lhs; rw [e2]
      rw [Rat.divInt_neg']]
    rw [Rat.divInt_ofNat]
    rcases e1 with e1 | e1
    · rw [e1]
    · rw [e1]
      simp [sg]
  · have e : (decide (n < 0) != decide (d < 0)) = decide (n < 0) := by
      have : ¬ d < 0 := by omega
      simp [this]
    rw [e, sg_of]
    have e2 : d = (d.natAbs : Int) := by omega
    conv => rhs; rw [e2]
    rw [Rat.divInt_ofNat]

end Go.Proofs.Ytmkcdlhhbnakiaa
/- A rational number in the program: what it reads as; Check, one, Lowest. No condition but that the slices read. -/
namespace Go.Proofs.Ytmkcdlhhbnakiaa
open Go.RowKit Go.Suf
set_option linter.unusedVariables false
set_option linter.unusedSimpArgs false

/-- The value of a rational number. -/
abbrev ratV (neg : Bool) (a : Option Addr) (n c : Nat) (b : Option Addr) (m d : Nat) : Value := .agg #[.bool neg, .slice a n c, .slice b m d]

theorem rat_one (neg : Bool) (a : Option Addr) (n c : Nat) (b : Option Addr) (m d : Nat) : ∀ u ∈ (#[.bool neg, .slice a n c, .slice b m d] : Array Value).toList, u.oneCell' = true := by
  intro u hu
  simp only [List.mem_cons, List.not_mem_nil, or_false] at hu
  rcases hu with rfl | rfl | rfl <;> rfl

theorem atRat : AT Try.prog 34 3 := ⟨⟨_, Try.underlying34, rfl⟩, by kernel_rfl⟩

theorem rat_cell (w : World) (cs : Array Value) (t : TypeId) (i : Nat) (v : Value) (h : cs[i]? = some v) : (w.alloc (.cells cs t)).cell? ⟨w.heap.size, i, none⟩ = some v := by
  simp only [World.cell?, heap_alloc_new, h]
  rfl

/-- The cells of a block that was laid, in a later world. -/
theorem cell_later {B i : Nat} {w w' : World} {k : Nat} {v : Value} (hb : Below B w w') (h : w.cell? ⟨k, i, none⟩ = some v) (hk : k < B) : w'.cell? ⟨k, i, none⟩ = some v := by
  rw [← h]
  simp only [World.cell?, hb.block k hk]

def RetIB (w : World) (c : Int) : Ending → World → Prop := fun e w' => e = .returned (.int .i64 c) ∧ Below w.heap.size w w'

theorem ratOne_any (w : World) : Calls Try.prog 87 #[] w fun e w' => e = .returned (.slice (some ⟨w.heap.size, 0, none⟩) 1 1) ∧ w' = w.alloc (.cells #[.int .u32 1] 68) := by
  go_enter Try.func87, Try.ntmps87
  go_wp2
  go_ret
  exact ⟨rfl, rfl⟩

theorem both_split {xs ys : List Nat} : bothC xs ys = 0 ↔ chk xs = 0 ∧ chk ys = 0 := by
  unfold bothC
  constructor
  · intro h
    split at h
    · exact ⟨by assumption, h⟩
    · rename_i h'
      exact absurd h h'
  · rintro ⟨h1, h2⟩
    rw [if_pos h1, h2]

theorem chk_cases (xs : List Nat) : chk xs = 0 ∨ ((chk xs == 0) = false) := by
  by_cases h : chk xs = 0
  · exact .inl h
  · exact .inr (by rw [beq_eq_false_iff_ne]; exact h)

/-- What holds in the world in which a rational number was boxed. -/
structure Box (w w1 : World) (neg : Bool) (a : Option Addr) (n c : Nat) (b : Option Addr) (m d : Nat) (k : Nat) : Prop where
  below : Below w.heap.size w w1
  at0 : w1.cell? ⟨k, 0, none⟩ = some (.bool neg)
  at1 : w1.cell? ⟨k, 1, none⟩ = some (.slice a n c)
  at2 : w1.cell? ⟨k, 2, none⟩ = some (.slice b m d)
  lt : k < w1.heap.size

theorem Box.new (w : World) (neg : Bool) (a : Option Addr) (n c : Nat) (b : Option Addr) (m d : Nat) :
    Box w (w.alloc (.cells #[.bool neg, .slice a n c, .slice b m d] 34)) neg a n c b m d w.heap.size :=
  ⟨(Below.refl _ _).alloc (Nat.le_refl _) _, rat_cell w _ _ 0 _ rfl, rat_cell w _ _ 1 _ rfl, rat_cell w _ _ 2 _ rfl, by rw [World.size_alloc]; omega⟩

theorem Box.later {w w1 w2 : World} {neg : Bool} {a : Option Addr} {n c : Nat} {b : Option Addr} {m d k : Nat} (h : Box w w1 neg a n c b m d k) (hb : Below w1.heap.size w1 w2) : Box w w2 neg a n c b m d k :=
  ⟨h.below.trans (hb.mono h.below.size), cell_later hb h.at0 h.lt, cell_later hb h.at1 h.lt, cell_later hb h.at2 h.lt, Nat.lt_of_lt_of_le h.lt hb.size⟩

theorem chkV_no {x : QV} (h : ¬ (bothC x.num x.den = 0 ∧ x.den.length ≠ 0 ∧ ¬ (x.neg = true ∧ x.num.length = 0) ∧ Nat.gcd (val x.num) (val x.den) = 1)) : chkV x = 8 := by
  unfold chkV
  rw [if_neg h]

theorem chkV_yes {x : QV} (h : bothC x.num x.den = 0 ∧ x.den.length ≠ 0 ∧ ¬ (x.neg = true ∧ x.num.length = 0) ∧ Nat.gcd (val x.num) (val x.den) = 1) : chkV x = 0 := by
  unfold chkV
  rw [if_pos h]

theorem limbs_one : limbs 1 = [1] := by
  rw [limbs_pos (by decide)]
  simp [limbs_zero]

theorem lit_one (w : World) : Rd .u32 (w.alloc (.cells #[.int .u32 1] 68)) (some ⟨w.heap.size, 0, none⟩) 1 1 (limbs 1) := by
  rw [limbs_one]
  exact rd_lit .u32 w [1] 68 1 rfl (by decide) (by intro y hy; simp at hy; subst hy; decide)

set_option maxHeartbeats 1000000 in
theorem ratCheck_any (w : World) {neg : Bool} {a b : Option Addr} {n m c d : Nat} {xs ys : List Nat} (h : Rd .u32 w a n c xs) (h' : Rd .u32 w b m d ys) :
    Calls Try.prog 67 #[ratV neg a n c b m d] w (RetIB w (chkV ⟨neg, xs, ys⟩)) := by
  have B0 := Box.new w neg a n c b m d
  have hn := h.len
  have hm := h'.len
  obtain ⟨r, hr⟩ : ∃ r, r = chkV ⟨neg, xs, ys⟩ := ⟨_, rfl⟩
  rw [← hr]
  have HR := Lib.hid hr
  have r1 := h.below B0.below
  have r2 := h'.below B0.below
  obtain ⟨w1, hw1⟩ : ∃ w1, w1 = w.alloc (.cells #[.bool neg, .slice a n c, .slice b m d] 34) := ⟨_, rfl⟩
  have c0 := B0.at0
  have c1 := B0.at1
  have c2 := B0.at2
  by_cases h1 : chk xs = 0
  case neg =>
    have hk : (chk xs != 0) = true := by rw [bne_iff_ne]; exact h1
    have e := Lib.hid (show r = 8 by rw [hr]; exact chkV_no (fun hh => h1 (both_split.1 hh.1).1))
    obtain ⟨k, hkk⟩ : ∃ k, k = chk xs := ⟨_, rfl⟩
    rw [← hkk] at hk
    clear h1 hr
    go_enter Try.func67, Try.ntmps67
    go_wp2_with fail
    have cc := Check_any _ r1
    rw [← hkk] at cc
    refine cc.mono ?_
    rintro e1 w2 ⟨rfl, rfl⟩
    clear cc hkk
    go_wp2_with fail
    go_ret
    exact ⟨by rw [e.out]; rfl, B0.below⟩
  case pos =>
  by_cases h2 : chk ys = 0
  case neg =>
    have hk : (chk ys != 0) = true := by rw [bne_iff_ne]; exact h2
    have e := Lib.hid (show r = 8 by rw [hr]; exact chkV_no (fun hh => h2 (both_split.1 hh.1).2))
    obtain ⟨k, hkk⟩ : ∃ k, k = chk ys := ⟨_, rfl⟩
    rw [← hkk] at hk
    have H1 := Lib.hid h1
    clear h1 h2 hr
    go_enter Try.func67, Try.ntmps67
    go_wp2_with fail
    have cc := Check_any _ r1
    rw [H1.out] at cc
    refine cc.mono ?_
    rintro e1 w2 ⟨rfl, rfl⟩
    clear cc
    go_wp2_with fail
    have cc := Check_any _ r2
    rw [← hkk] at cc
    refine cc.mono ?_
    rintro e1 w2 ⟨rfl, rfl⟩
    clear cc hkk
    go_wp2_with fail
    go_ret
    exact ⟨by rw [e.out]; rfl, B0.below⟩
  case pos =>
  have H1 := Lib.hid h1
  have H2 := Lib.hid h2
  have hbad : (m = 0 ∨ (neg = true ∧ n = 0)) ∨ (m ≠ 0 ∧ ¬ (neg = true ∧ n = 0)) := by
    by_cases e1 : m = 0
    · exact .inl (.inl e1)
    · by_cases e2 : neg = true ∧ n = 0
      · exact .inl (.inr e2)
      · exact .inr ⟨e1, e2⟩
  rcases hbad with hbad | ⟨g1, g2⟩
  · have e := Lib.hid (show r = 8 by
      rw [hr]
      refine chkV_no (fun hh => ?_)
      rcases hbad with e1 | e1
      · exact hh.2.1 (hm.trans e1)
      · exact hh.2.2.1 ⟨e1.1, hn.trans e1.2⟩)
    clear h1 h2 hr
    have hcase : m = 0 ∨ (m ≠ 0 ∧ neg = true ∧ n = 0) := by
      by_cases e1 : m = 0
      · exact .inl e1
      · rcases hbad with e2 | e2
        · exact absurd e2 e1
        · exact .inr ⟨e1, e2⟩
    clear hbad
    rcases hcase with rfl | ⟨e1, rfl, rfl⟩
    · go_enter Try.func67, Try.ntmps67
      go_wp2_with fail
      have cc := Check_any _ r1
      rw [H1.out] at cc
      refine cc.mono ?_
      rintro e1 w2 ⟨rfl, rfl⟩
      clear cc
      go_wp2_with fail
      have cc := Check_any _ r2
      rw [H2.out] at cc
      refine cc.mono ?_
      rintro e1 w2 ⟨rfl, rfl⟩
      clear cc
      go_wp2_with fail
      go_ret
      exact ⟨by rw [e.out]; rfl, B0.below⟩
    · have hm0 : ((m : Int) == 0) = false := by rw [beq_eq_false_iff_ne]; omega
      go_enter Try.func67, Try.ntmps67
      go_wp2_with fail
      have cc := Check_any _ r1
      rw [H1.out] at cc
      refine cc.mono ?_
      rintro e1 w2 ⟨rfl, rfl⟩
      clear cc
      go_wp2_with fail
      have cc := Check_any _ r2
      rw [H2.out] at cc
      refine cc.mono ?_
      rintro e1 w2 ⟨rfl, rfl⟩
      clear cc
      go_wp2_with fail
      go_ret
      exact ⟨by rw [e.out]; rfl, B0.below⟩
  · have hb := Lib.hid (both_split.2 ⟨h1, h2⟩)
    have hm0 : ((m : Int) == 0) = false := by rw [beq_eq_false_iff_ne]; omega
    obtain ⟨g, hg⟩ : ∃ g, g = Nat.gcd (val xs) (val ys) := ⟨_, rfl⟩
    have HG := Lib.hid hg
    have hres := Lib.hid (show r = if g = 1 then 0 else 8 by
      rw [hr]
      by_cases e1 : g = 1
      · rw [if_pos e1]
        exact chkV_yes ⟨both_split.2 ⟨h1, h2⟩, by rw [hm]; exact g1, by rw [hn]; exact g2, by rw [← hg]; exact e1⟩
      · rw [if_neg e1]
        exact chkV_no (fun hh => e1 (by rw [hg]; exact hh.2.2.2)))
    have g3 : neg = false ∨ (neg = true ∧ ((n : Int) == 0) = false) := by
      cases neg
      · exact .inl rfl
      · right
        refine ⟨rfl, ?_⟩
        rw [beq_eq_false_iff_ne]
        intro e
        exact g2 ⟨rfl, by omega⟩
    clear h1 h2 hr hg g1 g2
    rcases g3 with rfl | ⟨rfl, hn0⟩
    all_goals
      go_enter Try.func67, Try.ntmps67
      go_wp2_with fail
      have cc := Check_any _ r1
      rw [H1.out] at cc
      refine cc.mono ?_
      rintro e1 w2 ⟨rfl, rfl⟩
      clear cc
      go_wp2_with fail
      have cc := Check_any _ r2
      rw [H2.out] at cc
      refine cc.mono ?_
      rintro e1 w2 ⟨rfl, rfl⟩
      clear cc
      go_wp2_with fail
      have cc := Gcd_any _ r1 r2
      rw [gcdC, if_pos hb.out, ← HG.out] at cc
      refine cc.mono ?_
      rintro e1 w2 ⟨ag, ng, cg, rfl, hg, hbg⟩
      clear cc
      have B2 := B0.later hbg
      go_wp2_with fail
      refine (ratOne_any _).mono ?_
      rintro e1 w3 ⟨rfl, rfl⟩
      have hbo : Below w2.heap.size w2 (w2.alloc (.cells #[.int .u32 1] 68)) := (Below.refl _ _).alloc (Nat.le_refl _) _
      have B3 := B2.later hbo
      have hg3 := hg.below hbo
      have ho3 := lit_one w2
      by_cases e1 : g = 1
      · have hs := Lib.hid (show r = 0 by rw [hres.out, if_pos e1])
        have hs2 := Lib.hid (show sameN (limbs g) (limbs 1) = true by rw [e1, same_self])
        clear e1
        go_wp2_with fail
        have cc := Same_any _ hg3 ho3
        rw [hs2.out] at cc
        refine cc.mono ?_
        rintro e1 w4 ⟨rfl, nq, rfl⟩
        clear cc
        go_wp2_with fail
        go_ret
        exact ⟨by rw [hs.out]; rfl, B3.below.trans ((below_drewN (Below.refl _ _) nq).mono B3.below.size)⟩
      · have hs := Lib.hid (show r = 8 by rw [hres.out, if_neg e1])
        have hs2 := Lib.hid (show sameN (limbs g) (limbs 1) = false by rw [same_ok]; exact decide_eq_false e1)
        clear e1
        go_wp2_with fail
        have cc := Same_any _ hg3 ho3
        rw [hs2.out] at cc
        refine cc.mono ?_
        rintro e1 w4 ⟨rfl, nq, rfl⟩
        clear cc
        go_wp2_with fail
        go_ret
        exact ⟨by rw [hs.out]; rfl, B3.below.trans ((below_drewN (Below.refl _ _) nq).mono B3.below.size)⟩

end Go.Proofs.Ytmkcdlhhbnakiaa
