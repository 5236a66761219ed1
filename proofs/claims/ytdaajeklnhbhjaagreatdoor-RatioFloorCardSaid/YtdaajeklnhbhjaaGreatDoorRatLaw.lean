/- What the operations on rational numbers answer, and how they answer it. No program in sight. -/
import Derived.Test.YtdaajeklnhbhjaaGreatDoorNatX
namespace Go.Proofs.YtdaajeklnhbhjaaGreatDoor
open Go.RowKit Go.Suf
set_option linter.unusedVariables false
set_option linter.unusedSimpArgs false

/-! ### the sign, and the comparison -/

def sideV (x : QV) : Int := if x.num.length = 0 then 0 else if x.neg = true then -1 else 1
def sideQ (q : Rat) : Int := if q.num = 0 then 0 else if q.num < 0 then -1 else 1

theorem sideV_ofQ (q : Rat) : sideV (ofQ q) = sideQ q := by
  unfold sideV sideQ ofQ
  simp only [limbs_len_zero, Int.natAbs_eq_zero, decide_eq_true_eq]

theorem sideQ_three (q : Rat) : sideQ q = -1 ∨ sideQ q = 0 ∨ sideQ q = 1 := by
  unfold sideQ
  split
  · simp
  · split <;> simp

/-- The sign of p - q. -/
def cmpR (p q : Rat) : Int := if p < q then -1 else if q < p then 1 else 0

theorem cmpR_num (p q : Rat) : cmpR p q = if p.num * q.den < q.num * p.den then -1 else if q.num * p.den < p.num * q.den then 1 else 0 := by
  unfold cmpR
  simp only [Rat.lt_iff]

theorem num_cases (q : Rat) : (sideQ q = 0 ∧ q.num = 0) ∨ (sideQ q = -1 ∧ q.num < 0 ∧ q.num = -(q.num.natAbs : Int)) ∨ (sideQ q = 1 ∧ 0 < q.num ∧ q.num = (q.num.natAbs : Int)) := by
  unfold sideQ
  by_cases h : q.num = 0
  · simp [h]
  · by_cases h' : q.num < 0
    · right; left
      rw [if_neg h, if_pos h']
      exact ⟨rfl, h', by omega⟩
    · right; right
      rw [if_neg h, if_neg h']
      exact ⟨rfl, by omega, by omega⟩

theorem den_pos' (q : Rat) : (0 : Int) < (q.den : Int) := by
  have := q.den_nz
  omega

/-- Where the signs differ, or both are 0, they tell. -/
theorem cmpR_side {p q : Rat} (h : sideQ p ≠ sideQ q ∨ sideQ p = 0) : cmpR p q = max (-1) (min 1 (sideQ p - sideQ q)) := by
  rw [cmpR_num]
  have dp := den_pos' p
  have dq := den_pos' q
  rcases num_cases p with ⟨s, z⟩ | ⟨s, z, _⟩ | ⟨s, z, _⟩ <;> rcases num_cases q with ⟨t, y⟩ | ⟨t, y, _⟩ | ⟨t, y, _⟩ <;> rw [s, t] <;> rw [s, t] at h
  · rw [z, y]; simp; decide
  · have : q.num * p.den < 0 := Int.mul_neg_of_neg_of_pos y dp
    rw [z, Int.zero_mul, if_neg (by omega), if_pos this]; decide
  · have : 0 < q.num * p.den := Int.mul_pos y dp
    rw [z, Int.zero_mul, if_pos this]; decide
  · have : p.num * q.den < 0 := Int.mul_neg_of_neg_of_pos z dq
    rw [y, Int.zero_mul, if_pos this]; decide
  · exact absurd h (by decide)
  · have h1 : p.num * q.den < 0 := Int.mul_neg_of_neg_of_pos z dq
    have h2 : 0 < q.num * p.den := Int.mul_pos y dp
    rw [if_pos (by omega)]; decide
  · have : 0 < p.num * q.den := Int.mul_pos z dq
    rw [y, Int.zero_mul, if_neg (by omega), if_pos this]; decide
  · have h1 : 0 < p.num * q.den := Int.mul_pos z dq
    have h2 : q.num * p.den < 0 := Int.mul_neg_of_neg_of_pos y dp
    rw [if_neg (by omega), if_pos (by omega)]; decide
  · exact absurd h (by decide)

/-- Where the signs are the same, the cross products tell. -/
theorem cmpR_cross {p q : Rat} (h : sideQ p = sideQ q) : cmpR p q = sideQ p * cmpN (p.num.natAbs * q.den) (q.num.natAbs * p.den) := by
  rw [cmpR_num]
  unfold cmpN
  have e : ∀ a b : Nat, (a < b) = ((a : Int) < (b : Int)) := fun a b => by simp
  simp only [e, Int.natCast_mul]
  rcases num_cases p with ⟨s, z⟩ | ⟨s, z, z'⟩ | ⟨s, z, z'⟩ <;> rcases num_cases q with ⟨t, y⟩ | ⟨t, y, y'⟩ | ⟨t, y, y'⟩ <;> rw [s, t] at h <;> try (exact absurd h (by decide))
  · rw [s, z, y]; simp
  · rw [s]
    generalize hA : (p.num.natAbs : Int) * (q.den : Int) = A
    generalize hB : (q.num.natAbs : Int) * (p.den : Int) = B
    rw [z', y', Int.neg_mul, Int.neg_mul, hA, hB]
    by_cases h1 : A < B
    · rw [if_neg (by omega), if_pos (by omega), if_pos h1]; decide
    · by_cases h2 : B < A
      · rw [if_pos (by omega), if_neg h1, if_pos h2]; decide
      · rw [if_neg (by omega), if_neg (by omega), if_neg h1, if_neg h2]; decide
  · rw [s]
    generalize hA : (p.num.natAbs : Int) * (q.den : Int) = A
    generalize hB : (q.num.natAbs : Int) * (p.den : Int) = B
    rw [z', y', hA, hB, Int.one_mul]

/-- What Cmp answers to two valid numbers. -/
def cmpQ (p q : Rat) : Int × Int :=
  if sideQ p = sideQ q ∧ sideQ p ≠ 0 ∧ ¬ (p.num.natAbs * q.den < pw 96 ∧ q.num.natAbs * p.den < pw 96) then (0, 30) else (cmpR p q, 0)

def cmpV (x y : QV) : Int × Int := if chkV x = 0 ∧ chkV y = 0 then cmpQ (toQ x) (toQ y) else (0, 8)

/-! ### sum, product, quotient -/

theorem sg_mul (n m : Bool) (a b : Nat) : sg n a * sg m b = sg (n != m) (a * b) := by
  unfold sg
  cases n <;> cases m <;> simp [Int.neg_mul, Int.mul_neg]

theorem sg_scale (n : Bool) (a b : Nat) : sg n a * (b : Int) = sg n (a * b) := by
  unfold sg
  cases n <;> simp [Int.neg_mul]

theorem sg_add (n : Bool) (a b : Nat) : sg n a + sg n b = sg n (a + b) := by
  unfold sg
  cases n <;> simp <;> omega

theorem sg_sub {n m : Bool} (h : n ≠ m) {a b : Nat} (hb : b ≤ a) : sg n a + sg m b = sg n (a - b) := by
  unfold sg
  cases n <;> cases m <;> simp at h ⊢ <;> omega

theorem mul_den_nz (p q : Rat) : p.den * q.den ≠ 0 := Nat.mul_ne_zero p.den_nz q.den_nz

theorem add_mk (p q : Rat) : p + q = mkRat (sg (decide (p.num < 0)) (p.num.natAbs * q.den) + sg (decide (q.num < 0)) (q.num.natAbs * p.den)) (p.den * q.den) := by
  rw [Rat.add_def', ← sg_scale, ← sg_scale, sg_of, sg_of]

theorem add_same {p q : Rat} (h : decide (p.num < 0) = decide (q.num < 0)) : lowV (decide (p.num < 0)) (p.num.natAbs * q.den + q.num.natAbs * p.den) (p.den * q.den) = ofQ (p + q) := by
  rw [lowV_eq _ _ _ (mul_den_nz p q), add_mk, ← h, sg_add]

theorem add_more {p q : Rat} (h : decide (p.num < 0) ≠ decide (q.num < 0)) (hb : q.num.natAbs * p.den ≤ p.num.natAbs * q.den) :
    lowV (decide (p.num < 0)) (p.num.natAbs * q.den - q.num.natAbs * p.den) (p.den * q.den) = ofQ (p + q) := by
  rw [lowV_eq _ _ _ (mul_den_nz p q), add_mk, sg_sub h hb]

theorem add_less {p q : Rat} (h : decide (p.num < 0) ≠ decide (q.num < 0)) (hb : p.num.natAbs * q.den ≤ q.num.natAbs * p.den) :
    lowV (decide (q.num < 0)) (q.num.natAbs * p.den - p.num.natAbs * q.den) (p.den * q.den) = ofQ (p + q) := by
  rw [lowV_eq _ _ _ (mul_den_nz p q), add_mk, Int.add_comm, sg_sub (Ne.symm h) hb]

theorem mul_low (p q : Rat) : lowV (decide (p.num < 0) != decide (q.num < 0)) (p.num.natAbs * q.num.natAbs) (p.den * q.den) = ofQ (p * q) := by
  rw [lowV_eq _ _ _ (mul_den_nz p q), Rat.mul_def', ← sg_mul, sg_of, sg_of]

/-- What Add answers to two valid numbers. -/
def addQ (p q : Rat) : QV × Int :=
  if p.num.natAbs * q.den < pw 96 ∧ q.num.natAbs * p.den < pw 96 ∧ p.den * q.den < pw 96 ∧ (decide (p.num < 0) = decide (q.num < 0) → p.num.natAbs * q.den + q.num.natAbs * p.den < pw 96) then (ofQ (p + q), 0) else (zeroV, 30)

def mulQ (p q : Rat) : QV × Int :=
  if p.num.natAbs * q.num.natAbs < pw 96 ∧ p.den * q.den < pw 96 then (ofQ (p * q), 0) else (zeroV, 30)

def divQ (p q : Rat) : QV × Int := if q = 0 then (zeroV, 40) else mulQ p q⁻¹

def bothV (f : Rat → Rat → QV × Int) (x y : QV) : QV × Int := if chkV x = 0 ∧ chkV y = 0 then f (toQ x) (toQ y) else (zeroV, 8)

def addV : QV → QV → QV × Int := bothV addQ
def subV : QV → QV → QV × Int := bothV fun p q => addQ p (-q)
def mulV : QV → QV → QV × Int := bothV mulQ
def divV : QV → QV → QV × Int := bothV divQ

/-- The fields of a reciprocal. -/
theorem ofQ_inv {q : Rat} (h : q ≠ 0) : ofQ q⁻¹ = ⟨decide (q.num < 0), limbs q.den, limbs q.num.natAbs⟩ := by
  have hn : q.num ≠ 0 := fun e => h (Rat.num_eq_zero.1 e)
  have hd := den_pos' q
  unfold ofQ
  rw [Rat.num_inv, Rat.den_inv, if_neg hn]
  rcases Int.lt_or_gt_of_ne hn with h1 | h1
  · rw [Int.sign_eq_neg_one_of_neg h1, Int.neg_one_mul]
    have hd' : 0 < q.den := by omega
    simp [h1, hd']
  · rw [Int.sign_eq_one_of_pos h1, Int.one_mul]
    have h2 : ¬ (q.num < 0) := by omega
    have h3 : ¬ ((q.den : Int) < 0) := by omega
    simp [h2]

theorem fitQ_inv {q : Rat} (h : q ≠ 0) (hf : fitQ q) : fitQ q⁻¹ := by
  have hn : q.num ≠ 0 := fun e => h (Rat.num_eq_zero.1 e)
  constructor
  · rw [Rat.num_inv, Int.natAbs_mul, Int.natAbs_sign_of_ne_zero hn, Nat.one_mul, Int.natAbs_natCast]
    exact hf.2
  · rw [Rat.den_inv, if_neg hn]
    exact hf.1

theorem fitQ_neg {q : Rat} (hf : fitQ q) : fitQ (-q) := by
  constructor
  · rw [Rat.neg_num, Int.natAbs_neg]
    exact hf.1
  · exact hf.2

theorem ofQ_neg (q : Rat) : ofQ (-q) = ⟨!decide (q.num < 0) && decide (0 < q.num.natAbs), limbs q.num.natAbs, limbs q.den⟩ := by
  unfold ofQ
  rw [Rat.neg_num, Int.natAbs_neg, Rat.neg_den]
  congr 1
  by_cases h : q.num < 0
  · have h2 : ¬ (-q.num < 0) := by omega
    rw [decide_eq_true h, decide_eq_false h2]
    rfl
  · by_cases h0 : q.num = 0
    · simp [h0]
    · have h2 : -q.num < 0 := by omega
      have h3 : 0 < q.num.natAbs := by omega
      rw [decide_eq_true h2, decide_eq_false h, decide_eq_true h3]
      rfl

/-- What Of answers. -/
def ofC (n d : Int) : QV × Int := if d = 0 then (zeroV, 40) else (ofQ ((n : Rat) / (d : Rat)), 0)

theorem of_low {n d : Int} (hd : d ≠ 0) : lowV (decide (n < 0) != decide (d < 0)) n.natAbs d.natAbs = ofQ ((n : Rat) / (d : Rat)) := by
  rw [lowV_eq _ _ _ (by omega), ← Rat.divInt_eq_div]
  congr 1
  rcases Int.lt_or_gt_of_ne hd with h | h
  · have e : (decide (n < 0) != decide (d < 0)) = !decide (n < 0) := by simp [h]
    rw [e]
    have e1 : sg (!decide (n < 0)) n.natAbs = -n ∨ n = 0 := by
      unfold sg
      by_cases h1 : n < 0
      · simp [h1]; omega
      · simp [h1]; omega
    have e2 : d = -(d.natAbs : Int) := by omega
    rw [show Rat.divInt n d = Rat.divInt (-n) (d.natAbs : Int) by
      conv => lhs; rw [e2]
      rw [Rat.divInt_neg']]
    rw [Rat.divInt_ofNat]
    rcases e1 with e1 | e1
    · rw [e1]
    · rw [e1]
      simp [sg]
  · have e : (decide (n < 0) != decide (d < 0)) = decide (n < 0) := by
      have : ¬ d < 0 := by omega
      simp [this]
    rw [e, sg_of]
    have e2 : d = (d.natAbs : Int) := by omega
    conv => rhs; rw [e2]
    rw [Rat.divInt_ofNat]

end Go.Proofs.YtdaajeklnhbhjaaGreatDoor
/- A rational number in the program: what it reads as; Check, one, Lowest. No condition but that the slices read. -/
namespace Go.Proofs.YtdaajeklnhbhjaaGreatDoor
open Go.RowKit Go.Suf
set_option linter.unusedVariables false
set_option linter.unusedSimpArgs false

/-- The value of a rational number. -/
abbrev ratV (neg : Bool) (a : Option Addr) (n c : Nat) (b : Option Addr) (m d : Nat) : Value := .agg #[.bool neg, .slice a n c, .slice b m d]

theorem rat_one (neg : Bool) (a : Option Addr) (n c : Nat) (b : Option Addr) (m d : Nat) : ∀ u ∈ (#[.bool neg, .slice a n c, .slice b m d] : Array Value).toList, u.oneCell' = true := by
  intro u hu
  simp only [List.mem_cons, List.not_mem_nil, or_false] at hu
  rcases hu with rfl | rfl | rfl <;> rfl

theorem atRat : AT Tryz.prog 24 3 := ⟨⟨_, Tryz.underlying24, rfl⟩, by kernel_rfl⟩

theorem rat_cell (w : World) (cs : Array Value) (t : TypeId) (i : Nat) (v : Value) (h : cs[i]? = some v) : (w.alloc (.cells cs t)).cell? ⟨w.heap.size, i, none⟩ = some v := by
  simp only [World.cell?, heap_alloc_new, h]
  rfl

/-- The cells of a block that was laid, in a later world. -/
theorem cell_later {B i : Nat} {w w' : World} {k : Nat} {v : Value} (hb : Below B w w') (h : w.cell? ⟨k, i, none⟩ = some v) (hk : k < B) : w'.cell? ⟨k, i, none⟩ = some v := by
  rw [← h]
  simp only [World.cell?, hb.block k hk]

def RetIB (w : World) (c : Int) : Ending → World → Prop := fun e w' => e = .returned (.int .i64 c) ∧ Below w.heap.size w w'

theorem ratOne_any (w : World) : Calls Tryz.prog 66 #[] w fun e w' => e = .returned (.slice (some ⟨w.heap.size, 0, none⟩) 1 1) ∧ w' = w.alloc (.cells #[.int .u32 1] 49) := by
  go_enter Tryz.func66, Tryz.ntmps66
  go_wp2
  go_ret
  exact ⟨rfl, rfl⟩

theorem both_split {xs ys : List Nat} : bothC xs ys = 0 ↔ chk xs = 0 ∧ chk ys = 0 := by
  unfold bothC
  constructor
  · intro h
    split at h
    · exact ⟨by assumption, h⟩
    · rename_i h'
      exact absurd h h'
  · rintro ⟨h1, h2⟩
    rw [if_pos h1, h2]

theorem chk_cases (xs : List Nat) : chk xs = 0 ∨ ((chk xs == 0) = false) := by
  by_cases h : chk xs = 0
  · exact .inl h
  · exact .inr (by rw [beq_eq_false_iff_ne]; exact h)

/-- What holds in the world in which a rational number was boxed. -/
structure Box (w w1 : World) (neg : Bool) (a : Option Addr) (n c : Nat) (b : Option Addr) (m d : Nat) (k : Nat) : Prop where
  below : Below w.heap.size w w1
  at0 : w1.cell? ⟨k, 0, none⟩ = some (.bool neg)
  at1 : w1.cell? ⟨k, 1, none⟩ = some (.slice a n c)
  at2 : w1.cell? ⟨k, 2, none⟩ = some (.slice b m d)
  lt : k < w1.heap.size

theorem Box.new (w : World) (neg : Bool) (a : Option Addr) (n c : Nat) (b : Option Addr) (m d : Nat) :
    Box w (w.alloc (.cells #[.bool neg, .slice a n c, .slice b m d] 24)) neg a n c b m d w.heap.size :=
  ⟨(Below.refl _ _).alloc (Nat.le_refl _) _, rat_cell w _ _ 0 _ rfl, rat_cell w _ _ 1 _ rfl, rat_cell w _ _ 2 _ rfl, by rw [World.size_alloc]; omega⟩

theorem Box.later {w w1 w2 : World} {neg : Bool} {a : Option Addr} {n c : Nat} {b : Option Addr} {m d k : Nat} (h : Box w w1 neg a n c b m d k) (hb : Below w1.heap.size w1 w2) : Box w w2 neg a n c b m d k :=
  ⟨h.below.trans (hb.mono h.below.size), cell_later hb h.at0 h.lt, cell_later hb h.at1 h.lt, cell_later hb h.at2 h.lt, Nat.lt_of_lt_of_le h.lt hb.size⟩

theorem chkV_no {x : QV} (h : ¬ (bothC x.num x.den = 0 ∧ x.den.length ≠ 0 ∧ ¬ (x.neg = true ∧ x.num.length = 0) ∧ Nat.gcd (val x.num) (val x.den) = 1)) : chkV x = 8 := by
  unfold chkV
  rw [if_neg h]

theorem chkV_yes {x : QV} (h : bothC x.num x.den = 0 ∧ x.den.length ≠ 0 ∧ ¬ (x.neg = true ∧ x.num.length = 0) ∧ Nat.gcd (val x.num) (val x.den) = 1) : chkV x = 0 := by
  unfold chkV
  rw [if_pos h]

theorem limbs_one : limbs 1 = [1] := by
  rw [limbs_pos (by decide)]
  simp [limbs_zero]

theorem lit_one (w : World) : Rd .u32 (w.alloc (.cells #[.int .u32 1] 49)) (some ⟨w.heap.size, 0, none⟩) 1 1 (limbs 1) := by
  rw [limbs_one]
  exact rd_lit .u32 w [1] 49 1 rfl (by decide) (by intro y hy; simp at hy; subst hy; decide)

set_option maxHeartbeats 1000000 in
theorem ratCheck_any (w : World) {neg : Bool} {a b : Option Addr} {n m c d : Nat} {xs ys : List Nat} (h : Rd .u32 w a n c xs) (h' : Rd .u32 w b m d ys) :
    Calls Tryz.prog 21 #[ratV neg a n c b m d] w (RetIB w (chkV ⟨neg, xs, ys⟩)) := by
  have B0 := Box.new w neg a n c b m d
  have hn := h.len
  have hm := h'.len
  obtain ⟨r, hr⟩ : ∃ r, r = chkV ⟨neg, xs, ys⟩ := ⟨_, rfl⟩
  rw [← hr]
  have HR := Lib.hid hr
  have r1 := h.below B0.below
  have r2 := h'.below B0.below
  obtain ⟨w1, hw1⟩ : ∃ w1, w1 = w.alloc (.cells #[.bool neg, .slice a n c, .slice b m d] 24) := ⟨_, rfl⟩
  have c0 := B0.at0
  have c1 := B0.at1
  have c2 := B0.at2
  by_cases h1 : chk xs = 0
  case neg =>
    have hk : (chk xs != 0) = true := by rw [bne_iff_ne]; exact h1
    have e := Lib.hid (show r = 8 by rw [hr]; exact chkV_no (fun hh => h1 (both_split.1 hh.1).1))
    obtain ⟨k, hkk⟩ : ∃ k, k = chk xs := ⟨_, rfl⟩
    rw [← hkk] at hk
    clear h1 hr
    go_enter Tryz.func21, Tryz.ntmps21
    go_wp2_with fail
    have cc := Check_any _ r1
    rw [← hkk] at cc
    refine cc.mono ?_
    rintro e1 w2 ⟨rfl, rfl⟩
    clear cc hkk
    go_wp2_with fail
    go_ret
    exact ⟨by rw [e.out]; rfl, B0.below⟩
  case pos =>
  by_cases h2 : chk ys = 0
  case neg =>
    have hk : (chk ys != 0) = true := by rw [bne_iff_ne]; exact h2
    have e := Lib.hid (show r = 8 by rw [hr]; exact chkV_no (fun hh => h2 (both_split.1 hh.1).2))
    obtain ⟨k, hkk⟩ : ∃ k, k = chk ys := ⟨_, rfl⟩
    rw [← hkk] at hk
    have H1 := Lib.hid h1
    clear h1 h2 hr
    go_enter Tryz.func21, Tryz.ntmps21
    go_wp2_with fail
    have cc := Check_any _ r1
    rw [H1.out] at cc
    refine cc.mono ?_
    rintro e1 w2 ⟨rfl, rfl⟩
    clear cc
    go_wp2_with fail
    have cc := Check_any _ r2
    rw [← hkk] at cc
    refine cc.mono ?_
    rintro e1 w2 ⟨rfl, rfl⟩
    clear cc hkk
    go_wp2_with fail
    go_ret
    exact ⟨by rw [e.out]; rfl, B0.below⟩
  case pos =>
  have H1 := Lib.hid h1
  have H2 := Lib.hid h2
  have hbad : (m = 0 ∨ (neg = true ∧ n = 0)) ∨ (m ≠ 0 ∧ ¬ (neg = true ∧ n = 0)) := by
    by_cases e1 : m = 0
    · exact .inl (.inl e1)
    · by_cases e2 : neg = true ∧ n = 0
      · exact .inl (.inr e2)
      · exact .inr ⟨e1, e2⟩
  rcases hbad with hbad | ⟨g1, g2⟩
  · have e := Lib.hid (show r = 8 by
      rw [hr]
      refine chkV_no (fun hh => ?_)
      rcases hbad with e1 | e1
      · exact hh.2.1 (hm.trans e1)
      · exact hh.2.2.1 ⟨e1.1, hn.trans e1.2⟩)
    clear h1 h2 hr
    have hcase : m = 0 ∨ (m ≠ 0 ∧ neg = true ∧ n = 0) := by
      by_cases e1 : m = 0
      · exact .inl e1
      · rcases hbad with e2 | e2
        · exact absurd e2 e1
        · exact .inr ⟨e1, e2⟩
    clear hbad
    rcases hcase with rfl | ⟨e1, rfl, rfl⟩
    · go_enter Tryz.func21, Tryz.ntmps21
      go_wp2_with fail
      have cc := Check_any _ r1
      rw [H1.out] at cc
      refine cc.mono ?_
      rintro e1 w2 ⟨rfl, rfl⟩
      clear cc
      go_wp2_with fail
      have cc := Check_any _ r2
      rw [H2.out] at cc
      refine cc.mono ?_
      rintro e1 w2 ⟨rfl, rfl⟩
      clear cc
      go_wp2_with fail
      go_ret
      exact ⟨by rw [e.out]; rfl, B0.below⟩
    · have hm0 : ((m : Int) == 0) = false := by rw [beq_eq_false_iff_ne]; omega
      go_enter Tryz.func21, Tryz.ntmps21
      go_wp2_with fail
      have cc := Check_any _ r1
      rw [H1.out] at cc
      refine cc.mono ?_
      rintro e1 w2 ⟨rfl, rfl⟩
      clear cc
      go_wp2_with fail
      have cc := Check_any _ r2
      rw [H2.out] at cc
      refine cc.mono ?_
      rintro e1 w2 ⟨rfl, rfl⟩
      clear cc
      go_wp2_with fail
      go_ret
      exact ⟨by rw [e.out]; rfl, B0.below⟩
  · have hb := Lib.hid (both_split.2 ⟨h1, h2⟩)
    have hm0 : ((m : Int) == 0) = false := by rw [beq_eq_false_iff_ne]; omega
    obtain ⟨g, hg⟩ : ∃ g, g = Nat.gcd (val xs) (val ys) := ⟨_, rfl⟩
    have HG := Lib.hid hg
    have hres := Lib.hid (show r = if g = 1 then 0 else 8 by
      rw [hr]
      by_cases e1 : g = 1
      · rw [if_pos e1]
        exact chkV_yes ⟨both_split.2 ⟨h1, h2⟩, by rw [hm]; exact g1, by rw [hn]; exact g2, by rw [← hg]; exact e1⟩
      · rw [if_neg e1]
        exact chkV_no (fun hh => e1 (by rw [hg]; exact hh.2.2.2)))
    have g3 : neg = false ∨ (neg = true ∧ ((n : Int) == 0) = false) := by
      cases neg
      · exact .inl rfl
      · right
        refine ⟨rfl, ?_⟩
        rw [beq_eq_false_iff_ne]
        intro e
        exact g2 ⟨rfl, by omega⟩
    clear h1 h2 hr hg g1 g2
    rcases g3 with rfl | ⟨rfl, hn0⟩
    all_goals
      go_enter Tryz.func21, Tryz.ntmps21
      go_wp2_with fail
      have cc := Check_any _ r1
      rw [H1.out] at cc
      refine cc.mono ?_
      rintro e1 w2 ⟨rfl, rfl⟩
      clear cc
      go_wp2_with fail
      have cc := Check_any _ r2
      rw [H2.out] at cc
      refine cc.mono ?_
      rintro e1 w2 ⟨rfl, rfl⟩
      clear cc
      go_wp2_with fail
      have cc := Gcd_any _ r1 r2
      rw [gcdC, if_pos hb.out, ← HG.out] at cc
      refine cc.mono ?_
      rintro e1 w2 ⟨ag, ng, cg, rfl, hg, hbg⟩
      clear cc
      have B2 := B0.later hbg
      go_wp2_with fail
      refine (ratOne_any _).mono ?_
      rintro e1 w3 ⟨rfl, rfl⟩
      have hbo : Below w2.heap.size w2 (w2.alloc (.cells #[.int .u32 1] 49)) := (Below.refl _ _).alloc (Nat.le_refl _) _
      have B3 := B2.later hbo
      have hg3 := hg.below hbo
      have ho3 := lit_one w2
      by_cases e1 : g = 1
      · have hs := Lib.hid (show r = 0 by rw [hres.out, if_pos e1])
        have hs2 := Lib.hid (show sameN (limbs g) (limbs 1) = true by rw [e1, same_self])
        clear e1
        go_wp2_with fail
        have cc := Same_any _ hg3 ho3
        rw [hs2.out] at cc
        refine cc.mono ?_
        rintro e1 w4 ⟨rfl, nq, rfl⟩
        clear cc
        go_wp2_with fail
        go_ret
        exact ⟨by rw [hs.out]; rfl, B3.below.trans ((below_drewN (Below.refl _ _) nq).mono B3.below.size)⟩
      · have hs := Lib.hid (show r = 8 by rw [hres.out, if_neg e1])
        have hs2 := Lib.hid (show sameN (limbs g) (limbs 1) = false by rw [same_ok]; exact decide_eq_false e1)
        clear e1
        go_wp2_with fail
        have cc := Same_any _ hg3 ho3
        rw [hs2.out] at cc
        refine cc.mono ?_
        rintro e1 w4 ⟨rfl, nq, rfl⟩
        clear cc
        go_wp2_with fail
        go_ret
        exact ⟨by rw [hs.out]; rfl, B3.below.trans ((below_drewN (Below.refl _ _) nq).mono B3.below.size)⟩

end Go.Proofs.YtdaajeklnhbhjaaGreatDoor
/- Lowest terms in the program and in its answer; a result that lies in a block of its own. -/
namespace Go.Proofs.YtdaajeklnhbhjaaGreatDoor
open Go.RowKit Go.Suf
set_option linter.unusedVariables false
set_option linter.unusedSimpArgs false

/-- The block k, laid since w, holds the cells cs. -/
structure Row (w w1 : World) (k : Nat) (cs : Array Value) : Prop where
  below : Below w.heap.size w w1
  row : w1.heap[k]? = some (.cells cs 24 (0, 0))
  lo : w.heap.size ≤ k
  lt : k < w1.heap.size

theorem Row.new (w : World) (cs : Array Value) : Row w (w.alloc (.cells cs 24)) w.heap.size cs :=
  ⟨(Below.refl _ _).alloc (Nat.le_refl _) _, heap_alloc_new w _, Nat.le_refl _, by rw [World.size_alloc]; omega⟩

theorem Row.later {w w1 w2 : World} {k : Nat} {cs : Array Value} (h : Row w w1 k cs) (hb : Below w1.heap.size w1 w2) : Row w w2 k cs :=
  ⟨h.below.trans (hb.mono h.below.size), by rw [hb.block k h.lt]; exact h.row, h.lo, Nat.lt_of_lt_of_le h.lt hb.size⟩

theorem below_row {B g : Nat} {w0 w : World} (hb : Below B w0 w) (hBg : B ≤ g) (cs : Array Value) : Below B w0 (w.setRow g cs) :=
  ⟨hb.os, hb.tape, hb.output, by rw [setRow_size]; exact hb.size, fun k hk => by rw [setRow_other _ _ _ _ (by omega)]; exact hb.block k hk⟩

/-- What reads as numbers lies in no block of a rational number. -/
theorem rd_rowset {w : World} {a : Option Addr} {n c k : Nat} {xs : List Nat} (h : Rd .u32 w a n c xs) {cs : Array Value} {t : TypeId} {f : Nat × Nat} (hr : w.heap[k]? = some (.cells cs t f)) (hno : ∀ (i : Nat) (z : Int), cs[i]? ≠ some (.int .u32 z)) (cs' : Array Value) :
    Rd .u32 (w.setRow k cs') a n c xs := by
  refine ⟨h.len, ⟨h.sl.le, h.sl.max, h.sl.nil, fun i v hv => ?_, h.sl.one⟩, h.bd⟩
  obtain ⟨b, off, e, hw⟩ := h.sl.cell i v hv
  refine ⟨b, off, e, ?_⟩
  by_cases hk : b = k
  · exfalso
    subst hk
    have hi : i < n := by
      have := h.len
      have h2 : i < (nums .u32 xs).length := by
        rcases Nat.lt_or_ge i (nums .u32 xs).length with h3 | h3
        · exact h3
        · rw [List.getElem?_eq_none h3] at hv
          simp at hv
      simp [nums] at h2
      omega
    obtain ⟨b', off', e', hw', _⟩ := h.cell i hi
    rw [e] at e'
    obtain ⟨rfl, rfl⟩ : b = b' ∧ off = off' := by
      injection e' with e'
      injection e' with e1 e2
      exact ⟨e1, e2⟩
    simp only [World.cell?, hr] at hw'
    exact hno _ _ hw'
  · rw [← hw]
    simp only [World.cell?, setRow_other _ _ _ _ hk]

theorem rat_noint (g : Bool) (a : Option Addr) (n c : Nat) (b : Option Addr) (m d : Nat) : ∀ (i : Nat) (z : Int), (#[.bool g, .slice a n c, .slice b m d] : Array Value)[i]? ≠ some (.int .u32 z) := by
  intro i z
  rcases i with _ | _ | _ | i <;> simp

/-- A rational number that is returned, and one with an error. -/
def RetQ (w : World) (x : QV) : Ending → World → Prop := fun e w' =>
  ∃ a n c b m d, e = .returned (ratV x.neg a n c b m d) ∧ Rd .u32 w' a n c x.num ∧ Rd .u32 w' b m d x.den ∧ Below w.heap.size w w'

def RetQE (w : World) (r : QV × Int) : Ending → World → Prop := fun e w' =>
  ∃ a n c b m d, e = .returned (.tuple #[ratV r.1.neg a n c b m d, .int .i64 r.2]) ∧ Rd .u32 w' a n c r.1.num ∧ Rd .u32 w' b m d r.1.den ∧ Below w.heap.size w w'

theorem gcd_lt {A B i : Nat} (hA : A < pw i) (hB : B < pw i) (h : B ≠ 0) : Nat.gcd A B < pw i := Nat.lt_of_le_of_lt (Nat.gcd_le_right A (by omega)) hB

set_option maxHeartbeats 1000000 in
theorem lowest_any (w : World) (neg : Bool) {a b : Option Addr} {n m c d : Nat} {N D : Nat} (h : Rd .u32 w a n c (limbs N)) (h' : Rd .u32 w b m d (limbs D)) (hN : N < pw 96) (hD : D < pw 96) (hz : D ≠ 0) :
    Calls Tryz.prog 42 #[.bool neg, .slice a n c, .slice b m d] w (RetQ w (lowV neg N D)) := by
  obtain ⟨g, hg⟩ : ∃ g, g = N.gcd D := ⟨_, rfl⟩
  have hgp : 0 < g := by rw [hg]; exact Nat.gcd_pos_of_pos_right _ (by omega)
  have hgl : g < pw 96 := by rw [hg]; exact gcd_lt hN hD hz
  obtain ⟨r, hr⟩ : ∃ r, r = lowV neg N D := ⟨_, rfl⟩
  rw [← hr]
  have HR := Lib.hid (show r = ⟨neg && decide (0 < N / g), limbs (N / g), limbs (D / g)⟩ by rw [hr, hg]; rfl)
  have HG := Lib.hid hg
  have R0 := Row.new w #[.bool false, .slice none 0 0, .slice none 0 0]
  have r1 := h.below R0.below
  have r2 := h'.below R0.below
  have HZ := Lib.hid hz
  clear hr hg hz
  go_enter Tryz.func42, Tryz.ntmps42
  go_wp2_with fail
  have cc := Gcd_any _ r1 r2
  rw [gcd_ok hN hD, ← HG.out] at cc
  refine cc.mono ?_
  rintro e1 w1 ⟨ag, ng, cg, rfl, hg, hb⟩
  clear cc
  have R1 := R0.later hb
  have r1 := r1.below hb
  have r2 := r2.below hb
  go_wp2_with fail
  have cc := Div_any _ r1 hg
  rw [div_ok hN hgl hgp] at cc
  refine cc.mono ?_
  rintro e1 w2 ⟨a1, n1, c1, a2, n2, c2, rfl, hq, _, hb⟩
  clear cc
  have R2 := R1.later hb
  have r2 := r2.below hb
  have hg := hg.below hb
  go_wp2_with fail
  have cc := Div_any _ r2 hg
  rw [div_ok hD hgl hgp] at cc
  refine cc.mono ?_
  rintro e1 w3 ⟨a3, n3, c3, a4, n4, c4, rfl, hp, _, hb⟩
  clear cc
  have R3 := R2.later hb
  have hq := hq.below hb
  have hlen := hq.len
  have hn1 : decide ((0 : Int) < (n1 : Int)) = decide (0 < N / g) := by
    rw [decide_eq_decide, ← hlen]
    generalize N / g = q
    have := @limbs_len_zero q
    omega
  obtain ⟨x, hx⟩ : ∃ x, x = (neg && decide (0 < N / g)) := ⟨_, rfl⟩
  have hx1 : (neg && decide ((0 : Int) < (n1 : Int))) = x := by rw [hn1, hx]
  have hx2 : neg = false → x = false := by rintro rfl; rw [hx]; rfl
  have hx3 : neg = true → decide ((0 : Int) < (n1 : Int)) = x := by rintro rfl; rw [hn1, hx]; rfl
  have HX := Lib.hid hx
  have HN := Lib.hid (show decide (0 < n1) = decide (0 < N / g) by rw [← hn1, decide_eq_decide]; omega)
  clear hx hn1 hlen
  have HB := Lib.hid (fun cs => below_row R3.below R3.lo cs)
  have row := R3.row
  have fin := Lib.hid (fun cs => (⟨rd_rowset hq row (rat_noint _ _ _ _ _ _ _) cs, rd_rowset hp row (rat_noint _ _ _ _ _ _ _) cs⟩ : _ ∧ _))
  cases neg
  · obtain rfl := hx2 rfl
    clear hx1 hx2 hx3
    go_wp2_with (refine wpList_store_whole rfl 24 _ _ rfl atRat _ _ _ row rfl rfl rfl rfl (rat_one _ _ _ _ _ _ _) ?_)
    refine bodyPost_ret (results_cell_row rfl _ _ _ _ _ _ _ rfl (setRow_heap _ _ _ _ _ _ row) Tryz.underlying24 rfl (by kernel_rfl)) rfl ?_
    refine ⟨a1, n1, c1, a3, n3, c3, by rw [HR.out]; rfl, ?_, ?_, HB.out _⟩
    · rw [HR.out]; exact (fin.out _).1
    · rw [HR.out]; exact (fin.out _).2
  · have hx3 := hx3 rfl
    clear hx1 hx2
    go_wp2_with (refine wpList_store_whole rfl 24 _ _ rfl atRat _ _ _ row rfl rfl rfl rfl (rat_one _ _ _ _ _ _ _) ?_)
    refine bodyPost_ret (results_cell_row rfl _ _ _ _ _ _ _ rfl (setRow_heap _ _ _ _ _ _ row) Tryz.underlying24 rfl (by kernel_rfl)) rfl ?_
    refine ⟨a1, n1, c1, a3, n3, c3, by
      rw [HR.out]
      show Ending.returned (.agg #[.bool (decide (0 < n1)), _, _]) = .returned (.agg #[.bool (true && decide (0 < N / g)), _, _])
      rw [HN.out, Bool.true_and], ?_, ?_, HB.out _⟩
    · rw [HR.out]; exact (fin.out _).1
    · rw [HR.out]; exact (fin.out _).2

end Go.Proofs.YtdaajeklnhbhjaaGreatDoor
