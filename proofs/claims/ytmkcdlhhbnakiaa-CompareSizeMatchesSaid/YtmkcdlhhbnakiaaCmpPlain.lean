/- Comparison audits on plain numbers and lists. No program in sight. -/
import Derived.Test.YtmkcdlhhbnakiaaPolPlain
import Derived.Test.YtmkcdlhhbnakiaaPolF
namespace Go.Proofs.Ytmkcdlhhbnakiaa
open Go.RowKit Go.Suf
set_option linter.unusedVariables false
set_option linter.unusedSimpArgs false

/-! Short names for the walk's rules. -/
theorem tA {α : Type} {l : List α} {i : Nat} : l.toArray[i]? = l[i]? := List.getElem?_toArray
theorem tS {α : Type} {a : α} {l : List α} {i : Nat} : (a :: l)[i + 1]? = l[i]? := List.getElem?_cons_succ
theorem tZ {α : Type} {a : α} {l : List α} : (a :: l)[0]? = some a := List.getElem?_cons_zero
theorem tI {α : Type} {l : List α} {i : Nat} {a : α} : l.toArray.setIfInBounds i a = (l.set i a).toArray := List.setIfInBounds_toArray l i a
theorem tP {α : Type} {x : α} {xs : List α} {a : α} : (x :: xs).set 0 a = a :: xs := List.set_cons_zero
theorem tQ {α : Type} {x : α} {xs : List α} {n : Nat} {a : α} : (x :: xs).set (n + 1) a = x :: xs.set n a := List.set_cons_succ

/-- A state of a comparison audit. -/
structure CV where
  bet : Int
  ballots : Int
  margin : Int
  s0 : Int
  s1 : Int
  s2 : Int
  s3 : Int
  s4 : Int
  lev : List Nat
  best : List Nat

def zeroCV : CV := ⟨0, 0, 0, 0, 0, 0, 0, 0, [], []⟩

def mayC (bet ballots margin : Int) : Prop := (1 ≤ bet ∧ bet ≤ 999) ∧ (1 ≤ ballots ∧ ballots ≤ 1000000) ∧ 1 ≤ margin ∧ margin ≤ ballots
instance (a b c : Int) : Decidable (mayC a b c) := by unfold mayC; infer_instance

def seenOkC (c : CV) : Bool := decide (inS c.s0 ∧ inS c.s1 ∧ inS c.s2 ∧ inS c.s3 ∧ inS c.s4)

def chkC (c : CV) : Int :=
  if mayC c.bet c.ballots c.margin ∧ seenOkC c = true ∧ leC c.lev c.best = true ∧ leC [0, 0, 1] c.best = true ∧ leC c.best [0, 0, 0, 0, 1] = true then 0 else 8

theorem chkC_two (c : CV) : chkC c = 0 ∨ chkC c = 8 := by
  unfold chkC
  split
  · exact .inl rfl
  · exact .inr rfl

def newCC (bet ballots margin : Int) : CV × Int := if mayC bet ballots margin then (⟨bet, ballots, margin, 0, 0, 0, 0, 0, [0, 0, 1], [0, 0, 1]⟩, 0) else (zeroCV, 2)

def overC (machine hand : Int) : Int × Int := if (0 ≤ machine ∧ machine ≤ 2) ∧ 0 ≤ hand ∧ hand ≤ 2 then (machine - hand, 0) else (0, 2)

/-- The image of a valid state. -/
structure VldC (c : CV) (L B : Nat) : Prop where
  may : mayC c.bet c.ballots c.margin
  s0 : inS c.s0
  s1 : inS c.s1
  s2 : inS c.s2
  s3 : inS c.s3
  s4 : inS c.s4
  lev : c.lev = limbs L
  best : c.best = limbs B
  le : L ≤ B
  lo : oneN ≤ B
  hi : B ≤ mostN

theorem chkC_get {c : CV} (h1 : small32 c.lev) (h2 : small32 c.best) (h : chkC c = 0) : ∃ L B, VldC c L B := by
  unfold chkC at h
  split at h
  case isFalse => simp at h
  case isTrue hh =>
    obtain ⟨hb, hs, e1, e2, e3⟩ := hh
    obtain ⟨A, B, f1, f2, f3, f4, f5⟩ := leC_get h1 h2 e1
    rw [f2, ← one_limbs, leC_ok one_pw f5, decide_eq_true_eq] at e2
    rw [f2, ← most_limbs, leC_ok f5 most_pw, decide_eq_true_eq] at e3
    unfold seenOkC at hs
    rw [decide_eq_true_eq] at hs
    exact ⟨A, B, hb, hs.1, hs.2.1, hs.2.2.1, hs.2.2.2.1, hs.2.2.2.2, f1, f2, f3, e2, e3⟩

theorem VldC.pw {c : CV} {L B : Nat} (h : VldC c L B) : L < pw 96 ∧ B < pw 96 := by
  have := h.le
  have := h.hi
  have := most_pw
  omega

theorem VldC.chk {c : CV} {L B : Nat} (h : VldC c L B) : chkC c = 0 := by
  unfold chkC
  have := h.pw
  rw [if_pos]
  refine ⟨h.may, by unfold seenOkC; exact decide_eq_true ⟨h.s0, h.s1, h.s2, h.s3, h.s4⟩, ?_, ?_, ?_⟩
  · rw [h.lev, h.best, leC_ok this.1 this.2]; exact decide_eq_true h.le
  · rw [h.best, ← one_limbs, leC_ok one_pw this.2]; exact decide_eq_true h.lo
  · rw [h.best, ← most_limbs, leC_ok this.2 most_pw]; exact decide_eq_true h.hi

/-- The factor of an overstatement x, over 2000 times the ballots. -/
def factZ (c : CV) (x : Int) : Int := 2000 * c.ballots + c.bet * (c.margin - x * c.ballots)
def factC (c : CV) (x : Int) : Nat := (factZ c x).toNat
def wholeC (c : CV) : Nat := (2000 * c.ballots).toNat

/-- The factor lies in range. -/
theorem fact_range {c : CV} (h : mayC c.bet c.ballots c.margin) {x : Int} (h1 : -2 ≤ x) (h2 : x ≤ 2) : 0 < factZ c x ∧ factZ c x ≤ 5000000000 ∧ -2000000000 ≤ c.bet * (c.margin - x * c.ballots) ∧ c.bet * (c.margin - x * c.ballots) ≤ 3000000000 ∧ -2000000 ≤ x * c.ballots ∧ x * c.ballots ≤ 2000000 ∧ -2000000 ≤ c.margin - x * c.ballots ∧ c.margin - x * c.ballots ≤ 3000000 := by
  obtain ⟨⟨b1, b2⟩, ⟨n1, n2⟩, m1, m2⟩ := h
  unfold factZ
  generalize c.bet = b at *
  generalize c.ballots = n at *
  generalize c.margin = m at *
  have hx : x = -2 ∨ x = -1 ∨ x = 0 ∨ x = 1 ∨ x = 2 := by omega
  have key : ∀ y : Int, -(2 * n) < y → y ≤ 3 * n → 0 < 2000 * n + b * y ∧ 2000 * n + b * y ≤ 5000000000 ∧ -2000000000 ≤ b * y ∧ b * y ≤ 3000000000 := by
    intro y y1 y2
    have k1 : b * y ≤ b * (3 * n) := Int.mul_le_mul_of_nonneg_left y2 (by omega)
    have k2 : b * (-(2 * n)) ≤ b * y := Int.mul_le_mul_of_nonneg_left (by omega) (by omega)
    have k3 : b * (3 * n) ≤ 999 * (3 * n) := Int.mul_le_mul_of_nonneg_right b2 (by omega)
    have k4 : b * (2 * n) ≤ 999 * (2 * n) := Int.mul_le_mul_of_nonneg_right b2 (by omega)
    have k5 : b * (-(2 * n)) = -(b * (2 * n)) := Int.mul_neg _ _
    omega
  rcases hx with rfl | rfl | rfl | rfl | rfl
  · have := key (m - -2 * n) (by omega) (by omega); omega
  · have := key (m - -1 * n) (by omega) (by omega); omega
  · have := key (m - 0 * n) (by omega) (by omega); omega
  · have := key (m - 1 * n) (by omega) (by omega); omega
  · have := key (m - 2 * n) (by omega) (by omega); omega

def seenAtC (c : CV) (x : Int) : Int := if x = -2 then c.s0 else if x = -1 then c.s1 else if x = 0 then c.s2 else if x = 1 then c.s3 else c.s4

/-- The counts behind an observation. -/
def bumpC (c : CV) (x : Int) : CV := ⟨c.bet, c.ballots, c.margin, if x = -2 then c.s0 + 1 else c.s0, if x = -1 then c.s1 + 1 else c.s1, if x = 0 then c.s2 + 1 else c.s2, if x = 1 then c.s3 + 1 else c.s3, if x = 2 then c.s4 + 1 else c.s4, c.lev, c.best⟩

/-- The level behind an observation. -/
def nextC (c : CV) (L : Nat) (x : Int) : Nat := timesN L (factC c x) (wholeC c)

def stepC (c : CV) (x : Int) : CV :=
  ⟨c.bet, c.ballots, c.margin, if x = -2 then c.s0 + 1 else c.s0, if x = -1 then c.s1 + 1 else c.s1, if x = 0 then c.s2 + 1 else c.s2, if x = 1 then c.s3 + 1 else c.s3, if x = 2 then c.s4 + 1 else c.s4,
    limbs (nextC c (val c.lev) x), limbs (max (val c.best) (nextC c (val c.lev) x))⟩

def obs1C (c : CV) (x : Int) : Option CV := if x < -2 ∨ 2 < x ∨ 1000000 ≤ seenAtC c x then none else some (stepC c x)

def obsNC (c : CV) : List Int → Option CV
  | [] => some c
  | v :: vs => (obs1C c v).bind fun q => obsNC q vs

theorem obsNC_append (c : CV) (xs ys : List Int) : obsNC c (xs ++ ys) = (obsNC c xs).bind fun q => obsNC q ys := by
  induction xs generalizing c with
  | nil => rfl
  | cons x xs ih =>
    show (obs1C c x).bind (fun q => obsNC q (xs ++ ys)) = ((obs1C c x).bind fun q => obsNC q xs).bind fun q => obsNC q ys
    cases obs1C c x with
    | none => rfl
    | some q => exact ih q

def obsCC (c : CV) (vs : List Int) : CV × Int := if chkC c = 0 then (match obsNC c vs with | none => (zeroCV, 2) | some q => (q, 0)) else (zeroCV, 8)

theorem stepC_vld {c : CV} {L B : Nat} (h : VldC c L B) {x : Int} (h1 : -2 ≤ x) (h2 : x ≤ 2) (h3 : seenAtC c x < 1000000) : VldC (stepC c x) (nextC c L x) (max B (nextC c L x)) := by
  have s0 := h.s0
  have s1 := h.s1
  have s2 := h.s2
  have s3 := h.s3
  have s4 := h.s4
  unfold inS at s0 s1 s2 s3 s4
  unfold seenAtC at h3
  have hx : x = -2 ∨ x = -1 ∨ x = 0 ∨ x = 1 ∨ x = 2 := by omega
  have hm : nextC c L x ≤ mostN := Nat.min_le_right _ _
  refine ⟨h.may, ?_, ?_, ?_, ?_, ?_, ?_, ?_, Nat.le_max_right _ _, Nat.le_trans h.lo (Nat.le_max_left _ _), Nat.max_le.2 ⟨h.hi, hm⟩⟩
  · show inS (if x = -2 then c.s0 + 1 else c.s0)
    unfold inS
    rcases hx with rfl | rfl | rfl | rfl | rfl <;> simp at h3 ⊢ <;> omega
  · show inS (if x = -1 then c.s1 + 1 else c.s1)
    unfold inS
    rcases hx with rfl | rfl | rfl | rfl | rfl <;> simp at h3 ⊢ <;> omega
  · show inS (if x = 0 then c.s2 + 1 else c.s2)
    unfold inS
    rcases hx with rfl | rfl | rfl | rfl | rfl <;> simp at h3 ⊢ <;> omega
  · show inS (if x = 1 then c.s3 + 1 else c.s3)
    unfold inS
    rcases hx with rfl | rfl | rfl | rfl | rfl <;> simp at h3 ⊢ <;> omega
  · show inS (if x = 2 then c.s4 + 1 else c.s4)
    unfold inS
    rcases hx with rfl | rfl | rfl | rfl | rfl <;> simp at h3 ⊢ <;> omega
  · show limbs (nextC c (val c.lev) x) = _
    rw [h.lev, val_limbs]
  · show limbs (max (val c.best) (nextC c (val c.lev) x)) = _
    rw [h.lev, h.best, val_limbs, val_limbs]

theorem obs1C_vld {c q : CV} {L B : Nat} (h : VldC c L B) {x : Int} (ho : obs1C c x = some q) : ∃ L' B', VldC q L' B' ∧ B ≤ B' := by
  unfold obs1C at ho
  split at ho
  · simp at ho
  · injection ho with ho
    rw [← ho]
    exact ⟨_, _, stepC_vld h (by omega) (by omega) (by omega), Nat.le_max_left _ _⟩

def confCC (c : CV) (x : QV) : Bool × Int := if chkC c = 0 then (if limC x = 0 then (sureC c.best x.num x.den, 0) else (false, limC x)) else (false, 8)

/-- The level after n observations of 0. -/
def levC (c : CV) : Nat → Nat
  | 0 => oneN
  | n + 1 => nextC c (levC c n) 0

def seekC (c : CV) (num den : Nat) : Nat → Nat → Int × Int
  | 0, _ => (0, 6)
  | f + 1, k => if sureN (levC c k) num den = true then ((k : Int), 0) else seekC c num den f (k + 1)

def sizeCC (bet ballots margin : Int) (x : QV) : Int × Int :=
  if mayC bet ballots margin then (if limC x = 0 then seekC ⟨bet, ballots, margin, 0, 0, 0, 0, 0, [0, 0, 1], [0, 0, 1]⟩ (val x.num) (val x.den) 4097 0 else (0, limC x)) else (0, 2)

def riskCC (c : CV) : QV × Int := if chkC c = 0 then (lowV false oneN (val c.best), 0) else (zeroV, 8)

def sameCV (p q : CV) : Bool := decide (p.bet = q.bet) && decide (p.ballots = q.ballots) && decide (p.margin = q.margin) && decide (p.s0 = q.s0 ∧ p.s1 = q.s1 ∧ p.s2 = q.s2 ∧ p.s3 = q.s3 ∧ p.s4 = q.s4) && sameN p.lev q.lev && sameN p.best q.best
theorem sameCV_self (p : CV) : sameCV p p = true := by unfold sameCV; simp [same_self]

def greatC (c : CV) : Bool := decide (40 < c.lev.length ∨ 40 < c.best.length)

theorem levC_le (c : CV) (n : Nat) : levC c n ≤ mostN := by
  cases n with
  | zero => show oneN ≤ mostN; decide
  | succ n => exact Nat.min_le_right _ _

theorem fact_whole {c : CV} (h : mayC c.bet c.ballots c.margin) : wholeC c ≤ factC c 0 ∧ 0 < wholeC c := by
  obtain ⟨⟨b1, b2⟩, ⟨n1, n2⟩, m1, m2⟩ := h
  unfold wholeC factC factZ
  have : 0 ≤ c.bet * c.margin := Int.mul_nonneg (by omega) (by omega)
  rw [Int.zero_mul, Int.sub_zero]
  omega

theorem levC_up {c : CV} (h : mayC c.bet c.ballots c.margin) (n : Nat) : levC c n ≤ levC c (n + 1) := by
  have hl := levC_le c n
  have hf := fact_whole h
  show _ ≤ timesN (levC c n) (factC c 0) (wholeC c)
  unfold timesN
  refine Nat.le_min.2 ⟨?_, hl⟩
  rw [Nat.le_div_iff_mul_le hf.2]
  exact Nat.mul_le_mul_left _ hf.1

end Go.Proofs.Ytmkcdlhhbnakiaa
/- A state of a comparison audit in the program: what it reads as; one, most, within, atMost. No condition but that the slices read. -/
namespace Go.Proofs.Ytmkcdlhhbnakiaa
open Go.RowKit Go.Suf
set_option linter.unusedVariables false
set_option linter.unusedSimpArgs false

/-- The cells of a state, and its value. -/
abbrev cmC (q : CV) (a : Option Addr) (n c : Nat) (b : Option Addr) (m d : Nat) : Array Value := #[.int .i64 q.bet, .int .i64 q.ballots, .int .i64 q.margin, .int .i64 q.s0, .int .i64 q.s1, .int .i64 q.s2, .int .i64 q.s3, .int .i64 q.s4, .slice a n c, .slice b m d]
abbrev cmV (q : CV) (a : Option Addr) (n c : Nat) (b : Option Addr) (m d : Nat) : Value := .agg (cmC q a n c b m d)

/-- The integers of a state are int64. -/
structure CW (q : CV) : Prop where
  bet : wide64 q.bet
  ballots : wide64 q.ballots
  margin : wide64 q.margin
  s0 : wide64 q.s0
  s1 : wide64 q.s1
  s2 : wide64 q.s2
  s3 : wide64 q.s3
  s4 : wide64 q.s4

theorem cm_one (q : CV) (a : Option Addr) (n c : Nat) (b : Option Addr) (m d : Nat) : ∀ u ∈ (cmC q a n c b m d).toList, u.oneCell' = true := by
  intro u hu
  simp only [List.mem_cons, List.not_mem_nil, or_false] at hu
  rcases hu with rfl | rfl | rfl | rfl | rfl | rfl | rfl | rfl | rfl | rfl <;> rfl

theorem atCmp : AT Try.prog 25 10 := ⟨⟨_, Try.underlying25, rfl⟩, by kernel_rfl⟩

theorem cm_noint (q : CV) (a : Option Addr) (n c : Nat) (b : Option Addr) (m d : Nat) : ∀ (i : Nat) (z : Int), (cmC q a n c b m d)[i]? ≠ some (.int .u32 z) := by
  intro i z
  rcases i with _ | _ | _ | _ | _ | _ | _ | _ | _ | _ | i <;> simp

def RetCE (w : World) (r : CV × Int) : Ending → World → Prop := fun e w' =>
  ∃ a n c b m d, e = .returned (.tuple #[cmV r.1 a n c b m d, .int .i64 r.2]) ∧ Rd .u32 w' a n c r.1.lev ∧ Rd .u32 w' b m d r.1.best ∧ Below w.heap.size w w'

theorem within_any (w : World) (n lo hi : Int) : Calls Try.prog 39 #[.int .i64 n, .int .i64 lo, .int .i64 hi] w fun e w' => e = .returned (.bool (decide (lo ≤ n ∧ n ≤ hi))) ∧ w' = w := by
  obtain ⟨r, hr⟩ : ∃ r, r = decide (lo ≤ n ∧ n ≤ hi) := ⟨_, rfl⟩
  rw [← hr]
  by_cases h1 : lo ≤ n
  · have d1 : decide (lo ≤ n) = true := decide_eq_true h1
    have e := Lib.hid (show r = decide (n ≤ hi) by rw [hr, decide_eq_decide]; exact ⟨fun h => h.2, fun h => ⟨h1, h⟩⟩)
    clear hr h1
    go_enter Try.func39, Try.ntmps39
    go_wp2
    go_ret
    exact ⟨by rw [e.out]; rfl, rfl⟩
  · have d1 : decide (lo ≤ n) = false := decide_eq_false h1
    have e := Lib.hid (show r = false by rw [hr]; exact decide_eq_false (fun h => h1 h.1))
    clear hr h1
    go_enter Try.func39, Try.ntmps39
    go_wp2
    go_ret
    exact ⟨by rw [e.out]; rfl, rfl⟩

theorem cmOne_any (w : World) : Calls Try.prog 40 #[] w (RetL1 w [0, 0, 1]) := by
  go_enter Try.func40, Try.ntmps40
  go_wp2
  go_ret
  exact ⟨_, _, _, rfl, lit_three w, below_al w _⟩

theorem cmMost_any (w : World) : Calls Try.prog 53 #[] w (RetL1 w [0, 0, 0, 0, 1]) := by
  go_enter Try.func53, Try.ntmps53
  go_wp2
  go_ret
  exact ⟨_, _, _, rfl, lit_five w, below_al w _⟩

theorem cmAtMost_dr (w : World) {a b : Option Addr} {n m cap cap' : Nat} {xs ys : List Nat} (h : Rd .u32 w a n cap xs) (h' : Rd .u32 w b m cap' ys) :
    Calls Try.prog 52 #[.slice a n cap, .slice b m cap'] w (RetB w (leC xs ys)) := by
  obtain ⟨r, hr⟩ : ∃ r, r = leC xs ys := ⟨_, rfl⟩
  rw [← hr]
  obtain ⟨c, hc⟩ : ∃ c, c = cmpC xs ys := ⟨_, rfl⟩
  have HC := Lib.hid hc
  by_cases e1 : c.2 = 0
  · have d1 : (c.2 == 0) = true := by rw [beq_iff_eq]; exact e1
    have e := Lib.hid (show r = decide (c.1 ≤ 0) by rw [hr, leC, ← hc]; simp [e1])
    obtain ⟨c1, c2⟩ := c
    simp only at e1 d1 e
    subst e1
    clear hr hc
    go_enter Try.func52, Try.ntmps52
    go_wp2_with fail
    have cc := Cmp_any _ h h'
    rw [← HC.out] at cc
    refine cc.mono ?_
    rintro e1 w1 ⟨rfl, nq, rfl⟩
    clear cc
    go_wp2_with fail
    go_ret
    exact ⟨by rw [e.out]; rfl, nq, rfl⟩
  · have d1 : (c.2 == 0) = false := by rw [beq_eq_false_iff_ne]; exact e1
    have e := Lib.hid (show r = false by rw [hr, leC, ← hc]; simp [e1])
    obtain ⟨c1, c2⟩ := c
    simp only at e1 d1 e
    clear hr hc e1
    go_enter Try.func52, Try.ntmps52
    go_wp2_with fail
    have cc := Cmp_any _ h h'
    rw [← HC.out] at cc
    refine cc.mono ?_
    rintro e1 w1 ⟨rfl, nq, rfl⟩
    clear cc
    go_wp2_with fail
    go_ret
    exact ⟨by rw [e.out]; rfl, nq, rfl⟩

theorem cmAtMost_any (w : World) {a b : Option Addr} {n m cap cap' : Nat} {xs ys : List Nat} (h : Rd .u32 w a n cap xs) (h' : Rd .u32 w b m cap' ys) :
    Calls Try.prog 52 #[.slice a n cap, .slice b m cap'] w (RetBB w (leC xs ys)) := by
  refine (cmAtMost_dr w h h').mono ?_
  rintro e w1 ⟨rfl, nq, rfl⟩
  exact ⟨rfl, below_drewN (Below.refl _ _) nq⟩

end Go.Proofs.Ytmkcdlhhbnakiaa
/- New of comparison audits, and the answer's may, New and Next. -/
namespace Go.Proofs.Ytmkcdlhhbnakiaa
open Go.RowKit Go.Suf
set_option linter.unusedVariables false
set_option linter.unusedSimpArgs false

/-- The cells of a zero state. -/
abbrev zcm : Array Value := #[.int .i64 0, .int .i64 0, .int .i64 0, .int .i64 0, .int .i64 0, .int .i64 0, .int .i64 0, .int .i64 0, .slice none 0 0, .slice none 0 0]

theorem newCC_yes' {b n m : Int} (h : mayC b n m) : newCC b n m = (⟨b, n, m, 0, 0, 0, 0, 0, [0, 0, 1], [0, 0, 1]⟩, 0) := by unfold newCC; rw [if_pos h]
theorem newCC_no' {b n m : Int} (h : ¬ mayC b n m) : newCC b n m = (zeroCV, 2) := by unfold newCC; rw [if_neg h]

set_option maxRecDepth 100000 in
set_option maxHeartbeats 2000000 in
theorem cmNew_any (w : World) (bet ballots margin : Int) : Calls Try.prog 10 #[.int .i64 bet, .int .i64 ballots, .int .i64 margin] w (RetCE w (newCC bet ballots margin)) := by
  obtain ⟨r, hr⟩ : ∃ r, r = newCC bet ballots margin := ⟨_, rfl⟩
  rw [← hr]
  have R0 := PRow.new 25 w zcm
  have row1 := R0.row
  have HB := Lib.hid (fun cs => below_row R0.below R0.lo cs)
  by_cases h1 : 1 ≤ bet ∧ bet ≤ 999
  case neg =>
    have e := Lib.hid (show r = (zeroCV, 2) by rw [hr]; exact newCC_no' (fun h => h1 h.1))
    have D1 := Lib.hid (show decide (1 ≤ bet ∧ bet ≤ 999) = false from decide_eq_false h1)
    clear hr h1
    go_enter Try.func10, Try.ntmps10
    go_wp2_with fail
    have c := within_any (w.alloc (.cells zcm 25)) bet 1 999
    rw [D1.out] at c
    refine c.mono ?_
    rintro e1 w1 ⟨rfl, rfl⟩
    clear c
    go_wp2_with (refine wpList_store_whole rfl 25 _ _ rfl atCmp _ _ _ row1 rfl rfl rfl rfl (cm_one zeroCV none 0 0 none 0 0) ?_)
    refine bodyPost_ret (results_cell_two rfl _ _ _ _ _ _ _ rfl (setRow_heap _ _ _ _ _ _ row1) Try.underlying25 rfl (by kernel_rfl) _ rfl) rfl ?_
    refine ⟨none, 0, 0, none, 0, 0, by rw [e.out]; rfl, ?_, ?_, HB.out _⟩
    · rw [e.out]; exact Rd.nil _ _
    · rw [e.out]; exact Rd.nil _ _
  case pos =>
  have D1 := Lib.hid (show decide (1 ≤ bet ∧ bet ≤ 999) = true from decide_eq_true h1)
  by_cases h2 : 1 ≤ ballots ∧ ballots ≤ 1000000
  case neg =>
    have e := Lib.hid (show r = (zeroCV, 2) by rw [hr]; exact newCC_no' (fun h => h2 h.2.1))
    have D2 := Lib.hid (show decide (1 ≤ ballots ∧ ballots ≤ 1000000) = false from decide_eq_false h2)
    clear hr h1 h2
    go_enter Try.func10, Try.ntmps10
    go_wp2_with fail
    have c := within_any (w.alloc (.cells zcm 25)) bet 1 999
    rw [D1.out] at c
    refine c.mono ?_
    rintro e1 w1 ⟨rfl, rfl⟩
    clear c
    go_wp2_with fail
    have c := within_any (w.alloc (.cells zcm 25)) ballots 1 1000000
    rw [D2.out] at c
    refine c.mono ?_
    rintro e1 w1 ⟨rfl, rfl⟩
    clear c
    go_wp2_with (refine wpList_store_whole rfl 25 _ _ rfl atCmp _ _ _ row1 rfl rfl rfl rfl (cm_one zeroCV none 0 0 none 0 0) ?_)
    refine bodyPost_ret (results_cell_two rfl _ _ _ _ _ _ _ rfl (setRow_heap _ _ _ _ _ _ row1) Try.underlying25 rfl (by kernel_rfl) _ rfl) rfl ?_
    refine ⟨none, 0, 0, none, 0, 0, by rw [e.out]; rfl, ?_, ?_, HB.out _⟩
    · rw [e.out]; exact Rd.nil _ _
    · rw [e.out]; exact Rd.nil _ _
  case pos =>
  have D2 := Lib.hid (show decide (1 ≤ ballots ∧ ballots ≤ 1000000) = true from decide_eq_true h2)
  by_cases h3 : 1 ≤ margin ∧ margin ≤ ballots
  case neg =>
    have e := Lib.hid (show r = (zeroCV, 2) by rw [hr]; exact newCC_no' (fun h => h3 h.2.2))
    have D3 := Lib.hid (show decide (1 ≤ margin ∧ margin ≤ ballots) = false from decide_eq_false h3)
    clear hr h1 h2 h3
    go_enter Try.func10, Try.ntmps10
    go_wp2_with fail
    have c := within_any (w.alloc (.cells zcm 25)) bet 1 999
    rw [D1.out] at c
    refine c.mono ?_
    rintro e1 w1 ⟨rfl, rfl⟩
    clear c
    go_wp2_with fail
    have c := within_any (w.alloc (.cells zcm 25)) ballots 1 1000000
    rw [D2.out] at c
    refine c.mono ?_
    rintro e1 w1 ⟨rfl, rfl⟩
    clear c
    go_wp2_with fail
    have c := within_any (w.alloc (.cells zcm 25)) margin 1 ballots
    rw [D3.out] at c
    refine c.mono ?_
    rintro e1 w1 ⟨rfl, rfl⟩
    clear c
    go_wp2_with (refine wpList_store_whole rfl 25 _ _ rfl atCmp _ _ _ row1 rfl rfl rfl rfl (cm_one zeroCV none 0 0 none 0 0) ?_)
    refine bodyPost_ret (results_cell_two rfl _ _ _ _ _ _ _ rfl (setRow_heap _ _ _ _ _ _ row1) Try.underlying25 rfl (by kernel_rfl) _ rfl) rfl ?_
    refine ⟨none, 0, 0, none, 0, 0, by rw [e.out]; rfl, ?_, ?_, HB.out _⟩
    · rw [e.out]; exact Rd.nil _ _
    · rw [e.out]; exact Rd.nil _ _
  case pos =>
  have D3 := Lib.hid (show decide (1 ≤ margin ∧ margin ≤ ballots) = true from decide_eq_true h3)
  have e := Lib.hid (show r = (⟨bet, ballots, margin, 0, 0, 0, 0, 0, [0, 0, 1], [0, 0, 1]⟩, 0) by rw [hr]; exact newCC_yes' ⟨h1, h2, h3⟩)
  clear hr h1 h2 h3
  go_enter Try.func10, Try.ntmps10
  go_wp2_with fail
  have c := within_any (w.alloc (.cells zcm 25)) bet 1 999
  rw [D1.out] at c
  refine c.mono ?_
  rintro e1 w1 ⟨rfl, rfl⟩
  clear c
  go_wp2_with fail
  have c := within_any (w.alloc (.cells zcm 25)) ballots 1 1000000
  rw [D2.out] at c
  refine c.mono ?_
  rintro e1 w1 ⟨rfl, rfl⟩
  clear c
  go_wp2_with fail
  have c := within_any (w.alloc (.cells zcm 25)) margin 1 ballots
  rw [D3.out] at c
  refine c.mono ?_
  rintro e1 w1 ⟨rfl, rfl⟩
  clear c
  go_wp2_with fail
  refine (cmOne_any _).mono ?_
  rintro e1 w1 ⟨a1, n1, c1, rfl, x1, hb⟩
  have R1 := R0.later hb
  clear hb
  go_wp2_with fail
  refine (cmOne_any _).mono ?_
  rintro e1 w2 ⟨a2, n2, c2, rfl, x2, hb⟩
  have R2 := R1.later hb
  have x1 := x1.below hb
  have row2 := R2.row
  have HB2 := Lib.hid (fun cs => below_row R2.below R2.lo cs)
  have fin := Lib.hid (fun cs => (⟨rd_rowset x1 row2 (cm_noint zeroCV _ _ _ _ _ _) cs, rd_rowset x2 row2 (cm_noint zeroCV _ _ _ _ _ _) cs⟩ : _ ∧ _))
  clear hb
  go_wp2_with (refine wpList_store_whole rfl 25 _ _ rfl atCmp _ _ _ row2 rfl rfl rfl rfl (cm_one ⟨bet, ballots, margin, 0, 0, 0, 0, 0, [0, 0, 1], [0, 0, 1]⟩ _ _ _ _ _ _) ?_)
  refine bodyPost_ret (results_cell_two rfl _ _ _ _ _ _ _ rfl (setRow_heap _ _ _ _ _ _ row2) Try.underlying25 rfl (by kernel_rfl) _ rfl) rfl ?_
  refine ⟨a1, n1, c1, a2, n2, c2, by rw [e.out]; rfl, ?_, ?_, HB2.out _⟩
  · rw [e.out]; exact (fin.out _).1
  · rw [e.out]; exact (fin.out _).2

set_option maxHeartbeats 2000000 in
theorem may_any (w : World) (bet ballots margin : Int) : Calls Try.prog 58 #[.int .i64 bet, .int .i64 ballots, .int .i64 margin] w fun e w' => e = .returned (.bool (decide (mayC bet ballots margin))) ∧ w' = w := by
  obtain ⟨r, hr⟩ : ∃ r, r = decide (mayC bet ballots margin) := ⟨_, rfl⟩
  rw [← hr]
  unfold mayC at hr
  by_cases h1 : 1 ≤ bet
  case neg =>
    have d1 : decide (1 ≤ bet) = false := decide_eq_false h1
    have e := Lib.hid (show r = false by rw [hr]; exact decide_eq_false (fun h => h1 h.1.1))
    clear hr h1
    go_enter Try.func58, Try.ntmps58
    go_wp2
    go_ret
    exact ⟨by rw [e.out]; rfl, rfl⟩
  case pos =>
  have d1 : decide (1 ≤ bet) = true := decide_eq_true h1
  by_cases h2 : bet ≤ 999
  case neg =>
    have d2 : decide (bet ≤ 999) = false := decide_eq_false h2
    have e := Lib.hid (show r = false by rw [hr]; exact decide_eq_false (fun h => h2 h.1.2))
    clear hr h1 h2
    go_enter Try.func58, Try.ntmps58
    go_wp2
    go_ret
    exact ⟨by rw [e.out]; rfl, rfl⟩
  case pos =>
  have d2 : decide (bet ≤ 999) = true := decide_eq_true h2
  by_cases h3 : 1 ≤ ballots
  case neg =>
    have d3 : decide (1 ≤ ballots) = false := decide_eq_false h3
    have e := Lib.hid (show r = false by rw [hr]; exact decide_eq_false (fun h => h3 h.2.1.1))
    clear hr h1 h2 h3
    go_enter Try.func58, Try.ntmps58
    go_wp2
    go_ret
    exact ⟨by rw [e.out]; rfl, rfl⟩
  case pos =>
  have d3 : decide (1 ≤ ballots) = true := decide_eq_true h3
  by_cases h4 : ballots ≤ 1000000
  case neg =>
    have d4 : decide (ballots ≤ 1000000) = false := decide_eq_false h4
    have e := Lib.hid (show r = false by rw [hr]; exact decide_eq_false (fun h => h4 h.2.1.2))
    clear hr h1 h2 h3 h4
    go_enter Try.func58, Try.ntmps58
    go_wp2
    go_ret
    exact ⟨by rw [e.out]; rfl, rfl⟩
  case pos =>
  have d4 : decide (ballots ≤ 1000000) = true := decide_eq_true h4
  by_cases h5 : 1 ≤ margin
  case neg =>
    have d5 : decide (1 ≤ margin) = false := decide_eq_false h5
    have e := Lib.hid (show r = false by rw [hr]; exact decide_eq_false (fun h => h5 h.2.2.1))
    clear hr h1 h2 h3 h4 h5
    go_enter Try.func58, Try.ntmps58
    go_wp2
    go_ret
    exact ⟨by rw [e.out]; rfl, rfl⟩
  case pos =>
  have d5 : decide (1 ≤ margin) = true := decide_eq_true h5
  have e := Lib.hid (show r = decide (margin ≤ ballots) by
    rw [hr]
    by_cases h : margin ≤ ballots
    · rw [decide_eq_true h]
      exact decide_eq_true ⟨⟨h1, h2⟩, ⟨h3, h4⟩, h5, h⟩
    · rw [decide_eq_false h]
      exact decide_eq_false (fun g => h g.2.2.2))
  clear hr h1 h2 h3 h4 h5
  go_enter Try.func58, Try.ntmps58
  go_wp2
  go_ret
  exact ⟨by rw [e.out]; rfl, rfl⟩

set_option maxRecDepth 100000 in
set_option maxHeartbeats 2000000 in
theorem refCmNew_any (w : World) (bet ballots margin : Int) : Calls Try.prog 31 #[.int .i64 bet, .int .i64 ballots, .int .i64 margin] w (RetCE w (newCC bet ballots margin)) := by
  obtain ⟨r, hr⟩ : ∃ r, r = newCC bet ballots margin := ⟨_, rfl⟩
  rw [← hr]
  have R0 := PRow.new 25 w zcm
  have row1 := R0.row
  have HB := Lib.hid (fun cs => below_row R0.below R0.lo cs)
  have cc := may_any (w.alloc (.cells zcm 25)) bet ballots margin
  by_cases h1 : mayC bet ballots margin
  case neg =>
    have e := Lib.hid (show r = (zeroCV, 2) by rw [hr]; exact newCC_no' h1)
    rw [decide_eq_false h1] at cc
    clear hr h1
    go_enter Try.func31, Try.ntmps31
    go_wp2_with fail
    refine cc.mono ?_
    rintro e1 w1 ⟨rfl, rfl⟩
    clear cc
    go_wp2_with (refine wpList_store_whole rfl 25 _ _ rfl atCmp _ _ _ row1 rfl rfl rfl rfl (cm_one zeroCV none 0 0 none 0 0) ?_)
    refine bodyPost_ret (results_cell_two rfl _ _ _ _ _ _ _ rfl (setRow_heap _ _ _ _ _ _ row1) Try.underlying25 rfl (by kernel_rfl) _ rfl) rfl ?_
    refine ⟨none, 0, 0, none, 0, 0, by rw [e.out]; rfl, ?_, ?_, HB.out _⟩
    · rw [e.out]; exact Rd.nil _ _
    · rw [e.out]; exact Rd.nil _ _
  case pos =>
  have e := Lib.hid (show r = (⟨bet, ballots, margin, 0, 0, 0, 0, 0, [0, 0, 1], [0, 0, 1]⟩, 0) by rw [hr]; exact newCC_yes' h1)
  rw [decide_eq_true h1] at cc
  clear hr h1
  go_enter Try.func31, Try.ntmps31
  go_wp2_with fail
  refine cc.mono ?_
  rintro e1 w1 ⟨rfl, rfl⟩
  clear cc
  go_wp2_with fail
  refine (refOne_any _).mono ?_
  rintro e1 w1 ⟨a1, n1, c1, rfl, x1, hb⟩
  have R1 := R0.later hb
  clear hb
  go_wp2_with fail
  refine (refOne_any _).mono ?_
  rintro e1 w2 ⟨a2, n2, c2, rfl, x2, hb⟩
  have R2 := R1.later hb
  have x1 := x1.below hb
  have row2 := R2.row
  have HB2 := Lib.hid (fun cs => below_row R2.below R2.lo cs)
  have fin := Lib.hid (fun cs => (⟨rd_rowset x1 row2 (cm_noint zeroCV _ _ _ _ _ _) cs, rd_rowset x2 row2 (cm_noint zeroCV _ _ _ _ _ _) cs⟩ : _ ∧ _))
  clear hb
  go_wp2_with (refine wpList_store_whole rfl 25 _ _ rfl atCmp _ _ _ row2 rfl rfl rfl rfl (cm_one ⟨bet, ballots, margin, 0, 0, 0, 0, 0, [0, 0, 1], [0, 0, 1]⟩ _ _ _ _ _ _) ?_)
  refine bodyPost_ret (results_cell_two rfl _ _ _ _ _ _ _ rfl (setRow_heap _ _ _ _ _ _ row2) Try.underlying25 rfl (by kernel_rfl) _ rfl) rfl ?_
  refine ⟨a1, n1, c1, a2, n2, c2, by rw [e.out]; rfl, ?_, ?_, HB2.out _⟩
  · rw [e.out]; exact (fin.out _).1
  · rw [e.out]; exact (fin.out _).2

end Go.Proofs.Ytmkcdlhhbnakiaa
