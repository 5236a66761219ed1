/- Polling at numbers: levels, limits, what the functions answer. No program in sight. -/
import Derived.Test.YtmkcdlhhbnakiaaRatPlain
import Derived.Test.YtmkcdlhhbnakiaaRatH
import Derived.Deep.RegionHeld3
import Derived.BigQuiet
namespace Go.Proofs.Ytmkcdlhhbnakiaa
open Go.RowKit Go.Suf
set_option linter.unusedVariables false
set_option linter.unusedSimpArgs false

def oneN : Nat := 18446744073709551616
def mostN : Nat := 340282366920938463463374607431768211456

theorem one_limbs : limbs oneN = [0, 0, 1] := limbs_val (xs := [0, 0, 1]) (by intro x hx; simp at hx; omega) (by unfold canon; decide)
theorem most_limbs : limbs mostN = [0, 0, 0, 0, 1] := limbs_val (xs := [0, 0, 0, 0, 1]) (by intro x hx; simp at hx; omega) (by unfold canon; decide)
theorem one_pw : oneN < pw 96 := Nat.lt_of_lt_of_le (show oneN < pw 3 by decide) (pw_le (by omega))
theorem most_pw : mostN < pw 96 := Nat.lt_of_lt_of_le (show mostN < pw 5 by decide) (pw_le (by omega))
theorem small_one : small32 [0, 0, 1] := by intro x hx; simp at hx; omega
theorem small_most : small32 [0, 0, 0, 0, 1] := by intro x hx; simp at hx; omega

/-- Both numbers are valid, and the first is at most the second. -/
def leC (xs ys : List Nat) : Bool := decide ((cmpC xs ys).2 = 0 ∧ (cmpC xs ys).1 ≤ 0)

theorem leC_ok {A B : Nat} (hA : A < pw 96) (hB : B < pw 96) : leC (limbs A) (limbs B) = decide (A ≤ B) := by
  unfold leC
  rw [cmp_ok hA hB, decide_eq_decide]
  unfold cmpN
  simp only [true_and]
  split
  · simp; omega
  · split
    · simp; omega
    · simp; omega

theorem cmp_bad {xs ys : List Nat} (h : (cmpC xs ys).2 = 0) : bothC xs ys = 0 := by
  unfold cmpC at h
  split at h
  · assumption
  · exact h

theorem bothC_parts {xs ys : List Nat} (h : bothC xs ys = 0) : chk xs = 0 ∧ chk ys = 0 := by
  unfold bothC at h
  split at h
  · exact ⟨by assumption, h⟩
  · rename_i h'; exact absurd h h'

theorem chk_get {xs : List Nat} (hs : small32 xs) (h : chk xs = 0) : xs = limbs (val xs) ∧ val xs < pw 96 :=
  ⟨(limbs_val hs (chk_ok.1 h).2).symm, Nat.lt_of_lt_of_le (val_lt' hs) (pw_le (chk_ok.1 h).1)⟩

theorem leC_get {xs ys : List Nat} (hx : small32 xs) (hy : small32 ys) (h : leC xs ys = true) : ∃ A B, xs = limbs A ∧ ys = limbs B ∧ A ≤ B ∧ A < pw 96 ∧ B < pw 96 := by
  have h0 := h
  unfold leC at h
  rw [decide_eq_true_eq] at h
  obtain ⟨c1, c2⟩ := bothC_parts (cmp_bad h.1)
  obtain ⟨e1, l1⟩ := chk_get hx c1
  obtain ⟨e2, l2⟩ := chk_get hy c2
  rw [e1, e2, leC_ok l1 l2, decide_eq_true_eq] at h0
  exact ⟨_, _, e1, e2, h0, l1, l2⟩

/-- What the fields of an api.Polling read as. -/
structure PV where
  bet : Int
  s0 : Int
  s1 : Int
  s2 : Int
  lev : List Nat
  best : List Nat

def zeroP : PV := ⟨0, 0, 0, 0, [], []⟩

def inS (s : Int) : Prop := 0 ≤ s ∧ s ≤ 1000000
instance (s : Int) : Decidable (inS s) := by unfold inS; infer_instance

def seenOk (p : PV) : Bool := decide (inS p.s0 ∧ inS p.s1 ∧ inS p.s2)

def chkP (p : PV) : Int :=
  if (1 ≤ p.bet ∧ p.bet ≤ 999) ∧ seenOk p = true ∧ leC p.lev p.best = true ∧ leC [0, 0, 1] p.best = true ∧ leC p.best [0, 0, 0, 0, 1] = true then 0 else 8

theorem chkP_two (p : PV) : chkP p = 0 ∨ chkP p = 8 := by
  unfold chkP
  split
  · exact .inl rfl
  · exact .inr rfl

/-- The image of a valid state. -/
structure Vld (p : PV) (L B : Nat) : Prop where
  bet : 1 ≤ p.bet ∧ p.bet ≤ 999
  s0 : inS p.s0
  s1 : inS p.s1
  s2 : inS p.s2
  lev : p.lev = limbs L
  best : p.best = limbs B
  le : L ≤ B
  lo : oneN ≤ B
  hi : B ≤ mostN

theorem chkP_get {p : PV} (h1 : small32 p.lev) (h2 : small32 p.best) (h : chkP p = 0) : ∃ L B, Vld p L B := by
  unfold chkP at h
  split at h
  case isFalse => simp at h
  case isTrue hh =>
    obtain ⟨hb, hs, e1, e2, e3⟩ := hh
    obtain ⟨A, B, f1, f2, f3, f4, f5⟩ := leC_get h1 h2 e1
    rw [f2, ← one_limbs, leC_ok one_pw f5, decide_eq_true_eq] at e2
    rw [f2, ← most_limbs, leC_ok f5 most_pw, decide_eq_true_eq] at e3
    unfold seenOk at hs
    rw [decide_eq_true_eq] at hs
    exact ⟨A, B, hb, hs.1, hs.2.1, hs.2.2, f1, f2, f3, e2, e3⟩

theorem Vld.pw {p : PV} {L B : Nat} (h : Vld p L B) : L < pw 96 ∧ B < pw 96 := by
  have := h.le
  have := h.hi
  have := most_pw
  omega

theorem Vld.chk {p : PV} {L B : Nat} (h : Vld p L B) : chkP p = 0 := by
  unfold chkP
  have := h.pw
  rw [if_pos]
  refine ⟨h.bet, by unfold seenOk; exact decide_eq_true ⟨h.s0, h.s1, h.s2⟩, ?_, ?_, ?_⟩
  · rw [h.lev, h.best, leC_ok this.1 this.2]; exact decide_eq_true h.le
  · rw [h.best, ← one_limbs, leC_ok one_pw this.2]; exact decide_eq_true h.lo
  · rw [h.best, ← most_limbs, leC_ok this.2 most_pw]; exact decide_eq_true h.hi

/-- A level times n / d, limited. -/
def timesN (L n d : Nat) : Nat := min (L * n / d) mostN

def timesC (xs : List Nat) (n d : Nat) : List Nat :=
  if leC (divC (mulC xs (limbs n)).1 (limbs d)).1 [0, 0, 0, 0, 1] = true then (divC (mulC xs (limbs n)).1 (limbs d)).1 else [0, 0, 0, 0, 1]

theorem timesC_ok {L n d : Nat} (hL : L ≤ mostN) (hn : n < 18446744073709551616) (hd : 0 < d) (hd' : d < 18446744073709551616) : timesC (limbs L) n d = limbs (timesN L n d) := by
  have p1 : L < pw 96 := Nat.lt_of_le_of_lt hL most_pw
  have p2 : n < pw 96 := Nat.lt_of_lt_of_le (show n < pw 2 by unfold pw; omega) (pw_le (by omega))
  have p3 : d < pw 96 := Nat.lt_of_lt_of_le (show d < pw 2 by unfold pw; omega) (pw_le (by omega))
  have p4 : L * n < pw 96 := Nat.lt_of_lt_of_le (mul_lt_pw (i := 5) (j := 2) (Nat.lt_of_le_of_lt hL (show mostN < pw 5 by decide)) (show n < pw 2 by unfold pw; omega)) (pw_le (by omega))
  have p5 : L * n / d < pw 96 := Nat.lt_of_le_of_lt (Nat.div_le_self _ _) p4
  unfold timesC
  rw [mul_ok p1 p2 p4]
  show (if leC (divC (limbs (L * n)) (limbs d)).1 [0, 0, 0, 0, 1] = true then (divC (limbs (L * n)) (limbs d)).1 else [0, 0, 0, 0, 1]) = _
  rw [div_ok p4 p3 hd]
  show (if leC (limbs (L * n / d)) [0, 0, 0, 0, 1] = true then (limbs (L * n / d)) else [0, 0, 0, 0, 1]) = _
  rw [← most_limbs, leC_ok p5 most_pw]
  unfold timesN
  simp only [decide_eq_true_eq]
  split
  · rw [Nat.min_eq_left (by assumption)]
  · rw [Nat.min_eq_right (by omega)]

/-- The factor of a value, in thousandths. -/
def factN (bet v : Int) : Nat := (1000 + bet * (v - 1)).toNat

def seenAt (p : PV) (v : Int) : Int := if v = 0 then p.s0 else if v = 1 then p.s1 else p.s2

/-- One observation of a value in 0 .. 2. -/
def bump (p : PV) (v : Int) : PV := ⟨p.bet, if v = 0 then p.s0 + 1 else p.s0, if v = 1 then p.s1 + 1 else p.s1, if v = 2 then p.s2 + 1 else p.s2, p.lev, p.best⟩

def step (p : PV) (v : Int) : PV :=
  ⟨p.bet, if v = 0 then p.s0 + 1 else p.s0, if v = 1 then p.s1 + 1 else p.s1, if v = 2 then p.s2 + 1 else p.s2, limbs (timesN (val p.lev) (factN p.bet v) 1000), limbs (max (val p.best) (timesN (val p.lev) (factN p.bet v) 1000))⟩

def obs1 (p : PV) (v : Int) : Option PV := if v < 0 ∨ 2 < v ∨ 1000000 ≤ seenAt p v then none else some (step p v)

def obsN (p : PV) : List Int → Option PV
  | [] => some p
  | v :: vs => (obs1 p v).bind fun q => obsN q vs

theorem obsN_append (p : PV) (xs ys : List Int) : obsN p (xs ++ ys) = (obsN p xs).bind fun q => obsN q ys := by
  induction xs generalizing p with
  | nil => rfl
  | cons v vs ih =>
    show (obs1 p v).bind _ = ((obs1 p v).bind _).bind _
    cases obs1 p v with
    | none => rfl
    | some q => exact ih q

def obsC (p : PV) (vs : List Int) : PV × Int := if chkP p = 0 then (match obsN p vs with | none => (zeroP, 2) | some q => (q, 0)) else (zeroP, 8)

theorem step_vld {p : PV} {L B : Nat} (h : Vld p L B) {v : Int} (h1 : 0 ≤ v) (h2 : v ≤ 2) (h3 : seenAt p v < 1000000) : Vld (step p v) (timesN L (factN p.bet v) 1000) (max B (timesN L (factN p.bet v) 1000)) := by
  have s0 := h.s0
  have s1 := h.s1
  have s2 := h.s2
  unfold inS at s0 s1 s2
  refine ⟨h.bet, ?_, ?_, ?_, ?_, ?_, ?_, ?_, ?_⟩
  · show inS (if v = 0 then p.s0 + 1 else p.s0)
    unfold seenAt at h3
    unfold inS
    split
    · rename_i e; rw [if_pos e] at h3; omega
    · omega
  · show inS (if v = 1 then p.s1 + 1 else p.s1)
    unfold seenAt at h3
    unfold inS
    split
    · rename_i e; rw [if_neg (by omega), if_pos e] at h3; omega
    · omega
  · show inS (if v = 2 then p.s2 + 1 else p.s2)
    unfold seenAt at h3
    unfold inS
    split
    · rename_i e; rw [if_neg (by omega), if_neg (by omega)] at h3; omega
    · omega
  · show limbs (timesN (val p.lev) (factN p.bet v) 1000) = _
    rw [h.lev, val_limbs]
  · show limbs (max (val p.best) (timesN (val p.lev) (factN p.bet v) 1000)) = _
    rw [h.lev, h.best, val_limbs, val_limbs]
  · exact Nat.le_max_right _ _
  · exact Nat.le_trans h.lo (Nat.le_max_left _ _)
  · have : timesN L (factN p.bet v) 1000 ≤ mostN := Nat.min_le_right _ _
    have := h.hi
    omega

theorem obs1_vld {p q : PV} {L B : Nat} (h : Vld p L B) {v : Int} (e : obs1 p v = some q) : q = step p v ∧ 0 ≤ v ∧ v ≤ 2 ∧ seenAt p v < 1000000 ∧ Vld q (timesN L (factN p.bet v) 1000) (max B (timesN L (factN p.bet v) 1000)) := by
  unfold obs1 at e
  split at e
  · simp at e
  · injection e with e
    subst e
    exact ⟨rfl, by omega, by omega, by omega, step_vld h (by omega) (by omega) (by omega)⟩

/-! ### limits -/

def limC (x : QV) : Int := if chkV x = 0 then (if x.neg = false ∧ x.num.length ≠ 0 ∧ x.num.length ≤ 2 ∧ x.den.length ≤ 2 ∧ leC x.num x.den = true then 0 else 2) else 8

/-- A valid limit is n / d with 0 < n <= d < 2^64. -/
structure Lim (x : QV) (n d : Nat) : Prop where
  neg : x.neg = false
  num : x.num = limbs n
  den : x.den = limbs d
  pos : 0 < n
  le : n ≤ d
  lt : d < 18446744073709551616
  cop : Nat.gcd n d = 1

theorem limbs_two {n : Nat} (h : (limbs n).length ≤ 2) : n < 18446744073709551616 := by
  have := val_lt' (limbs_small n)
  rw [val_limbs] at this
  have h2 := pw_le h
  have h3 : pw 2 = 18446744073709551616 := by decide
  omega

theorem limC_get {x : QV} (h1 : small32 x.num) (h2 : small32 x.den) (h : limC x = 0) : ∃ n d, Lim x n d := by
  unfold limC at h
  split at h
  case isFalse => simp at h
  case isTrue hc =>
    split at h
    case isFalse => simp at h
    case isTrue hh =>
      obtain ⟨g1, g2, g3, g4, g5⟩ := hh
      obtain ⟨n1, n2, l1, l2, z, s, g⟩ := chkV_parts h1 h2 hc
      rw [n1, n2, leC_ok l1 l2, decide_eq_true_eq] at g5
      refine ⟨_, _, g1, n1, n2, ?_, g5, ?_, g⟩
      · rw [n1] at g2
        rcases Nat.eq_zero_or_pos (val x.num) with e | e
        · exfalso; rw [e] at g2; exact g2 (limbs_len_zero.2 rfl)
        · exact e
      · rw [n2] at g4
        exact limbs_two g4

def sureN (B n d : Nat) : Bool := decide (oneN * d ≤ B * n)

def sureC (best num den : List Nat) : Bool := leC (mulC [0, 0, 1] den).1 (mulC best num).1

theorem sureC_ok {B n d : Nat} (hB : B ≤ mostN) (hn : n < 18446744073709551616) (hd : d < 18446744073709551616) : sureC (limbs B) (limbs n) (limbs d) = sureN B n d := by
  have p1 : B < pw 96 := Nat.lt_of_le_of_lt hB most_pw
  have p2 : n < pw 96 := Nat.lt_of_lt_of_le (show n < pw 2 by unfold pw; omega) (pw_le (by omega))
  have p3 : d < pw 96 := Nat.lt_of_lt_of_le (show d < pw 2 by unfold pw; omega) (pw_le (by omega))
  have p4 : B * n < pw 96 := Nat.lt_of_lt_of_le (mul_lt_pw (i := 5) (j := 2) (Nat.lt_of_le_of_lt hB (show mostN < pw 5 by decide)) (show n < pw 2 by unfold pw; omega)) (pw_le (by omega))
  have p5 : oneN * d < pw 96 := Nat.lt_of_lt_of_le (mul_lt_pw (i := 3) (j := 2) (show oneN < pw 3 by decide) (show d < pw 2 by unfold pw; omega)) (pw_le (by omega))
  unfold sureC sureN
  rw [← one_limbs, mul_ok one_pw p3 p5, mul_ok p1 p2 p4, leC_ok p5 p4]

def confC (p : PV) (x : QV) : Bool × Int := if chkP p = 0 then (if limC x = 0 then (sureC p.best x.num x.den, 0) else (false, limC x)) else (false, 8)

/-- The level after n observations of 2. -/
def levN (bet : Int) : Nat → Nat
  | 0 => oneN
  | n + 1 => timesN (levN bet n) (factN bet 2) 1000

/-- The first n at or above k, for at most f steps, whose level is sure. -/
def seekN (bet : Int) (num den : Nat) : Nat → Nat → Int × Int
  | 0, _ => (0, 6)
  | f + 1, k => if sureN (levN bet k) num den = true then ((k : Int), 0) else seekN bet num den f (k + 1)

def betOk (bet : Int) : Bool := decide (1 ≤ bet ∧ bet ≤ 999)

def sizeC (bet : Int) (x : QV) : Int × Int := if betOk bet = true then (if limC x = 0 then seekN bet (val x.num) (val x.den) 4097 0 else (0, limC x)) else (0, 2)

def newC (bet : Int) : PV × Int := if betOk bet = true then (⟨bet, 0, 0, 0, [0, 0, 1], [0, 0, 1]⟩, 0) else (zeroP, 2)

theorem levN_le (bet : Int) (n : Nat) : levN bet n ≤ mostN := by
  cases n with
  | zero => show oneN ≤ mostN; decide
  | succ n => exact Nat.min_le_right _ _

theorem levN_up {bet : Int} (h1 : 1 ≤ bet) (n : Nat) : levN bet n ≤ levN bet (n + 1) := by
  have h := levN_le bet n
  show _ ≤ timesN (levN bet n) (factN bet 2) 1000
  unfold timesN
  refine Nat.le_min.2 ⟨?_, h⟩
  rw [Nat.le_div_iff_mul_le (by decide)]
  refine Nat.mul_le_mul_left _ ?_
  unfold factN
  omega

/-! ### the risk, equality -/

def riskC (p : PV) : QV × Int := if chkP p = 0 then (lowV false oneN (val p.best), 0) else (zeroV, 8)

def samePV (p q : PV) : Bool := decide (p.bet = q.bet) && decide (p.s0 = q.s0 ∧ p.s1 = q.s1 ∧ p.s2 = q.s2) && sameN p.lev q.lev && sameN p.best q.best

theorem samePV_self (p : PV) : samePV p p = true := by unfold samePV; simp [same_self]

end Go.Proofs.Ytmkcdlhhbnakiaa
/- A state of polling in the program: what it reads as; one, most, atMost, New, and the answer's One, Most, AtMost, New. No condition but that the slices read. -/
namespace Go.Suf
open Go.RowKit
set_option linter.unusedVariables false
set_option linter.unusedSimpArgs false

def intsV (xs : List Int) : List Value := xs.map fun x => Value.int .i64 x
theorem intsV_size (xs : List Int) : (intsV xs).length = xs.length := by simp [intsV]
theorem intsV_get (xs : List Int) (i : Nat) : (intsV xs)[i]? = (xs[i]?).map fun x => Value.int .i64 x := by simp [intsV]
theorem intsV_one (xs : List Int) : ∀ u ∈ intsV xs, u.oneCell' = true := by
  intro u hu
  simp [intsV] at hu
  obtain ⟨x, _, rfl⟩ := hu
  rfl

/-- The slice of n elements at a reads as the integers xs. -/
structure RdI (w : World) (a : Option Addr) (n cap : Nat) (xs : List Int) : Prop where
  len : xs.length = n
  sl : Sl w a cap (intsV xs)
  bd : ∀ x ∈ xs, -9223372036854775808 ≤ x ∧ x ≤ 9223372036854775807

theorem RdI.nil (w : World) : RdI w none 0 0 [] := ⟨rfl, Sl.empty w none 0 (Nat.zero_le _) (fun _ => rfl), fun x hx => by simp at hx⟩
theorem RdI.below {w w' : World} {a : Option Addr} {n cap : Nat} {xs : List Int} (h : RdI w a n cap xs) (hb : Below w.heap.size w w') : RdI w' a n cap xs := ⟨h.len, h.sl.below hb, h.bd⟩
theorem RdI.le {w : World} {a : Option Addr} {n cap : Nat} {xs : List Int} (h : RdI w a n cap xs) : n ≤ cap := by
  have h1 := h.sl.le
  rw [intsV_size, h.len] at h1
  exact h1
theorem RdI.lt {w : World} {a : Option Addr} {n cap : Nat} {xs : List Int} (h : RdI w a n cap xs) : n ≤ 9223372036854775807 := by
  have h1 := h.le
  have h2 := h.sl.max
  unfold maxLen at h2
  omega

/-- The i-th integer. -/
def ith (xs : List Int) (i : Nat) : Int := xs.getD i 0

theorem RdI.addr {w : World} {a : Option Addr} {n cap : Nat} {xs : List Int} (h : RdI w a n cap xs) (hp : 0 < n) :
    ∃ b off, a = some ⟨b, off, none⟩ ∧ ∀ i, i < n → w.cell? ⟨b, off + i, none⟩ = some (.int .i64 (ith xs i)) := by
  have hl := h.len
  obtain ⟨b, off, e, hw⟩ := h.sl.addr (by rw [intsV_size]; omega)
  refine ⟨b, off, e, fun i hi => hw i _ ?_⟩
  unfold ith
  rw [intsV_get, List.getElem?_eq_getElem (by omega), List.getD, List.getElem?_eq_getElem (by omega)]
  rfl
end Go.Suf
namespace Go.Proofs.Ytmkcdlhhbnakiaa
open Go.RowKit Go.Suf
set_option linter.unusedVariables false
set_option linter.unusedSimpArgs false

/-- The cells of a state, and its value. -/
abbrev polC (q : PV) (a : Option Addr) (n c : Nat) (b : Option Addr) (m d : Nat) : Array Value := #[.int .i64 q.bet, .int .i64 q.s0, .int .i64 q.s1, .int .i64 q.s2, .slice a n c, .slice b m d]
abbrev polV (q : PV) (a : Option Addr) (n c : Nat) (b : Option Addr) (m d : Nat) : Value := .agg (polC q a n c b m d)

def wide64 (z : Int) : Prop := -9223372036854775808 ≤ z ∧ z ≤ 9223372036854775807

/-- The integers of a state are int64. -/
structure PW (q : PV) : Prop where
  bet : wide64 q.bet
  s0 : wide64 q.s0
  s1 : wide64 q.s1
  s2 : wide64 q.s2

theorem pol_one (q : PV) (a : Option Addr) (n c : Nat) (b : Option Addr) (m d : Nat) : ∀ u ∈ (polC q a n c b m d).toList, u.oneCell' = true := by
  intro u hu
  simp only [List.mem_cons, List.not_mem_nil, or_false] at hu
  rcases hu with rfl | rfl | rfl | rfl | rfl | rfl <;> rfl

theorem pol_noint (q : PV) (a : Option Addr) (n c : Nat) (b : Option Addr) (m d : Nat) : ∀ (i : Nat) (z : Int), (polC q a n c b m d)[i]? ≠ some (.int .u32 z) := by
  intro i z
  rcases i with _ | _ | _ | _ | _ | _ | i <;> simp

/-- The block k, laid since w, holds the cells of a value of type t. -/
structure PRow (t : TypeId) (w w1 : World) (k : Nat) (cs : Array Value) : Prop where
  below : Below w.heap.size w w1
  row : w1.heap[k]? = some (.cells cs t (0, 0))
  lo : w.heap.size ≤ k
  lt : k < w1.heap.size

theorem PRow.new (t : TypeId) (w : World) (cs : Array Value) : PRow t w (w.alloc (.cells cs t)) w.heap.size cs :=
  ⟨(Below.refl _ _).alloc (Nat.le_refl _) _, heap_alloc_new w _, Nat.le_refl _, by rw [World.size_alloc]; omega⟩

theorem PRow.later {t : TypeId} {w w1 w2 : World} {k : Nat} {cs : Array Value} (h : PRow t w w1 k cs) (hb : Below w1.heap.size w1 w2) : PRow t w w2 k cs :=
  ⟨h.below.trans (hb.mono h.below.size), by rw [hb.block k h.lt]; exact h.row, h.lo, Nat.lt_of_lt_of_le h.lt hb.size⟩

theorem PRow.cell {t : TypeId} {w w1 : World} {k : Nat} {cs : Array Value} (h : PRow t w w1 k cs) (i : Nat) (v : Value) (hv : cs[i]? = some v) : w1.cell? ⟨k, i, none⟩ = some v := by
  simp only [World.cell?, h.row, hv]
  rfl

def RetP (w : World) (r : PV) : Ending → World → Prop := fun e w' =>
  ∃ a n c b m d, e = .returned (polV r a n c b m d) ∧ Rd .u32 w' a n c r.lev ∧ Rd .u32 w' b m d r.best ∧ Below w.heap.size w w'

def RetPE (w : World) (r : PV × Int) : Ending → World → Prop := fun e w' =>
  ∃ a n c b m d, e = .returned (.tuple #[polV r.1 a n c b m d, .int .i64 r.2]) ∧ Rd .u32 w' a n c r.1.lev ∧ Rd .u32 w' b m d r.1.best ∧ Below w.heap.size w w'

def RetL1 (w : World) (xs : List Nat) : Ending → World → Prop := fun e w' =>
  ∃ a n c, e = .returned (.slice a n c) ∧ Rd .u32 w' a n c xs ∧ Below w.heap.size w w'

theorem lit_three (w : World) : Rd .u32 (w.alloc (.cells #[.int .u32 0, .int .u32 0, .int .u32 1] 68)) (some ⟨w.heap.size, 0, none⟩) 3 3 [0, 0, 1] :=
  rd_lit .u32 w [0, 0, 1] 68 3 rfl (by decide) (by intro y hy; simp at hy; rcases hy with rfl | rfl <;> decide)

theorem lit_five (w : World) : Rd .u32 (w.alloc (.cells #[.int .u32 0, .int .u32 0, .int .u32 0, .int .u32 0, .int .u32 1] 68)) (some ⟨w.heap.size, 0, none⟩) 5 5 [0, 0, 0, 0, 1] :=
  rd_lit .u32 w [0, 0, 0, 0, 1] 68 5 rfl (by decide) (by intro y hy; simp at hy; rcases hy with rfl | rfl <;> decide)

theorem refOne_any (w : World) : Calls Try.prog 17 #[] w (RetL1 w [0, 0, 1]) := by
  go_enter Try.func17, Try.ntmps17
  go_wp2
  go_ret
  exact ⟨_, _, _, rfl, lit_three w, below_al w _⟩

theorem refMost_any (w : World) : Calls Try.prog 48 #[] w (RetL1 w [0, 0, 0, 0, 1]) := by
  go_enter Try.func48, Try.ntmps48
  go_wp2
  go_ret
  exact ⟨_, _, _, rfl, lit_five w, below_al w _⟩

theorem atMost_dr (w : World) {a b : Option Addr} {n m cap cap' : Nat} {xs ys : List Nat} (h : Rd .u32 w a n cap xs) (h' : Rd .u32 w b m cap' ys) :
    Calls Try.prog 68 #[.slice a n cap, .slice b m cap'] w (RetB w (leC xs ys)) := by
  obtain ⟨r, hr⟩ : ∃ r, r = leC xs ys := ⟨_, rfl⟩
  rw [← hr]
  obtain ⟨c, hc⟩ : ∃ c, c = cmpC xs ys := ⟨_, rfl⟩
  have HC := Lib.hid hc
  by_cases e1 : c.2 = 0
  · have d1 : (c.2 == 0) = true := by rw [beq_iff_eq]; exact e1
    have e := Lib.hid (show r = decide (c.1 ≤ 0) by rw [hr, leC, ← hc]; simp [e1])
    obtain ⟨c1, c2⟩ := c
    simp only at e1 d1 e
    subst e1
    clear hr hc
    go_enter Try.func68, Try.ntmps68
    go_wp2_with fail
    have cc := Cmp_any _ h h'
    rw [← HC.out] at cc
    refine cc.mono ?_
    rintro e1 w1 ⟨rfl, nq, rfl⟩
    clear cc
    go_wp2_with fail
    go_ret
    exact ⟨by rw [e.out]; rfl, nq, rfl⟩
  · have d1 : (c.2 == 0) = false := by rw [beq_eq_false_iff_ne]; exact e1
    have e := Lib.hid (show r = false by rw [hr, leC, ← hc]; simp [e1])
    obtain ⟨c1, c2⟩ := c
    simp only at e1 d1 e
    clear hr hc e1
    go_enter Try.func68, Try.ntmps68
    go_wp2_with fail
    have cc := Cmp_any _ h h'
    rw [← HC.out] at cc
    refine cc.mono ?_
    rintro e1 w1 ⟨rfl, nq, rfl⟩
    clear cc
    go_wp2_with fail
    go_ret
    exact ⟨by rw [e.out]; rfl, nq, rfl⟩

theorem atMost_any (w : World) {a b : Option Addr} {n m cap cap' : Nat} {xs ys : List Nat} (h : Rd .u32 w a n cap xs) (h' : Rd .u32 w b m cap' ys) :
    Calls Try.prog 68 #[.slice a n cap, .slice b m cap'] w (RetBB w (leC xs ys)) := by
  refine (atMost_dr w h h').mono ?_
  rintro e w1 ⟨rfl, nq, rfl⟩
  exact ⟨rfl, below_drewN (Below.refl _ _) nq⟩

theorem refAtMost_dr (w : World) {a b : Option Addr} {n m cap cap' : Nat} {xs ys : List Nat} (h : Rd .u32 w a n cap xs) (h' : Rd .u32 w b m cap' ys) :
    Calls Try.prog 29 #[.slice a n cap, .slice b m cap'] w (RetB w (leC xs ys)) := by
  obtain ⟨r, hr⟩ : ∃ r, r = leC xs ys := ⟨_, rfl⟩
  rw [← hr]
  obtain ⟨c, hc⟩ : ∃ c, c = cmpC xs ys := ⟨_, rfl⟩
  have HC := Lib.hid hc
  by_cases e1 : c.2 = 0
  · have d1 : (c.2 == 0) = true := by rw [beq_iff_eq]; exact e1
    have e := Lib.hid (show r = decide (c.1 ≤ 0) by rw [hr, leC, ← hc]; simp [e1])
    obtain ⟨c1, c2⟩ := c
    simp only at e1 d1 e
    subst e1
    clear hr hc
    go_enter Try.func29, Try.ntmps29
    go_wp2_with fail
    have cc := refCmp_any _ h h'
    rw [← HC.out] at cc
    refine cc.mono ?_
    rintro e1 w1 ⟨rfl, nq, rfl⟩
    clear cc
    go_wp2_with fail
    go_ret
    exact ⟨by rw [e.out]; rfl, nq, rfl⟩
  · have d1 : (c.2 == 0) = false := by rw [beq_eq_false_iff_ne]; exact e1
    have e := Lib.hid (show r = false by rw [hr, leC, ← hc]; simp [e1])
    obtain ⟨c1, c2⟩ := c
    simp only at e1 d1 e
    clear hr hc e1
    go_enter Try.func29, Try.ntmps29
    go_wp2_with fail
    have cc := refCmp_any _ h h'
    rw [← HC.out] at cc
    refine cc.mono ?_
    rintro e1 w1 ⟨rfl, nq, rfl⟩
    clear cc
    go_wp2_with fail
    go_ret
    exact ⟨by rw [e.out]; rfl, nq, rfl⟩

theorem refAtMost_any (w : World) {a b : Option Addr} {n m cap cap' : Nat} {xs ys : List Nat} (h : Rd .u32 w a n cap xs) (h' : Rd .u32 w b m cap' ys) :
    Calls Try.prog 29 #[.slice a n cap, .slice b m cap'] w (RetBB w (leC xs ys)) := by
  refine (refAtMost_dr w h h').mono ?_
  rintro e w1 ⟨rfl, nq, rfl⟩
  exact ⟨rfl, below_drewN (Below.refl _ _) nq⟩

end Go.Proofs.Ytmkcdlhhbnakiaa
/- New of polling, in the program and in its answer. -/
namespace Go.Proofs.Ytmkcdlhhbnakiaa
open Go.RowKit Go.Suf
set_option linter.unusedVariables false
set_option linter.unusedSimpArgs false

abbrev zc : Array Value := #[.int .i64 0, .int .i64 0, .int .i64 0, .int .i64 0, .slice none 0 0, .slice none 0 0]

theorem new_bad {bet : Int} (h : ¬ (1 ≤ bet ∧ bet ≤ 999)) : newC bet = (zeroP, 2) := by
  rw [newC, if_neg]
  unfold betOk
  rw [decide_eq_true_eq]
  exact h

theorem new_good {bet : Int} (h : 1 ≤ bet ∧ bet ≤ 999) : newC bet = (⟨bet, 0, 0, 0, [0, 0, 1], [0, 0, 1]⟩, 0) := by
  rw [newC, if_pos]
  unfold betOk
  rw [decide_eq_true_eq]
  exact h

end Go.Proofs.Ytmkcdlhhbnakiaa
/- Check of polling. -/
namespace Go.Proofs.Ytmkcdlhhbnakiaa
open Go.RowKit Go.Suf
set_option linter.unusedVariables false
set_option linter.unusedSimpArgs false

def allIn (xs : List Int) : Bool := xs.all fun x => decide (inS x)

theorem allIn_true {xs : List Int} (h : ∀ j, j < xs.length → inS (ith xs j)) : allIn xs = true := by
  unfold allIn
  rw [List.all_eq_true]
  intro x hx
  obtain ⟨j, hj, rfl⟩ := List.mem_iff_getElem.1 hx
  have := h j hj
  rw [ith, List.getD, List.getElem?_eq_getElem hj] at this
  exact decide_eq_true this

theorem allIn_false {xs : List Int} {j : Nat} (hj : j < xs.length) (h : ¬ inS (ith xs j)) : allIn xs = false := by
  unfold allIn
  rw [List.all_eq_false]
  refine ⟨xs[j], List.getElem_mem _, ?_⟩
  rw [ith, List.getD, List.getElem?_eq_getElem hj] at h
  simpa using h

def RetIx (w : World) (b : Bool) : Ending → World → Prop := fun e w' => ∃ z : Int, e = .returned (.int .i64 z) ∧ w' = w ∧ decide (0 ≤ z) = b

theorem keep_pol {w1 w2 w3 : World} {x : Nat} {u0 u4 u5 : Value} (h : Below w1.heap.size w1 w2 ∧ w2.cell? ⟨x, 0, none⟩ = some u0 ∧ w2.cell? ⟨x, 4, none⟩ = some u4 ∧ w2.cell? ⟨x, 5, none⟩ = some u5)
    (hb : Below w2.heap.size w2 w3) (hx : x < w1.heap.size) : Below w1.heap.size w1 w3 ∧ w3.cell? ⟨x, 0, none⟩ = some u0 ∧ w3.cell? ⟨x, 4, none⟩ = some u4 ∧ w3.cell? ⟨x, 5, none⟩ = some u5 := by
  obtain ⟨h0, h1, h2, h3⟩ := h
  have := h0.size
  exact ⟨h0.trans (hb.mono h0.size), cell_later hb h1 (by omega), cell_later hb h2 (by omega), cell_later hb h3 (by omega)⟩

theorem arr_rdI {w w1 : World} {k : Nat} {cs : Array Value} (H : Has w w1 k cs) {s0 s1 s2 : Int} (h0 : cs[1]? = some (.int .i64 s0)) (h1 : cs[2]? = some (.int .i64 s1)) (h2 : cs[3]? = some (.int .i64 s2)) (p : wide64 s0) (q : wide64 s1) (r : wide64 s2) :
    RdI w1 (some ⟨k, 1, none⟩) 3 3 [s0, s1, s2] := by
  refine ⟨rfl, ⟨by simp [intsV], by decide, fun e => by simp at e, fun i v hv => ⟨k, 1, rfl, ?_⟩, intsV_one _⟩, fun x hx => ?_⟩
  · rcases i with _ | _ | _ | i
    · simp [intsV] at hv; subst hv; exact H.cell 1 _ h0
    · simp [intsV] at hv; subst hv; exact H.cell 2 _ h1
    · simp [intsV] at hv; subst hv; exact H.cell 3 _ h2
    · simp [intsV] at hv
  · simp at hx
    rcases hx with rfl | rfl | rfl <;> assumption

theorem seen_all (q : PV) : allIn [q.s0, q.s1, q.s2] = seenOk q := by
  unfold allIn seenOk
  rw [Bool.eq_iff_iff]
  simp

end Go.Proofs.Ytmkcdlhhbnakiaa
/- Check of polling. -/
namespace Go.Proofs.Ytmkcdlhhbnakiaa
open Go.RowKit Go.Suf
set_option linter.unusedVariables false
set_option linter.unusedSimpArgs false

theorem chkP_no {q : PV} (h : ¬ ((1 ≤ q.bet ∧ q.bet ≤ 999) ∧ seenOk q = true ∧ leC q.lev q.best = true ∧ leC [0, 0, 1] q.best = true ∧ leC q.best [0, 0, 0, 0, 1] = true)) : chkP q = 8 := by
  unfold chkP
  rw [if_neg h]

theorem chkP_yes {q : PV} (h : (1 ≤ q.bet ∧ q.bet ≤ 999) ∧ seenOk q = true ∧ leC q.lev q.best = true ∧ leC [0, 0, 1] q.best = true ∧ leC q.best [0, 0, 0, 0, 1] = true) : chkP q = 0 := by
  unfold chkP
  rw [if_pos h]

end Go.Proofs.Ytmkcdlhhbnakiaa
/- Check of polling in the document's answer. -/
namespace Go.Proofs.Ytmkcdlhhbnakiaa
open Go.RowKit Go.Suf
set_option linter.unusedVariables false
set_option linter.unusedSimpArgs false

end Go.Proofs.Ytmkcdlhhbnakiaa
namespace Go.Suf
open Go.RowKit Go.Suf
open Go.Proofs.Ytmkcdlhhbnakiaa
set_option linter.unusedVariables false
set_option linter.unusedSimpArgs false
theorem RdI.at {w : World} {b off n cap : Nat} {xs : List Int} (h : RdI w (some ⟨b, off, none⟩) n cap xs) (k : Nat) (hk : k < n) : w.cell? ⟨b, off + k, none⟩ = some (.int .i64 (ith xs k)) := by
  obtain ⟨b', off', e, hc⟩ := h.addr (by omega)
  injection e with e
  injection e with e1 e2
  subst e1 e2
  exact hc k hk
end Go.Suf
namespace Go.Proofs.Ytmkcdlhhbnakiaa
open Go.RowKit Go.Suf
set_option linter.unusedVariables false
set_option linter.unusedSimpArgs false
theorem allIn_succ {xs : List Int} {k : Nat} (h : k < xs.length) : allIn (xs.take (k + 1)) = (allIn (xs.take k) && decide (inS (ith xs k))) := by
  unfold allIn ith
  rw [List.take_add_one, List.all_append, List.getElem?_eq_getElem h, List.getD, List.getElem?_eq_getElem h]
  simp

end Go.Proofs.Ytmkcdlhhbnakiaa
