/- The document's answer: Gcd. No condition. -/
import Derived.Test.YtdaajeklnhbhjaaDoorNatM
namespace Go.Proofs.YtdaajeklnhbhjaaDoor
open Go.RowKit Go.Suf
set_option linter.unusedVariables false
set_option linter.unusedSimpArgs false

/-- What the loop keeps. -/
structure Stn (A G X Y tw k : Nat) : Prop where
  gcd : 2 ^ tw * Nat.gcd X Y = G
  le : 2 ^ tw * X ≤ A
  sum : X + Y = k
  tw : tw ≤ 3072

theorem Stn.both {A G X Y tw k : Nat} (h : Stn A G X Y tw k) (hA : A < pw 96) (hX : 0 < X) (e1 : X % 2 = 0) (e2 : Y % 2 = 0) : Stn A G (X / 2) (Y / 2) (tw + 1) (X / 2 + Y / 2) ∧ X / 2 + Y / 2 < k ∧ tw < 3072 := by
  have hlt : tw < 3072 := by
    have a := h.le
    have b := Nat.le_mul_of_pos_right (2 ^ tw) hX
    rw [pw_two] at hA
    have c : 2 ^ tw < 2 ^ (32 * 96) := by omega
    rcases Nat.lt_or_ge tw 3072 with h | h
    · exact h
    · have := Nat.pow_le_pow_right (show 0 < 2 by decide) h
      omega
  have hs := h.sum
  refine ⟨⟨?_, ?_, rfl, by omega⟩, by omega, hlt⟩
  · rw [← h.gcd, gcd_half_both e1 e2, Nat.pow_succ, Nat.mul_assoc]
  · have e : 2 ^ (tw + 1) * (X / 2) = 2 ^ tw * X := by
      rw [Nat.pow_succ, Nat.mul_assoc]
      congr 1
      omega
    rw [e]
    exact h.le

theorem Stn.left {A G X Y tw k : Nat} (h : Stn A G X Y tw k) (hX : 0 < X) (e1 : X % 2 = 0) (e2 : Y % 2 = 1) : Stn A G (X / 2) Y tw (X / 2 + Y) ∧ X / 2 + Y < k := by
  have hs := h.sum
  refine ⟨⟨?_, ?_, rfl, h.tw⟩, by omega⟩
  · rw [← h.gcd, gcd_half_left e1 e2]
  · exact Nat.le_trans (Nat.mul_le_mul_left _ (Nat.div_le_self _ _)) h.le

theorem Stn.right {A G X Y tw k : Nat} (h : Stn A G X Y tw k) (hY : 0 < Y) (e1 : X % 2 = 1) (e2 : Y % 2 = 0) : Stn A G X (Y / 2) tw (X + Y / 2) ∧ X + Y / 2 < k := by
  have hs := h.sum
  refine ⟨⟨?_, h.le, rfl, h.tw⟩, by omega⟩
  rw [← h.gcd, gcd_half_right e1 e2]

theorem Stn.down {A G X Y tw k : Nat} (h : Stn A G X Y tw k) (hX : 0 < X) (hlt : X ≤ Y) : Stn A G X (Y - X) tw (X + (Y - X)) ∧ X + (Y - X) < k := by
  have hs := h.sum
  refine ⟨⟨?_, h.le, rfl, h.tw⟩, by omega⟩
  rw [← h.gcd, gcd_less hlt]

theorem Stn.up {A G X Y tw k : Nat} (h : Stn A G X Y tw k) (hY : 0 < Y) (hge : Y ≤ X) : Stn A G (X - Y) Y tw (X - Y + Y) ∧ X - Y + Y < k := by
  have hs := h.sum
  refine ⟨⟨?_, ?_, rfl, h.tw⟩, by omega⟩
  · rw [← h.gcd, gcd_less' hge]
  · exact Nat.le_trans (Nat.mul_le_mul_left _ (Nat.sub_le _ _)) h.le

theorem mod2_bool {x : Nat} : (((x : Int) % 2 == 0) = true ↔ x % 2 = 0) := by
  rw [beq_iff_eq]
  omega

theorem limbs_len_val {N : Nat} {ys : List Nat} (hs : small32 ys) (h : N ≤ val ys) : (limbs N).length ≤ ys.length :=
  len_le hs (limbs_canon N) (by rw [val_limbs]; exact h)

end Go.Proofs.YtdaajeklnhbhjaaDoor
/- The document's answer: Text. No condition. -/
namespace Go.Proofs.YtdaajeklnhbhjaaDoor
open Go.RowKit Go.Suf
set_option linter.unusedVariables false
set_option linter.unusedSimpArgs false

theorem strB_append (xs ys : List Nat) : strB xs ++ strB ys = strB (xs ++ ys) := by
  apply ByteArray.ext
  simp [strB]

theorem digit_at {d : Nat} (hd : d < 10) : (⟨#[48, 49, 50, 51, 52, 53, 54, 55, 56, 57]⟩ : ByteArray).extract d (d + 1) = strB [d + 48] := by
  rcases (show d = 0 ∨ d = 1 ∨ d = 2 ∨ d = 3 ∨ d = 4 ∨ d = 5 ∨ d = 6 ∨ d = 7 ∨ d = 8 ∨ d = 9 by omega) with h | h | h | h | h | h | h | h | h | h <;> subst h <;> rfl

theorem chars_more (ds : List Nat) (d : Nat) : strB [d + 48] ++ strB (chars ds).reverse = strB (chars (ds ++ [d])).reverse := by
  rw [strB_append]
  simp [chars]

end Go.Proofs.YtdaajeklnhbhjaaDoor
/- The document's answer: Read. No condition. -/
namespace Go.Proofs.YtdaajeklnhbhjaaDoor
open Go.RowKit Go.Suf
set_option linter.unusedVariables false
set_option linter.unusedSimpArgs false

theorem formB_nil : formB [] = false := rfl

theorem formB_zero {xs : List Nat} (h1 : nth xs 0 = 48) (h2 : 1 < xs.length) : formB xs = false := by
  unfold formB
  rw [decide_eq_false_iff_not]
  rintro ⟨_, h, _⟩
  have := h h1
  omega

end Go.Proofs.YtdaajeklnhbhjaaDoor
/- What nat and its answer do to valid numbers: the contracts at the numbers themselves. Conditions: as each says. -/
namespace Go.Proofs.YtdaajeklnhbhjaaDoor
open Go.RowKit Go.Suf
set_option linter.unusedVariables false
set_option linter.unusedSimpArgs false

theorem chk_limbs {A : Nat} (h : A < pw 96) : chk (limbs A) = 0 := chk_ok.2 ⟨limbs_len_le h, limbs_canon A⟩

theorem both_limbs {A B : Nat} (hA : A < pw 96) (hB : B < pw 96) : bothC (limbs A) (limbs B) = 0 := by rw [bothC, if_pos (chk_limbs hA), chk_limbs hB]

theorem fit_limbs {A : Nat} (h : A < pw 96) : fitC A = (limbs A, 0) := by
  have := limbs_len_le h
  rw [fitC, if_neg (by omega)]

theorem fit_great {A : Nat} (h : ¬ A < pw 96) : fitC A = ([], 30) := by
  rw [fitC, if_pos]
  rcases Nat.lt_or_ge 96 (limbs A).length with h' | h'
  · exact h'
  · exfalso
    have := val_lt' (limbs_small A)
    rw [val_limbs] at this
    exact h (Nat.lt_of_lt_of_le this (pw_le h'))

theorem add_limbs {A B : Nat} (hA : A < pw 96) (hB : B < pw 96) : addC (limbs A) (limbs B) = fitC (A + B) := by
  rw [addC, if_pos (both_limbs hA hB), val_limbs, val_limbs]

theorem mul_limbs {A B : Nat} (hA : A < pw 96) (hB : B < pw 96) : mulC (limbs A) (limbs B) = fitC (A * B) := by
  rw [mulC, if_pos (both_limbs hA hB), val_limbs, val_limbs]

theorem add_ok {A B : Nat} (h : A + B < pw 96) : addC (limbs A) (limbs B) = (limbs (A + B), 0) := by
  rw [add_limbs (by omega) (by omega), fit_limbs h]

theorem mul_ok {A B : Nat} (hA : A < pw 96) (hB : B < pw 96) (h : A * B < pw 96) : mulC (limbs A) (limbs B) = (limbs (A * B), 0) := by
  rw [mul_limbs hA hB, fit_limbs h]

theorem sub_ok {A B : Nat} (hA : A < pw 96) (h : B ≤ A) : subC (limbs A) (limbs B) = (limbs (A - B), 0) := by
  rw [subC, if_pos (both_limbs hA (by omega)), val_limbs, val_limbs, if_neg (by omega)]

theorem sub_none {A B : Nat} (hB : B < pw 96) (h : A < B) : subC (limbs A) (limbs B) = ([], 6) := by
  rw [subC, if_pos (both_limbs (by omega) hB), val_limbs, val_limbs, if_pos h]

/-- The sign of the difference of two numbers. -/
def cmpN (A B : Nat) : Int := if A < B then -1 else if B < A then 1 else 0

theorem ord_limbs (A B : Nat) : ordC (limbs A) (limbs B) = cmpN A B := by rw [ordC, val_limbs, val_limbs]; rfl

theorem cmp_ok {A B : Nat} (hA : A < pw 96) (hB : B < pw 96) : cmpC (limbs A) (limbs B) = (cmpN A B, 0) := by
  rw [cmpC, if_pos (both_limbs hA hB), ord_limbs]

theorem limbs_len0 {A : Nat} (h : 0 < A) : (limbs A).length ≠ 0 := by
  rw [limbs_pos (by omega)]
  simp

theorem div_ok {A B : Nat} (hA : A < pw 96) (hB : B < pw 96) (h : 0 < B) : divC (limbs A) (limbs B) = (limbs (A / B), limbs (A % B), 0) := by
  rw [divC, if_pos (both_limbs hA hB), if_neg (limbs_len0 h), val_limbs, val_limbs]

theorem div_zero {A : Nat} (hA : A < pw 96) : divC (limbs A) (limbs 0) = ([], [], 40) := by
  rw [divC, if_pos (both_limbs hA (pw_pos 96)), limbs_zero, if_pos (show ([] : List Nat).length = 0 from rfl)]

theorem gcd_ok {A B : Nat} (hA : A < pw 96) (hB : B < pw 96) : gcdC (limbs A) (limbs B) = (limbs (Nat.gcd A B), 0) := by
  rw [gcdC, if_pos (both_limbs hA hB), val_limbs, val_limbs]

theorem text_ok {A : Nat} (hA : A < pw 96) : textC (limbs A) = (textN A, 0) := by rw [textC, if_pos (chk_limbs hA), val_limbs]

theorem read_ok {A : Nat} (hA : A < pw 96) : readC (textN A) = (limbs A, 0) := by
  rw [readC, if_pos (textN_form A), dread_textN, fit_limbs hA]

theorem word_ok {A : Nat} (hA : A < 18446744073709551616) : wordC (limbs A) = (A, 0) := by
  have h2 : A < pw 2 := hA
  have := limbs_len_le h2
  rw [wordC, if_pos (chk_limbs (Nat.lt_of_lt_of_le h2 (pw_le (by decide)))), if_neg (by omega), val_limbs]

theorem word_great {A : Nat} (hA : A < pw 96) (h : ¬ A < 18446744073709551616) : wordC (limbs A) = (0, 30) := by
  rw [wordC, if_pos (chk_limbs hA), if_pos]
  rcases Nat.lt_or_ge 2 (limbs A).length with h' | h'
  · exact h'
  · exfalso
    have := val_lt' (limbs_small A)
    rw [val_limbs] at this
    exact h (Nat.lt_of_lt_of_le this (pw_le h'))

theorem same_ok (A B : Nat) : sameN (limbs A) (limbs B) = decide (A = B) := by
  unfold sameN
  rw [decide_eq_decide]
  exact ⟨limbs_inj, fun h => by rw [h]⟩

theorem same_self (xs : List Nat) : sameN xs xs = true := by simp [sameN]

theorem pw_add_lt {a b i k : Nat} (ha : a < pw i) (hb : b < pw i) (h : i < k) : a + b < pw k := by
  have := pw_le (show i + 1 ≤ k from h)
  rw [pw_succ] at this
  omega

theorem pw_mul_lt {a b i j k : Nat} (ha : a < pw i) (hb : b < pw j) (h : i + j ≤ k) : a * b < pw k := Nat.lt_of_lt_of_le (mul_lt_pw ha hb) (pw_le h)

theorem pw_wide {a i k : Nat} (ha : a < pw i) (h : i ≤ k) : a < pw k := Nat.lt_of_lt_of_le ha (pw_le h)

theorem same_eq {A B : Nat} (h : A = B) : sameN (limbs A) (limbs B) = true := by rw [h]; exact same_self _

/-- Whether a list is a valid number of at most m limbs. -/
def vldN (m : Nat) (xs : List Nat) : Bool := decide (xs.length ≤ m ∧ chk xs = 0)

theorem vldN_limbs {m : Nat} {a : Option Addr} {w : World} {n cap : Nat} {xs : List Nat} (h : Rd .u32 w a n cap xs) (hv : vldN m xs = true) (hm : m ≤ 96) : ∃ A, xs = limbs A ∧ A < pw m := by
  unfold vldN at hv
  rw [decide_eq_true_eq] at hv
  have hs : small32 xs := h.bd
  refine ⟨val xs, (limbs_val hs (chk_ok.1 hv.2).2).symm, Nat.lt_of_lt_of_le (val_lt' hs) (pw_le hv.1)⟩

/-! ### right: a list of lists of limbs -/

/-- The slice at a reads as lists of limbs. -/
structure RdNL (w : World) (a : Option Addr) (n cap : Nat) (xss : List (List Nat)) : Prop where
  len : xss.length = n
  small : n ≤ 100
  cell : ∀ i, i < n → ∃ b off d m c, a = some ⟨b, off, none⟩ ∧ w.cell? ⟨b, off + i, none⟩ = some (.slice d m c) ∧ Rd .u32 w d m c (xss.getD i [])

def rightB (m : Nat) (xss : List (List Nat)) : Bool := decide (∀ xs ∈ xss, vldN m xs = true)

theorem rightB_bad {m : Nat} {xss : List (List Nat)} {k : Nat} (hk : k < xss.length) (h : vldN m (xss.getD k []) = false) : rightB m xss = false := by
  unfold rightB
  rw [decide_eq_false_iff_not]
  intro hall
  have := hall (xss.getD k []) (by simp [List.getD, hk])
  rw [h] at this
  cases this

theorem rightB_good {m : Nat} {xss : List (List Nat)} (h : ∀ k, k < xss.length → vldN m (xss.getD k []) = true) : rightB m xss = true := by
  unfold rightB
  rw [decide_eq_true_eq]
  intro xs hx
  obtain ⟨i, hi, rfl⟩ := List.getElem_of_mem hx
  have := h i hi
  simpa [List.getD, hi] using this

theorem rdNL_lit3 (w : World) {a b c : Option Addr} {n m p cn cm cp : Nat} {xs ys zs : List Nat} (hx : Rd .u32 w a n cn xs) (hy : Rd .u32 w b m cm ys) (hz : Rd .u32 w c p cp zs) :
    RdNL (w.alloc (.cells #[.slice a n cn, .slice b m cm, .slice c p cp] 22)) (some ⟨w.heap.size, 0, none⟩) 3 3 [xs, ys, zs] := by
  refine ⟨rfl, by decide, fun i hi => ?_⟩
  have hb : Below w.heap.size w (w.alloc (.cells #[.slice a n cn, .slice b m cm, .slice c p cp] 22)) := (Below.refl _ _).alloc (Nat.le_refl _) _
  have hc : ∀ j, (w.alloc (.cells #[.slice a n cn, .slice b m cm, .slice c p cp] 22)).cell? ⟨w.heap.size, 0 + j, none⟩ = #[Value.slice a n cn, .slice b m cm, .slice c p cp][j]? := by
    intro j
    rw [Nat.zero_add, cell_of_row _ _ _ _ _ _ (heap_alloc_new w _)]
  rcases (show i = 0 ∨ i = 1 ∨ i = 2 by omega) with rfl | rfl | rfl
  · exact ⟨_, 0, a, n, cn, rfl, hc 0, hx.below hb⟩
  · exact ⟨_, 0, b, m, cm, rfl, hc 1, hy.below hb⟩
  · exact ⟨_, 0, c, p, cp, rfl, hc 2, hz.below hb⟩

theorem rdNL_lit2 (w : World) {a b : Option Addr} {n m cn cm : Nat} {xs ys : List Nat} (hx : Rd .u32 w a n cn xs) (hy : Rd .u32 w b m cm ys) :
    RdNL (w.alloc (.cells #[.slice a n cn, .slice b m cm] 22)) (some ⟨w.heap.size, 0, none⟩) 2 2 [xs, ys] := by
  refine ⟨rfl, by decide, fun i hi => ?_⟩
  have hb : Below w.heap.size w (w.alloc (.cells #[.slice a n cn, .slice b m cm] 22)) := (Below.refl _ _).alloc (Nat.le_refl _) _
  have hc : ∀ j, (w.alloc (.cells #[.slice a n cn, .slice b m cm] 22)).cell? ⟨w.heap.size, 0 + j, none⟩ = #[Value.slice a n cn, .slice b m cm][j]? := by
    intro j
    rw [Nat.zero_add, cell_of_row _ _ _ _ _ _ (heap_alloc_new w _)]
  rcases (show i = 0 ∨ i = 1 by omega) with rfl | rfl
  · exact ⟨_, 0, a, n, cn, rfl, hc 0, hx.below hb⟩
  · exact ⟨_, 0, b, m, cm, rfl, hc 1, hy.below hb⟩

theorem rdNL_lit1 (w : World) {a : Option Addr} {n cn : Nat} {xs : List Nat} (hx : Rd .u32 w a n cn xs) :
    RdNL (w.alloc (.cells #[.slice a n cn] 22)) (some ⟨w.heap.size, 0, none⟩) 1 1 [xs] := by
  refine ⟨rfl, by decide, fun i hi => ?_⟩
  have hb : Below w.heap.size w (w.alloc (.cells #[.slice a n cn] 22)) := (Below.refl _ _).alloc (Nat.le_refl _) _
  have hc : ∀ j, (w.alloc (.cells #[.slice a n cn] 22)).cell? ⟨w.heap.size, 0 + j, none⟩ = #[Value.slice a n cn][j]? := by
    intro j
    rw [Nat.zero_add, cell_of_row _ _ _ _ _ _ (heap_alloc_new w _)]
  obtain rfl : i = 0 := by omega
  exact ⟨_, 0, a, n, cn, rfl, hc 0, hx.below hb⟩

end Go.Proofs.YtdaajeklnhbhjaaDoor
/- Rational numbers as lists of limbs: the image of a Rat, its limits, and what the operations answer. No program in sight. -/
namespace Go.Proofs.YtdaajeklnhbhjaaDoor
open Go.RowKit Go.Suf
set_option linter.unusedVariables false
set_option linter.unusedSimpArgs false

/-- What the three fields of an api.Ratio read as. -/
structure QV where
  neg : Bool
  num : List Nat
  den : List Nat

def zeroV : QV := ⟨false, [], []⟩

def sg (neg : Bool) (N : Nat) : Int := if neg then -(N : Int) else (N : Int)

theorem sg_abs (neg : Bool) (N : Nat) : (sg neg N).natAbs = N := by
  unfold sg
  cases neg <;> simp

theorem sg_neg (neg : Bool) (N : Nat) : decide (sg neg N < 0) = (neg && decide (0 < N)) := by
  unfold sg
  cases neg
  · simp
  · by_cases h : 0 < N
    · simp [h]
    · simp [h]

theorem sg_of (z : Int) : sg (decide (z < 0)) z.natAbs = z := by
  unfold sg
  by_cases h : z < 0
  · simp [h]; omega
  · simp [h]; omega

/-- A rational number's three fields. -/
def ofQ (q : Rat) : QV := ⟨decide (q.num < 0), limbs q.num.natAbs, limbs q.den⟩

/-- n / d in lowest terms, as the code makes it. -/
def lowV (neg : Bool) (N D : Nat) : QV := ⟨neg && decide (0 < N / N.gcd D), limbs (N / N.gcd D), limbs (D / N.gcd D)⟩

theorem sg_div (neg : Bool) (N g : Nat) (h : g ∣ N) (hg : 0 < g) : sg neg N / (g : Int) = sg neg (N / g) := by
  obtain ⟨k, rfl⟩ := h
  rw [Nat.mul_div_cancel_left _ hg]
  unfold sg
  cases neg
  · simp only [Bool.false_eq_true, if_false]
    rw [Int.natCast_mul, Int.mul_ediv_cancel_left _ (by omega)]
  · simp only [if_true]
    rw [Int.natCast_mul, show -((g : Int) * (k : Int)) = (g : Int) * (-(k : Int)) by rw [Int.mul_neg], Int.mul_ediv_cancel_left _ (by omega)]

theorem lowV_eq (neg : Bool) (N D : Nat) (hD : D ≠ 0) : lowV neg N D = ofQ (mkRat (sg neg N) D) := by
  have hg : 0 < N.gcd D := Nat.gcd_pos_of_pos_right _ (by omega)
  rw [mkRat, dif_neg hD, Rat.normalize_eq]
  unfold lowV ofQ
  simp only [sg_abs]
  rw [sg_div _ _ _ (Nat.gcd_dvd_left N D) hg, sg_abs, sg_neg]

/-- The number that three fields stand for. -/
def toQ (x : QV) : Rat := mkRat (sg x.neg (val x.num)) (val x.den)

theorem toQ_ofQ (q : Rat) : toQ (ofQ q) = q := by
  unfold toQ ofQ
  simp only [val_limbs, sg_of]
  exact Rat.mkRat_self q

/-- The number's fields have at most 96 limbs. -/
def fitQ (q : Rat) : Prop := q.num.natAbs < pw 96 ∧ q.den < pw 96

/-- The error of a number: ErrBad, or none. -/
def chkV (x : QV) : Int := if bothC x.num x.den = 0 ∧ x.den.length ≠ 0 ∧ ¬ (x.neg = true ∧ x.num.length = 0) ∧ Nat.gcd (val x.num) (val x.den) = 1 then 0 else 8

theorem chkV_two (x : QV) : chkV x = 0 ∨ chkV x = 8 := by
  unfold chkV
  split
  · exact .inl rfl
  · exact .inr rfl

theorem limbs_len_zero {A : Nat} : (limbs A).length = 0 ↔ A = 0 := by
  constructor
  · intro h
    rcases Nat.eq_zero_or_pos A with h' | h'
    · exact h'
    · exact absurd h (limbs_len0 h')
  · rintro rfl
    rw [limbs_zero]
    rfl

theorem chkV_ofQ {q : Rat} (h : fitQ q) : chkV (ofQ q) = 0 := by
  unfold chkV ofQ
  rw [if_pos]
  refine ⟨both_limbs h.1 h.2, ?_, ?_, ?_⟩
  · exact fun e => q.den_nz (limbs_len_zero.1 e)
  · rintro ⟨e1, e2⟩
    have := limbs_len_zero.1 e2
    simp at e1
    omega
  · rw [val_limbs, val_limbs]
    exact q.reduced

theorem chkV_parts {x : QV} (hn : small32 x.num) (hd : small32 x.den) (hc : chkV x = 0) :
    x.num = limbs (val x.num) ∧ x.den = limbs (val x.den) ∧ val x.num < pw 96 ∧ val x.den < pw 96 ∧ val x.den ≠ 0 ∧ (x.neg = true → val x.num ≠ 0) ∧ Nat.gcd (val x.num) (val x.den) = 1 := by
  unfold chkV at hc
  split at hc
  case isFalse => simp at hc
  case isTrue h =>
    obtain ⟨h1, h2, h3, h4⟩ := h
    have h5 : chk x.num = 0 := by
      unfold bothC at h1
      split at h1
      · assumption
      · rename_i h'; exact absurd h1 h'
    have h6 : chk x.den = 0 := by
      unfold bothC at h1
      rwa [if_pos h5] at h1
    have n1 := (limbs_val hn (chk_ok.1 h5).2).symm
    have n2 := (limbs_val hd (chk_ok.1 h6).2).symm
    refine ⟨n1, n2, Nat.lt_of_lt_of_le (val_lt' hn) (pw_le (chk_ok.1 h5).1), Nat.lt_of_lt_of_le (val_lt' hd) (pw_le (chk_ok.1 h6).1), ?_, ?_, h4⟩
    · intro e
      rw [e, limbs_zero] at n2
      exact h2 (by rw [n2]; rfl)
    · intro hg e
      rw [e, limbs_zero] at n1
      exact h3 ⟨hg, by rw [n1]; rfl⟩

/-- A valid number is the image of a rational number. -/
theorem chkV_get {x : QV} (hn : small32 x.num) (hd : small32 x.den) (hc : chkV x = 0) : ∃ q, x = ofQ q ∧ fitQ q := by
  obtain ⟨n1, n2, l1, l2, z, s, g⟩ := chkV_parts hn hd hc
  have e1 : lowV x.neg (val x.num) (val x.den) = x := by
    unfold lowV
    rw [g, Nat.div_one, Nat.div_one, ← n1, ← n2]
    cases x with
    | mk neg num den =>
      cases neg
      · simp
      · have := s rfl
        simp
        simp at this
        omega
  refine ⟨mkRat (sg x.neg (val x.num)) (val x.den), by rw [← lowV_eq _ _ _ z, e1], ?_⟩
  have e2 := lowV_eq x.neg (val x.num) (val x.den) z
  rw [e1] at e2
  have a1 : x.num = limbs (mkRat (sg x.neg (val x.num)) (val x.den)).num.natAbs := by rw [e2]; unfold ofQ; simp only [val_limbs, sg_of, Rat.mkRat_self]
  have a2 : x.den = limbs (mkRat (sg x.neg (val x.num)) (val x.den)).den := by rw [e2]; unfold ofQ; simp only [val_limbs, sg_of, Rat.mkRat_self]
  constructor
  · have : val x.num = _ := congrArg val a1
    rw [val_limbs] at this
    rw [← this]
    exact l1
  · have : val x.den = _ := congrArg val a2
    rw [val_limbs] at this
    rw [← this]
    exact l2

theorem ofQ_inj {p q : Rat} (h : ofQ p = ofQ q) : p = q := by rw [← toQ_ofQ p, h, toQ_ofQ]

end Go.Proofs.YtdaajeklnhbhjaaDoor
/- What the operations on rational numbers answer, and how they answer it. No program in sight. -/
namespace Go.Proofs.YtdaajeklnhbhjaaDoor
open Go.RowKit Go.Suf
set_option linter.unusedVariables false
set_option linter.unusedSimpArgs false

/-! ### the sign, and the comparison -/

def sideV (x : QV) : Int := if x.num.length = 0 then 0 else if x.neg = true then -1 else 1
def sideQ (q : Rat) : Int := if q.num = 0 then 0 else if q.num < 0 then -1 else 1

theorem sideV_ofQ (q : Rat) : sideV (ofQ q) = sideQ q := by
  unfold sideV sideQ ofQ
  simp only [limbs_len_zero, Int.natAbs_eq_zero, decide_eq_true_eq]

theorem sideQ_three (q : Rat) : sideQ q = -1 ∨ sideQ q = 0 ∨ sideQ q = 1 := by
  unfold sideQ
  split
  · simp
  · split <;> simp

/-- The sign of p - q. -/
def cmpR (p q : Rat) : Int := if p < q then -1 else if q < p then 1 else 0

theorem cmpR_num (p q : Rat) : cmpR p q = if p.num * q.den < q.num * p.den then -1 else if q.num * p.den < p.num * q.den then 1 else 0 := by
  unfold cmpR
  simp only [Rat.lt_iff]

theorem num_cases (q : Rat) : (sideQ q = 0 ∧ q.num = 0) ∨ (sideQ q = -1 ∧ q.num < 0 ∧ q.num = -(q.num.natAbs : Int)) ∨ (sideQ q = 1 ∧ 0 < q.num ∧ q.num = (q.num.natAbs : Int)) := by
  unfold sideQ
  by_cases h : q.num = 0
  · simp [h]
  · by_cases h' : q.num < 0
    · right; left
      rw [if_neg h, if_pos h']
      exact ⟨rfl, h', by omega⟩
    · right; right
      rw [if_neg h, if_neg h']
      exact ⟨rfl, by omega, by omega⟩

theorem den_pos' (q : Rat) : (0 : Int) < (q.den : Int) := by
  have := q.den_nz
  omega

/-- Where the signs differ, or both are 0, they tell. -/
theorem cmpR_side {p q : Rat} (h : sideQ p ≠ sideQ q ∨ sideQ p = 0) : cmpR p q = max (-1) (min 1 (sideQ p - sideQ q)) := by
  rw [cmpR_num]
  have dp := den_pos' p
  have dq := den_pos' q
  rcases num_cases p with ⟨s, z⟩ | ⟨s, z, _⟩ | ⟨s, z, _⟩ <;> rcases num_cases q with ⟨t, y⟩ | ⟨t, y, _⟩ | ⟨t, y, _⟩ <;> rw [s, t] <;> rw [s, t] at h
  · rw [z, y]; simp; decide
  · have : q.num * p.den < 0 := Int.mul_neg_of_neg_of_pos y dp
    rw [z, Int.zero_mul, if_neg (by omega), if_pos this]; decide
  · have : 0 < q.num * p.den := Int.mul_pos y dp
    rw [z, Int.zero_mul, if_pos this]; decide
  · have : p.num * q.den < 0 := Int.mul_neg_of_neg_of_pos z dq
    rw [y, Int.zero_mul, if_pos this]; decide
  · exact absurd h (by decide)
  · have h1 : p.num * q.den < 0 := Int.mul_neg_of_neg_of_pos z dq
    have h2 : 0 < q.num * p.den := Int.mul_pos y dp
    rw [if_pos (by omega)]; decide
  · have : 0 < p.num * q.den := Int.mul_pos z dq
    rw [y, Int.zero_mul, if_neg (by omega), if_pos this]; decide
  · have h1 : 0 < p.num * q.den := Int.mul_pos z dq
    have h2 : q.num * p.den < 0 := Int.mul_neg_of_neg_of_pos y dp
    rw [if_neg (by omega), if_pos (by omega)]; decide
  · exact absurd h (by decide)

/-- Where the signs are the same, the cross products tell. -/
theorem cmpR_cross {p q : Rat} (h : sideQ p = sideQ q) : cmpR p q = sideQ p * cmpN (p.num.natAbs * q.den) (q.num.natAbs * p.den) := by
  rw [cmpR_num]
  unfold cmpN
  have e : ∀ a b : Nat, (a < b) = ((a : Int) < (b : Int)) := fun a b => by simp
  simp only [e, Int.natCast_mul]
  rcases num_cases p with ⟨s, z⟩ | ⟨s, z, z'⟩ | ⟨s, z, z'⟩ <;> rcases num_cases q with ⟨t, y⟩ | ⟨t, y, y'⟩ | ⟨t, y, y'⟩ <;> rw [s, t] at h <;> try (exact absurd h (by decide))
  · rw [s, z, y]; simp
  · rw [s]
    generalize hA : (p.num.natAbs : Int) * (q.den : Int) = A
    generalize hB : (q.num.natAbs : Int) * (p.den : Int) = B
    rw [z', y', Int.neg_mul, Int.neg_mul, hA, hB]
    by_cases h1 : A < B
    · rw [if_neg (by omega), if_pos (by omega), if_pos h1]; decide
    · by_cases h2 : B < A
      · rw [if_pos (by omega), if_neg h1, if_pos h2]; decide
      · rw [if_neg (by omega), if_neg (by omega), if_neg h1, if_neg h2]; decide
  · rw [s]
    generalize hA : (p.num.natAbs : Int) * (q.den : Int) = A
    generalize hB : (q.num.natAbs : Int) * (p.den : Int) = B
    rw [z', y', hA, hB, Int.one_mul]

/-- What Cmp answers to two valid numbers. -/
def cmpQ (p q : Rat) : Int × Int :=
  if sideQ p = sideQ q ∧ sideQ p ≠ 0 ∧ ¬ (p.num.natAbs * q.den < pw 96 ∧ q.num.natAbs * p.den < pw 96) then (0, 30) else (cmpR p q, 0)

def cmpV (x y : QV) : Int × Int := if chkV x = 0 ∧ chkV y = 0 then cmpQ (toQ x) (toQ y) else (0, 8)

/-! ### sum, product, quotient -/

theorem sg_mul (n m : Bool) (a b : Nat) : sg n a * sg m b = sg (n != m) (a * b) := by
  unfold sg
  cases n <;> cases m <;> simp [Int.neg_mul, Int.mul_neg]

theorem sg_scale (n : Bool) (a b : Nat) : sg n a * (b : Int) = sg n (a * b) := by
  unfold sg
  cases n <;> simp [Int.neg_mul]

theorem sg_add (n : Bool) (a b : Nat) : sg n a + sg n b = sg n (a + b) := by
  unfold sg
  cases n <;> simp <;> omega

theorem sg_sub {n m : Bool} (h : n ≠ m) {a b : Nat} (hb : b ≤ a) : sg n a + sg m b = sg n (a - b) := by
  unfold sg
  cases n <;> cases m <;> simp at h ⊢ <;> omega

theorem mul_den_nz (p q : Rat) : p.den * q.den ≠ 0 := Nat.mul_ne_zero p.den_nz q.den_nz

theorem add_mk (p q : Rat) : p + q = mkRat (sg (decide (p.num < 0)) (p.num.natAbs * q.den) + sg (decide (q.num < 0)) (q.num.natAbs * p.den)) (p.den * q.den) := by
  rw [Rat.add_def', ← sg_scale, ← sg_scale, sg_of, sg_of]

theorem add_same {p q : Rat} (h : decide (p.num < 0) = decide (q.num < 0)) : lowV (decide (p.num < 0)) (p.num.natAbs * q.den + q.num.natAbs * p.den) (p.den * q.den) = ofQ (p + q) := by
  rw [lowV_eq _ _ _ (mul_den_nz p q), add_mk, ← h, sg_add]

theorem add_more {p q : Rat} (h : decide (p.num < 0) ≠ decide (q.num < 0)) (hb : q.num.natAbs * p.den ≤ p.num.natAbs * q.den) :
    lowV (decide (p.num < 0)) (p.num.natAbs * q.den - q.num.natAbs * p.den) (p.den * q.den) = ofQ (p + q) := by
  rw [lowV_eq _ _ _ (mul_den_nz p q), add_mk, sg_sub h hb]

theorem add_less {p q : Rat} (h : decide (p.num < 0) ≠ decide (q.num < 0)) (hb : p.num.natAbs * q.den ≤ q.num.natAbs * p.den) :
    lowV (decide (q.num < 0)) (q.num.natAbs * p.den - p.num.natAbs * q.den) (p.den * q.den) = ofQ (p + q) := by
  rw [lowV_eq _ _ _ (mul_den_nz p q), add_mk, Int.add_comm, sg_sub (Ne.symm h) hb]

theorem mul_low (p q : Rat) : lowV (decide (p.num < 0) != decide (q.num < 0)) (p.num.natAbs * q.num.natAbs) (p.den * q.den) = ofQ (p * q) := by
  rw [lowV_eq _ _ _ (mul_den_nz p q), Rat.mul_def', ← sg_mul, sg_of, sg_of]

/-- What Add answers to two valid numbers. -/
def addQ (p q : Rat) : QV × Int :=
  if p.num.natAbs * q.den < pw 96 ∧ q.num.natAbs * p.den < pw 96 ∧ p.den * q.den < pw 96 ∧ (decide (p.num < 0) = decide (q.num < 0) → p.num.natAbs * q.den + q.num.natAbs * p.den < pw 96) then (ofQ (p + q), 0) else (zeroV, 30)

def mulQ (p q : Rat) : QV × Int :=
  if p.num.natAbs * q.num.natAbs < pw 96 ∧ p.den * q.den < pw 96 then (ofQ (p * q), 0) else (zeroV, 30)

def divQ (p q : Rat) : QV × Int := if q = 0 then (zeroV, 40) else mulQ p q⁻¹

def bothV (f : Rat → Rat → QV × Int) (x y : QV) : QV × Int := if chkV x = 0 ∧ chkV y = 0 then f (toQ x) (toQ y) else (zeroV, 8)

def addV : QV → QV → QV × Int := bothV addQ
def subV : QV → QV → QV × Int := bothV fun p q => addQ p (-q)
def mulV : QV → QV → QV × Int := bothV mulQ
def divV : QV → QV → QV × Int := bothV divQ

/-- The fields of a reciprocal. -/
theorem ofQ_inv {q : Rat} (h : q ≠ 0) : ofQ q⁻¹ = ⟨decide (q.num < 0), limbs q.den, limbs q.num.natAbs⟩ := by
  have hn : q.num ≠ 0 := fun e => h (Rat.num_eq_zero.1 e)
  have hd := den_pos' q
  unfold ofQ
  rw [Rat.num_inv, Rat.den_inv, if_neg hn]
  rcases Int.lt_or_gt_of_ne hn with h1 | h1
  · rw [Int.sign_eq_neg_one_of_neg h1, Int.neg_one_mul]
    have hd' : 0 < q.den := by omega
    simp [h1, hd']
  · rw [Int.sign_eq_one_of_pos h1, Int.one_mul]
    have h2 : ¬ (q.num < 0) := by omega
    have h3 : ¬ ((q.den : Int) < 0) := by omega
    simp [h2]

theorem fitQ_inv {q : Rat} (h : q ≠ 0) (hf : fitQ q) : fitQ q⁻¹ := by
  have hn : q.num ≠ 0 := fun e => h (Rat.num_eq_zero.1 e)
  constructor
  · rw [Rat.num_inv, Int.natAbs_mul, Int.natAbs_sign_of_ne_zero hn, Nat.one_mul, Int.natAbs_natCast]
    exact hf.2
  · rw [Rat.den_inv, if_neg hn]
    exact hf.1

theorem fitQ_neg {q : Rat} (hf : fitQ q) : fitQ (-q) := by
  constructor
  · rw [Rat.neg_num, Int.natAbs_neg]
    exact hf.1
  · exact hf.2

theorem ofQ_neg (q : Rat) : ofQ (-q) = ⟨!decide (q.num < 0) && decide (0 < q.num.natAbs), limbs q.num.natAbs, limbs q.den⟩ := by
  unfold ofQ
  rw [Rat.neg_num, Int.natAbs_neg, Rat.neg_den]
  congr 1
  by_cases h : q.num < 0
  · have h2 : ¬ (-q.num < 0) := by omega
    rw [decide_eq_true h, decide_eq_false h2]
    rfl
  · by_cases h0 : q.num = 0
    · simp [h0]
    · have h2 : -q.num < 0 := by omega
      have h3 : 0 < q.num.natAbs := by omega
      rw [decide_eq_true h2, decide_eq_false h, decide_eq_true h3]
      rfl

/-- What Of answers. -/
def ofC (n d : Int) : QV × Int := if d = 0 then (zeroV, 40) else (ofQ ((n : Rat) / (d : Rat)), 0)

theorem of_low {n d : Int} (hd : d ≠ 0) : lowV (decide (n < 0) != decide (d < 0)) n.natAbs d.natAbs = ofQ ((n : Rat) / (d : Rat)) := by
  rw [lowV_eq _ _ _ (by omega), ← Rat.divInt_eq_div]
  congr 1
  rcases Int.lt_or_gt_of_ne hd with h | h
  · have e : (decide (n < 0) != decide (d < 0)) = !decide (n < 0) := by simp [h]
    rw [e]
    have e1 : sg (!decide (n < 0)) n.natAbs = -n ∨ n = 0 := by
      unfold sg
      by_cases h1 : n < 0
      · simp [h1]; omega
      · simp [h1]; omega
    have e2 : d = -(d.natAbs : Int) := by omega
    rw [show Rat.divInt n d = Rat.divInt (-n) (d.natAbs : Int) by
      conv => lhs; rw [e2]
      rw [Rat.divInt_neg']]
    rw [Rat.divInt_ofNat]
    rcases e1 with e1 | e1
    · rw [e1]
    · rw [e1]
      simp [sg]
  · have e : (decide (n < 0) != decide (d < 0)) = decide (n < 0) := by
      have : ¬ d < 0 := by omega
      simp [this]
    rw [e, sg_of]
    have e2 : d = (d.natAbs : Int) := by omega
    conv => rhs; rw [e2]
    rw [Rat.divInt_ofNat]

end Go.Proofs.YtdaajeklnhbhjaaDoor
