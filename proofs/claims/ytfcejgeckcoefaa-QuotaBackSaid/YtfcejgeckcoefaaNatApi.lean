/- What nat and its answer do to valid numbers: the contracts at the numbers themselves. Conditions: as each says. -/
import Derived.Test.YtfcejgeckcoefaaNatX
namespace Go.Proofs.Ytfcejgeckcoefaa
open Go.RowKit Go.Suf
set_option linter.unusedVariables false
set_option linter.unusedSimpArgs false

theorem chk_limbs {A : Nat} (h : A < pw 96) : chk (limbs A) = 0 := chk_ok.2 ⟨limbs_len_le h, limbs_canon A⟩

theorem both_limbs {A B : Nat} (hA : A < pw 96) (hB : B < pw 96) : bothC (limbs A) (limbs B) = 0 := by rw [bothC, if_pos (chk_limbs hA), chk_limbs hB]

theorem fit_limbs {A : Nat} (h : A < pw 96) : fitC A = (limbs A, 0) := by
  have := limbs_len_le h
  rw [fitC, if_neg (by omega)]

theorem fit_great {A : Nat} (h : ¬ A < pw 96) : fitC A = ([], 30) := by
  rw [fitC, if_pos]
  rcases Nat.lt_or_ge 96 (limbs A).length with h' | h'
  · exact h'
  · exfalso
    have := val_lt' (limbs_small A)
    rw [val_limbs] at this
    exact h (Nat.lt_of_lt_of_le this (pw_le h'))

theorem add_limbs {A B : Nat} (hA : A < pw 96) (hB : B < pw 96) : addC (limbs A) (limbs B) = fitC (A + B) := by
  rw [addC, if_pos (both_limbs hA hB), val_limbs, val_limbs]

theorem mul_limbs {A B : Nat} (hA : A < pw 96) (hB : B < pw 96) : mulC (limbs A) (limbs B) = fitC (A * B) := by
  rw [mulC, if_pos (both_limbs hA hB), val_limbs, val_limbs]

theorem add_ok {A B : Nat} (h : A + B < pw 96) : addC (limbs A) (limbs B) = (limbs (A + B), 0) := by
  rw [add_limbs (by omega) (by omega), fit_limbs h]

theorem mul_ok {A B : Nat} (hA : A < pw 96) (hB : B < pw 96) (h : A * B < pw 96) : mulC (limbs A) (limbs B) = (limbs (A * B), 0) := by
  rw [mul_limbs hA hB, fit_limbs h]

theorem sub_ok {A B : Nat} (hA : A < pw 96) (h : B ≤ A) : subC (limbs A) (limbs B) = (limbs (A - B), 0) := by
  rw [subC, if_pos (both_limbs hA (by omega)), val_limbs, val_limbs, if_neg (by omega)]

theorem sub_none {A B : Nat} (hB : B < pw 96) (h : A < B) : subC (limbs A) (limbs B) = ([], 6) := by
  rw [subC, if_pos (both_limbs (by omega) hB), val_limbs, val_limbs, if_pos h]

/-- The sign of the difference of two numbers. -/
def cmpN (A B : Nat) : Int := if A < B then -1 else if B < A then 1 else 0

theorem ord_limbs (A B : Nat) : ordC (limbs A) (limbs B) = cmpN A B := by rw [ordC, val_limbs, val_limbs]; rfl

theorem cmp_ok {A B : Nat} (hA : A < pw 96) (hB : B < pw 96) : cmpC (limbs A) (limbs B) = (cmpN A B, 0) := by
  rw [cmpC, if_pos (both_limbs hA hB), ord_limbs]

theorem limbs_len0 {A : Nat} (h : 0 < A) : (limbs A).length ≠ 0 := by
  rw [limbs_pos (by omega)]
  simp

theorem div_ok {A B : Nat} (hA : A < pw 96) (hB : B < pw 96) (h : 0 < B) : divC (limbs A) (limbs B) = (limbs (A / B), limbs (A % B), 0) := by
  rw [divC, if_pos (both_limbs hA hB), if_neg (limbs_len0 h), val_limbs, val_limbs]

theorem div_zero {A : Nat} (hA : A < pw 96) : divC (limbs A) (limbs 0) = ([], [], 40) := by
  rw [divC, if_pos (both_limbs hA (pw_pos 96)), limbs_zero, if_pos (show ([] : List Nat).length = 0 from rfl)]

theorem gcd_ok {A B : Nat} (hA : A < pw 96) (hB : B < pw 96) : gcdC (limbs A) (limbs B) = (limbs (Nat.gcd A B), 0) := by
  rw [gcdC, if_pos (both_limbs hA hB), val_limbs, val_limbs]

theorem text_ok {A : Nat} (hA : A < pw 96) : textC (limbs A) = (textN A, 0) := by rw [textC, if_pos (chk_limbs hA), val_limbs]

theorem read_ok {A : Nat} (hA : A < pw 96) : readC (textN A) = (limbs A, 0) := by
  rw [readC, if_pos (textN_form A), dread_textN, fit_limbs hA]

theorem word_ok {A : Nat} (hA : A < 18446744073709551616) : wordC (limbs A) = (A, 0) := by
  have h2 : A < pw 2 := hA
  have := limbs_len_le h2
  rw [wordC, if_pos (chk_limbs (Nat.lt_of_lt_of_le h2 (pw_le (by decide)))), if_neg (by omega), val_limbs]

theorem word_great {A : Nat} (hA : A < pw 96) (h : ¬ A < 18446744073709551616) : wordC (limbs A) = (0, 30) := by
  rw [wordC, if_pos (chk_limbs hA), if_pos]
  rcases Nat.lt_or_ge 2 (limbs A).length with h' | h'
  · exact h'
  · exfalso
    have := val_lt' (limbs_small A)
    rw [val_limbs] at this
    exact h (Nat.lt_of_lt_of_le this (pw_le h'))

theorem same_ok (A B : Nat) : sameN (limbs A) (limbs B) = decide (A = B) := by
  unfold sameN
  rw [decide_eq_decide]
  exact ⟨limbs_inj, fun h => by rw [h]⟩

theorem same_self (xs : List Nat) : sameN xs xs = true := by simp [sameN]

theorem pw_add_lt {a b i k : Nat} (ha : a < pw i) (hb : b < pw i) (h : i < k) : a + b < pw k := by
  have := pw_le (show i + 1 ≤ k from h)
  rw [pw_succ] at this
  omega

theorem pw_mul_lt {a b i j k : Nat} (ha : a < pw i) (hb : b < pw j) (h : i + j ≤ k) : a * b < pw k := Nat.lt_of_lt_of_le (mul_lt_pw ha hb) (pw_le h)

theorem pw_wide {a i k : Nat} (ha : a < pw i) (h : i ≤ k) : a < pw k := Nat.lt_of_lt_of_le ha (pw_le h)

theorem same_eq {A B : Nat} (h : A = B) : sameN (limbs A) (limbs B) = true := by rw [h]; exact same_self _

/-- Whether a list is a valid number of at most m limbs. -/
def vldN (m : Nat) (xs : List Nat) : Bool := decide (xs.length ≤ m ∧ chk xs = 0)

theorem vldN_limbs {m : Nat} {a : Option Addr} {w : World} {n cap : Nat} {xs : List Nat} (h : Rd .u32 w a n cap xs) (hv : vldN m xs = true) (hm : m ≤ 96) : ∃ A, xs = limbs A ∧ A < pw m := by
  unfold vldN at hv
  rw [decide_eq_true_eq] at hv
  have hs : small32 xs := h.bd
  refine ⟨val xs, (limbs_val hs (chk_ok.1 hv.2).2).symm, Nat.lt_of_lt_of_le (val_lt' hs) (pw_le hv.1)⟩

/-! ### right: a list of lists of limbs -/

/-- The slice at a reads as lists of limbs. -/
structure RdNL (w : World) (a : Option Addr) (n cap : Nat) (xss : List (List Nat)) : Prop where
  len : xss.length = n
  small : n ≤ 100
  cell : ∀ i, i < n → ∃ b off d m c, a = some ⟨b, off, none⟩ ∧ w.cell? ⟨b, off + i, none⟩ = some (.slice d m c) ∧ Rd .u32 w d m c (xss.getD i [])

def rightB (m : Nat) (xss : List (List Nat)) : Bool := decide (∀ xs ∈ xss, vldN m xs = true)

theorem rightB_bad {m : Nat} {xss : List (List Nat)} {k : Nat} (hk : k < xss.length) (h : vldN m (xss.getD k []) = false) : rightB m xss = false := by
  unfold rightB
  rw [decide_eq_false_iff_not]
  intro hall
  have := hall (xss.getD k []) (by simp [List.getD, hk])
  rw [h] at this
  cases this

theorem rightB_good {m : Nat} {xss : List (List Nat)} (h : ∀ k, k < xss.length → vldN m (xss.getD k []) = true) : rightB m xss = true := by
  unfold rightB
  rw [decide_eq_true_eq]
  intro xs hx
  obtain ⟨i, hi, rfl⟩ := List.getElem_of_mem hx
  have := h i hi
  simpa [List.getD, hi] using this

theorem rdNL_lit3 (w : World) {a b c : Option Addr} {n m p cn cm cp : Nat} {xs ys zs : List Nat} (hx : Rd .u32 w a n cn xs) (hy : Rd .u32 w b m cm ys) (hz : Rd .u32 w c p cp zs) :
    RdNL (w.alloc (.cells #[.slice a n cn, .slice b m cm, .slice c p cp] 25)) (some ⟨w.heap.size, 0, none⟩) 3 3 [xs, ys, zs] := by
  refine ⟨rfl, by decide, fun i hi => ?_⟩
  have hb : Below w.heap.size w (w.alloc (.cells #[.slice a n cn, .slice b m cm, .slice c p cp] 25)) := (Below.refl _ _).alloc (Nat.le_refl _) _
  have hc : ∀ j, (w.alloc (.cells #[.slice a n cn, .slice b m cm, .slice c p cp] 25)).cell? ⟨w.heap.size, 0 + j, none⟩ = #[Value.slice a n cn, .slice b m cm, .slice c p cp][j]? := by
    intro j
    rw [Nat.zero_add, cell_of_row _ _ _ _ _ _ (heap_alloc_new w _)]
  rcases (show i = 0 ∨ i = 1 ∨ i = 2 by omega) with rfl | rfl | rfl
  · exact ⟨_, 0, a, n, cn, rfl, hc 0, hx.below hb⟩
  · exact ⟨_, 0, b, m, cm, rfl, hc 1, hy.below hb⟩
  · exact ⟨_, 0, c, p, cp, rfl, hc 2, hz.below hb⟩

theorem rdNL_lit2 (w : World) {a b : Option Addr} {n m cn cm : Nat} {xs ys : List Nat} (hx : Rd .u32 w a n cn xs) (hy : Rd .u32 w b m cm ys) :
    RdNL (w.alloc (.cells #[.slice a n cn, .slice b m cm] 25)) (some ⟨w.heap.size, 0, none⟩) 2 2 [xs, ys] := by
  refine ⟨rfl, by decide, fun i hi => ?_⟩
  have hb : Below w.heap.size w (w.alloc (.cells #[.slice a n cn, .slice b m cm] 25)) := (Below.refl _ _).alloc (Nat.le_refl _) _
  have hc : ∀ j, (w.alloc (.cells #[.slice a n cn, .slice b m cm] 25)).cell? ⟨w.heap.size, 0 + j, none⟩ = #[Value.slice a n cn, .slice b m cm][j]? := by
    intro j
    rw [Nat.zero_add, cell_of_row _ _ _ _ _ _ (heap_alloc_new w _)]
  rcases (show i = 0 ∨ i = 1 by omega) with rfl | rfl
  · exact ⟨_, 0, a, n, cn, rfl, hc 0, hx.below hb⟩
  · exact ⟨_, 0, b, m, cm, rfl, hc 1, hy.below hb⟩

theorem rdNL_lit1 (w : World) {a : Option Addr} {n cn : Nat} {xs : List Nat} (hx : Rd .u32 w a n cn xs) :
    RdNL (w.alloc (.cells #[.slice a n cn] 25)) (some ⟨w.heap.size, 0, none⟩) 1 1 [xs] := by
  refine ⟨rfl, by decide, fun i hi => ?_⟩
  have hb : Below w.heap.size w (w.alloc (.cells #[.slice a n cn] 25)) := (Below.refl _ _).alloc (Nat.le_refl _) _
  have hc : ∀ j, (w.alloc (.cells #[.slice a n cn] 25)).cell? ⟨w.heap.size, 0 + j, none⟩ = #[Value.slice a n cn][j]? := by
    intro j
    rw [Nat.zero_add, cell_of_row _ _ _ _ _ _ (heap_alloc_new w _)]
  obtain rfl : i = 0 := by omega
  exact ⟨_, 0, a, n, cn, rfl, hc 0, hx.below hb⟩

end Go.Proofs.Ytfcejgeckcoefaa
