/- A state of polling in the program: what it reads as; one, most, atMost, New, and the answer's One, Most, AtMost, New. No condition but that the slices read. -/
import Derived.Test.YtkomdiblopdfiaaRatF
import Derived.Test.YtkomdiblopdfiaaPolPlain
import Derived.Deep.RegionHeld3
namespace Go.Suf
open Go.RowKit
set_option linter.unusedVariables false
set_option linter.unusedSimpArgs false

def intsV (xs : List Int) : List Value := xs.map fun x => Value.int .i64 x
theorem intsV_size (xs : List Int) : (intsV xs).length = xs.length := by simp [intsV]
theorem intsV_get (xs : List Int) (i : Nat) : (intsV xs)[i]? = (xs[i]?).map fun x => Value.int .i64 x := by simp [intsV]
theorem intsV_one (xs : List Int) : ∀ u ∈ intsV xs, u.oneCell' = true := by
  intro u hu
  simp [intsV] at hu
  obtain ⟨x, _, rfl⟩ := hu
  rfl

/-- The slice of n elements at a reads as the integers xs. -/
structure RdI (w : World) (a : Option Addr) (n cap : Nat) (xs : List Int) : Prop where
  len : xs.length = n
  sl : Sl w a cap (intsV xs)
  bd : ∀ x ∈ xs, -9223372036854775808 ≤ x ∧ x ≤ 9223372036854775807

theorem RdI.nil (w : World) : RdI w none 0 0 [] := ⟨rfl, Sl.empty w none 0 (Nat.zero_le _) (fun _ => rfl), fun x hx => by simp at hx⟩
theorem RdI.below {w w' : World} {a : Option Addr} {n cap : Nat} {xs : List Int} (h : RdI w a n cap xs) (hb : Below w.heap.size w w') : RdI w' a n cap xs := ⟨h.len, h.sl.below hb, h.bd⟩
theorem RdI.le {w : World} {a : Option Addr} {n cap : Nat} {xs : List Int} (h : RdI w a n cap xs) : n ≤ cap := by
  have h1 := h.sl.le
  rw [intsV_size, h.len] at h1
  exact h1
theorem RdI.lt {w : World} {a : Option Addr} {n cap : Nat} {xs : List Int} (h : RdI w a n cap xs) : n ≤ 9223372036854775807 := by
  have h1 := h.le
  have h2 := h.sl.max
  unfold maxLen at h2
  omega

/-- The i-th integer. -/
def ith (xs : List Int) (i : Nat) : Int := xs.getD i 0

theorem RdI.addr {w : World} {a : Option Addr} {n cap : Nat} {xs : List Int} (h : RdI w a n cap xs) (hp : 0 < n) :
    ∃ b off, a = some ⟨b, off, none⟩ ∧ ∀ i, i < n → w.cell? ⟨b, off + i, none⟩ = some (.int .i64 (ith xs i)) := by
  have hl := h.len
  obtain ⟨b, off, e, hw⟩ := h.sl.addr (by rw [intsV_size]; omega)
  refine ⟨b, off, e, fun i hi => hw i _ ?_⟩
  unfold ith
  rw [intsV_get, List.getElem?_eq_getElem (by omega), List.getD, List.getElem?_eq_getElem (by omega)]
  rfl
end Go.Suf
namespace Go.Proofs.Ytkomdiblopdfiaa
open Go.RowKit Go.Suf
set_option linter.unusedVariables false
set_option linter.unusedSimpArgs false

/-- The cells of a state, and its value. -/
abbrev polC (q : PV) (a : Option Addr) (n c : Nat) (b : Option Addr) (m d : Nat) : Array Value := #[.int .i64 q.bet, .int .i64 q.s0, .int .i64 q.s1, .int .i64 q.s2, .slice a n c, .slice b m d]
abbrev polV (q : PV) (a : Option Addr) (n c : Nat) (b : Option Addr) (m d : Nat) : Value := .agg (polC q a n c b m d)

def wide64 (z : Int) : Prop := -9223372036854775808 ≤ z ∧ z ≤ 9223372036854775807

/-- The integers of a state are int64. -/
structure PW (q : PV) : Prop where
  bet : wide64 q.bet
  s0 : wide64 q.s0
  s1 : wide64 q.s1
  s2 : wide64 q.s2

theorem pol_one (q : PV) (a : Option Addr) (n c : Nat) (b : Option Addr) (m d : Nat) : ∀ u ∈ (polC q a n c b m d).toList, u.oneCell' = true := by
  intro u hu
  simp only [List.mem_cons, List.not_mem_nil, or_false] at hu
  rcases hu with rfl | rfl | rfl | rfl | rfl | rfl <;> rfl

theorem atPol : AT Try.prog 25 6 := ⟨⟨_, Try.underlying25, rfl⟩, by kernel_rfl⟩

theorem pol_noint (q : PV) (a : Option Addr) (n c : Nat) (b : Option Addr) (m d : Nat) : ∀ (i : Nat) (z : Int), (polC q a n c b m d)[i]? ≠ some (.int .u32 z) := by
  intro i z
  rcases i with _ | _ | _ | _ | _ | _ | i <;> simp

/-- The block k, laid since w, holds the cells of a value of type t. -/
structure PRow (t : TypeId) (w w1 : World) (k : Nat) (cs : Array Value) : Prop where
  below : Below w.heap.size w w1
  row : w1.heap[k]? = some (.cells cs t (0, 0))
  lo : w.heap.size ≤ k
  lt : k < w1.heap.size

theorem PRow.new (t : TypeId) (w : World) (cs : Array Value) : PRow t w (w.alloc (.cells cs t)) w.heap.size cs :=
  ⟨(Below.refl _ _).alloc (Nat.le_refl _) _, heap_alloc_new w _, Nat.le_refl _, by rw [World.size_alloc]; omega⟩

theorem PRow.later {t : TypeId} {w w1 w2 : World} {k : Nat} {cs : Array Value} (h : PRow t w w1 k cs) (hb : Below w1.heap.size w1 w2) : PRow t w w2 k cs :=
  ⟨h.below.trans (hb.mono h.below.size), by rw [hb.block k h.lt]; exact h.row, h.lo, Nat.lt_of_lt_of_le h.lt hb.size⟩

theorem PRow.cell {t : TypeId} {w w1 : World} {k : Nat} {cs : Array Value} (h : PRow t w w1 k cs) (i : Nat) (v : Value) (hv : cs[i]? = some v) : w1.cell? ⟨k, i, none⟩ = some v := by
  simp only [World.cell?, h.row, hv]
  rfl

def RetP (w : World) (r : PV) : Ending → World → Prop := fun e w' =>
  ∃ a n c b m d, e = .returned (polV r a n c b m d) ∧ Rd .u32 w' a n c r.lev ∧ Rd .u32 w' b m d r.best ∧ Below w.heap.size w w'

def RetPE (w : World) (r : PV × Int) : Ending → World → Prop := fun e w' =>
  ∃ a n c b m d, e = .returned (.tuple #[polV r.1 a n c b m d, .int .i64 r.2]) ∧ Rd .u32 w' a n c r.1.lev ∧ Rd .u32 w' b m d r.1.best ∧ Below w.heap.size w w'

def RetL1 (w : World) (xs : List Nat) : Ending → World → Prop := fun e w' =>
  ∃ a n c, e = .returned (.slice a n c) ∧ Rd .u32 w' a n c xs ∧ Below w.heap.size w w'

theorem lit_three (w : World) : Rd .u32 (w.alloc (.cells #[.int .u32 0, .int .u32 0, .int .u32 1] 40)) (some ⟨w.heap.size, 0, none⟩) 3 3 [0, 0, 1] :=
  rd_lit .u32 w [0, 0, 1] 40 3 rfl (by decide) (by intro y hy; simp at hy; rcases hy with rfl | rfl <;> decide)

theorem lit_five (w : World) : Rd .u32 (w.alloc (.cells #[.int .u32 0, .int .u32 0, .int .u32 0, .int .u32 0, .int .u32 1] 40)) (some ⟨w.heap.size, 0, none⟩) 5 5 [0, 0, 0, 0, 1] :=
  rd_lit .u32 w [0, 0, 0, 0, 1] 40 5 rfl (by decide) (by intro y hy; simp at hy; rcases hy with rfl | rfl <;> decide)

theorem one_any (w : World) : Calls Try.prog 36 #[] w (RetL1 w [0, 0, 1]) := by
  go_enter Try.func36, Try.ntmps36
  go_wp2
  go_ret
  exact ⟨_, _, _, rfl, lit_three w, below_al w _⟩

theorem most_any (w : World) : Calls Try.prog 46 #[] w (RetL1 w [0, 0, 0, 0, 1]) := by
  go_enter Try.func46, Try.ntmps46
  go_wp2
  go_ret
  exact ⟨_, _, _, rfl, lit_five w, below_al w _⟩

theorem refOne_any (w : World) : Calls Try.prog 50 #[] w (RetL1 w [0, 0, 1]) := by
  go_enter Try.func50, Try.ntmps50
  go_wp2
  go_ret
  exact ⟨_, _, _, rfl, lit_three w, below_al w _⟩

theorem refMost_any (w : World) : Calls Try.prog 54 #[] w (RetL1 w [0, 0, 0, 0, 1]) := by
  go_enter Try.func54, Try.ntmps54
  go_wp2
  go_ret
  exact ⟨_, _, _, rfl, lit_five w, below_al w _⟩

theorem atMost_dr (w : World) {a b : Option Addr} {n m cap cap' : Nat} {xs ys : List Nat} (h : Rd .u32 w a n cap xs) (h' : Rd .u32 w b m cap' ys) :
    Calls Try.prog 40 #[.slice a n cap, .slice b m cap'] w (RetB w (leC xs ys)) := by
  obtain ⟨r, hr⟩ : ∃ r, r = leC xs ys := ⟨_, rfl⟩
  rw [← hr]
  obtain ⟨c, hc⟩ : ∃ c, c = cmpC xs ys := ⟨_, rfl⟩
  have HC := Lib.hid hc
  by_cases e1 : c.2 = 0
  · have d1 : (c.2 == 0) = true := by rw [beq_iff_eq]; exact e1
    have e := Lib.hid (show r = decide (c.1 ≤ 0) by rw [hr, leC, ← hc]; simp [e1])
    obtain ⟨c1, c2⟩ := c
    simp only at e1 d1 e
    subst e1
    clear hr hc
    go_enter Try.func40, Try.ntmps40
    go_wp2_with fail
    have cc := Cmp_any _ h h'
    rw [← HC.out] at cc
    refine cc.mono ?_
    rintro e1 w1 ⟨rfl, nq, rfl⟩
    clear cc
    go_wp2_with fail
    go_ret
    exact ⟨by rw [e.out]; rfl, nq, rfl⟩
  · have d1 : (c.2 == 0) = false := by rw [beq_eq_false_iff_ne]; exact e1
    have e := Lib.hid (show r = false by rw [hr, leC, ← hc]; simp [e1])
    obtain ⟨c1, c2⟩ := c
    simp only at e1 d1 e
    clear hr hc e1
    go_enter Try.func40, Try.ntmps40
    go_wp2_with fail
    have cc := Cmp_any _ h h'
    rw [← HC.out] at cc
    refine cc.mono ?_
    rintro e1 w1 ⟨rfl, nq, rfl⟩
    clear cc
    go_wp2_with fail
    go_ret
    exact ⟨by rw [e.out]; rfl, nq, rfl⟩

theorem atMost_any (w : World) {a b : Option Addr} {n m cap cap' : Nat} {xs ys : List Nat} (h : Rd .u32 w a n cap xs) (h' : Rd .u32 w b m cap' ys) :
    Calls Try.prog 40 #[.slice a n cap, .slice b m cap'] w (RetBB w (leC xs ys)) := by
  refine (atMost_dr w h h').mono ?_
  rintro e w1 ⟨rfl, nq, rfl⟩
  exact ⟨rfl, below_drewN (Below.refl _ _) nq⟩

theorem refAtMost_dr (w : World) {a b : Option Addr} {n m cap cap' : Nat} {xs ys : List Nat} (h : Rd .u32 w a n cap xs) (h' : Rd .u32 w b m cap' ys) :
    Calls Try.prog 34 #[.slice a n cap, .slice b m cap'] w (RetB w (leC xs ys)) := by
  obtain ⟨r, hr⟩ : ∃ r, r = leC xs ys := ⟨_, rfl⟩
  rw [← hr]
  obtain ⟨c, hc⟩ : ∃ c, c = cmpC xs ys := ⟨_, rfl⟩
  have HC := Lib.hid hc
  by_cases e1 : c.2 = 0
  · have d1 : (c.2 == 0) = true := by rw [beq_iff_eq]; exact e1
    have e := Lib.hid (show r = decide (c.1 ≤ 0) by rw [hr, leC, ← hc]; simp [e1])
    obtain ⟨c1, c2⟩ := c
    simp only at e1 d1 e
    subst e1
    clear hr hc
    go_enter Try.func34, Try.ntmps34
    go_wp2_with fail
    have cc := refCmp_any _ h h'
    rw [← HC.out] at cc
    refine cc.mono ?_
    rintro e1 w1 ⟨rfl, nq, rfl⟩
    clear cc
    go_wp2_with fail
    go_ret
    exact ⟨by rw [e.out]; rfl, nq, rfl⟩
  · have d1 : (c.2 == 0) = false := by rw [beq_eq_false_iff_ne]; exact e1
    have e := Lib.hid (show r = false by rw [hr, leC, ← hc]; simp [e1])
    obtain ⟨c1, c2⟩ := c
    simp only at e1 d1 e
    clear hr hc e1
    go_enter Try.func34, Try.ntmps34
    go_wp2_with fail
    have cc := refCmp_any _ h h'
    rw [← HC.out] at cc
    refine cc.mono ?_
    rintro e1 w1 ⟨rfl, nq, rfl⟩
    clear cc
    go_wp2_with fail
    go_ret
    exact ⟨by rw [e.out]; rfl, nq, rfl⟩

theorem refAtMost_any (w : World) {a b : Option Addr} {n m cap cap' : Nat} {xs ys : List Nat} (h : Rd .u32 w a n cap xs) (h' : Rd .u32 w b m cap' ys) :
    Calls Try.prog 34 #[.slice a n cap, .slice b m cap'] w (RetBB w (leC xs ys)) := by
  refine (refAtMost_dr w h h').mono ?_
  rintro e w1 ⟨rfl, nq, rfl⟩
  exact ⟨rfl, below_drewN (Below.refl _ _) nq⟩

end Go.Proofs.Ytkomdiblopdfiaa
/- New of polling, in the program and in its answer. -/
namespace Go.Proofs.Ytkomdiblopdfiaa
open Go.RowKit Go.Suf
set_option linter.unusedVariables false
set_option linter.unusedSimpArgs false

abbrev zc : Array Value := #[.int .i64 0, .int .i64 0, .int .i64 0, .int .i64 0, .slice none 0 0, .slice none 0 0]

theorem new_bad {bet : Int} (h : ¬ (1 ≤ bet ∧ bet ≤ 999)) : newC bet = (zeroP, 2) := by
  rw [newC, if_neg]
  unfold betOk
  rw [decide_eq_true_eq]
  exact h

theorem new_good {bet : Int} (h : 1 ≤ bet ∧ bet ≤ 999) : newC bet = (⟨bet, 0, 0, 0, [0, 0, 1], [0, 0, 1]⟩, 0) := by
  rw [newC, if_pos]
  unfold betOk
  rw [decide_eq_true_eq]
  exact h

set_option maxRecDepth 100000 in
set_option maxHeartbeats 1000000 in
theorem new_any (w : World) (bet : Int) :
    Calls Try.prog 10 #[.int .i64 bet] w (RetPE w (newC bet)) := by
  obtain ⟨r, hr⟩ : ∃ r, r = newC bet := ⟨_, rfl⟩
  rw [← hr]
  have R0 := PRow.new 25 w zc
  have row := R0.row
  by_cases h1 : bet < 1
  · have e := Lib.hid (show r = (zeroP, 2) by rw [hr]; exact new_bad (by omega))
    have d1 : decide (bet < 1) = true := decide_eq_true h1
    clear hr
    go_enter Try.func10, Try.ntmps10
    go_wp2_with (refine wpList_store_whole rfl 25 _ _ rfl atPol _ _ _ row rfl rfl rfl rfl (pol_one zeroP _ _ _ _ _ _) ?_)
    refine bodyPost_ret (results_cell_two rfl _ _ _ _ _ _ _ rfl (setRow_heap _ _ _ _ _ _ row) Try.underlying25 rfl (by kernel_rfl) _ rfl) rfl ?_
    refine ⟨none, 0, 0, none, 0, 0, by rw [e.out]; rfl, ?_, ?_, below_row R0.below R0.lo _⟩
    · rw [e.out]; exact Rd.nil _ _
    · rw [e.out]; exact Rd.nil _ _
  have d1 : decide (bet < 1) = false := decide_eq_false h1
  by_cases h2 : 999 < bet
  · have e := Lib.hid (show r = (zeroP, 2) by rw [hr]; exact new_bad (by omega))
    have d2 : decide (999 < bet) = true := decide_eq_true h2
    clear hr
    go_enter Try.func10, Try.ntmps10
    go_wp2_with (refine wpList_store_whole rfl 25 _ _ rfl atPol _ _ _ row rfl rfl rfl rfl (pol_one zeroP _ _ _ _ _ _) ?_)
    refine bodyPost_ret (results_cell_two rfl _ _ _ _ _ _ _ rfl (setRow_heap _ _ _ _ _ _ row) Try.underlying25 rfl (by kernel_rfl) _ rfl) rfl ?_
    refine ⟨none, 0, 0, none, 0, 0, by rw [e.out]; rfl, ?_, ?_, below_row R0.below R0.lo _⟩
    · rw [e.out]; exact Rd.nil _ _
    · rw [e.out]; exact Rd.nil _ _
  have d2 : decide (999 < bet) = false := decide_eq_false h2
  have e := Lib.hid (show r = (⟨bet, 0, 0, 0, [0, 0, 1], [0, 0, 1]⟩, 0) by rw [hr]; exact new_good (by omega))
  have H1 := Lib.hid h1
  have H2 := Lib.hid h2
  clear hr row h1 h2
  go_enter Try.func10, Try.ntmps10
  go_wp2_with fail
  refine (one_any _).mono ?_
  rintro e1 w1 ⟨a1, n1, c1, rfl, x1, hb⟩
  have R1 := R0.later hb
  go_wp2_with fail
  refine (one_any _).mono ?_
  rintro e1 w2 ⟨a2, n2, c2, rfl, x2, hb2⟩
  have R2 := R1.later hb2
  have x1 := x1.below hb2
  have row := R2.row
  have HB := Lib.hid (fun cs => below_row R2.below R2.lo cs)
  have fin := Lib.hid (fun cs => (⟨rd_rowset x1 row (pol_noint zeroP _ _ _ _ _ _) cs, rd_rowset x2 row (pol_noint zeroP _ _ _ _ _ _) cs⟩ : _ ∧ _))
  clear hb hb2 x1 x2
  go_wp2_with (refine wpList_store_whole rfl 25 _ _ rfl atPol _ _ _ row rfl rfl rfl rfl (pol_one ⟨bet, 0, 0, 0, [], []⟩ _ _ _ _ _ _) ?_)
  refine bodyPost_ret (results_cell_two rfl _ _ _ _ _ _ _ rfl (setRow_heap _ _ _ _ _ _ row) Try.underlying25 rfl (by kernel_rfl) _ rfl) rfl ?_
  refine ⟨a1, n1, c1, a2, n2, c2, by rw [e.out]; rfl, ?_, ?_, HB.out _⟩
  · rw [e.out]; exact (fin.out _).1
  · rw [e.out]; exact (fin.out _).2

set_option maxRecDepth 100000 in
set_option maxHeartbeats 1000000 in
theorem refNew_any (w : World) (bet : Int) :
    Calls Try.prog 23 #[.int .i64 bet] w (RetPE w (newC bet)) := by
  obtain ⟨r, hr⟩ : ∃ r, r = newC bet := ⟨_, rfl⟩
  rw [← hr]
  have R0 := PRow.new 25 w zc
  have row := R0.row
  by_cases h1 : bet < 1
  · have e := Lib.hid (show r = (zeroP, 2) by rw [hr]; exact new_bad (by omega))
    have d1 : decide (bet < 1) = true := decide_eq_true h1
    clear hr
    go_enter Try.func23, Try.ntmps23
    go_wp2_with (refine wpList_store_whole rfl 25 _ _ rfl atPol _ _ _ row rfl rfl rfl rfl (pol_one zeroP _ _ _ _ _ _) ?_)
    refine bodyPost_ret (results_cell_two rfl _ _ _ _ _ _ _ rfl (setRow_heap _ _ _ _ _ _ row) Try.underlying25 rfl (by kernel_rfl) _ rfl) rfl ?_
    refine ⟨none, 0, 0, none, 0, 0, by rw [e.out]; rfl, ?_, ?_, below_row R0.below R0.lo _⟩
    · rw [e.out]; exact Rd.nil _ _
    · rw [e.out]; exact Rd.nil _ _
  have d1 : decide (bet < 1) = false := decide_eq_false h1
  by_cases h2 : 999 < bet
  · have e := Lib.hid (show r = (zeroP, 2) by rw [hr]; exact new_bad (by omega))
    have d2 : decide (999 < bet) = true := decide_eq_true h2
    clear hr
    go_enter Try.func23, Try.ntmps23
    go_wp2_with (refine wpList_store_whole rfl 25 _ _ rfl atPol _ _ _ row rfl rfl rfl rfl (pol_one zeroP _ _ _ _ _ _) ?_)
    refine bodyPost_ret (results_cell_two rfl _ _ _ _ _ _ _ rfl (setRow_heap _ _ _ _ _ _ row) Try.underlying25 rfl (by kernel_rfl) _ rfl) rfl ?_
    refine ⟨none, 0, 0, none, 0, 0, by rw [e.out]; rfl, ?_, ?_, below_row R0.below R0.lo _⟩
    · rw [e.out]; exact Rd.nil _ _
    · rw [e.out]; exact Rd.nil _ _
  have d2 : decide (999 < bet) = false := decide_eq_false h2
  have e := Lib.hid (show r = (⟨bet, 0, 0, 0, [0, 0, 1], [0, 0, 1]⟩, 0) by rw [hr]; exact new_good (by omega))
  have H1 := Lib.hid h1
  have H2 := Lib.hid h2
  clear hr row h1 h2
  go_enter Try.func23, Try.ntmps23
  go_wp2_with fail
  refine (refOne_any _).mono ?_
  rintro e1 w1 ⟨a1, n1, c1, rfl, x1, hb⟩
  have R1 := R0.later hb
  go_wp2_with fail
  refine (refOne_any _).mono ?_
  rintro e1 w2 ⟨a2, n2, c2, rfl, x2, hb2⟩
  have R2 := R1.later hb2
  have x1 := x1.below hb2
  have row := R2.row
  have HB := Lib.hid (fun cs => below_row R2.below R2.lo cs)
  have fin := Lib.hid (fun cs => (⟨rd_rowset x1 row (pol_noint zeroP _ _ _ _ _ _) cs, rd_rowset x2 row (pol_noint zeroP _ _ _ _ _ _) cs⟩ : _ ∧ _))
  clear hb hb2 x1 x2
  go_wp2_with (refine wpList_store_whole rfl 25 _ _ rfl atPol _ _ _ row rfl rfl rfl rfl (pol_one ⟨bet, 0, 0, 0, [], []⟩ _ _ _ _ _ _) ?_)
  refine bodyPost_ret (results_cell_two rfl _ _ _ _ _ _ _ rfl (setRow_heap _ _ _ _ _ _ row) Try.underlying25 rfl (by kernel_rfl) _ rfl) rfl ?_
  refine ⟨a1, n1, c1, a2, n2, c2, by rw [e.out]; rfl, ?_, ?_, HB.out _⟩
  · rw [e.out]; exact (fin.out _).1
  · rw [e.out]; exact (fin.out _).2

end Go.Proofs.Ytkomdiblopdfiaa
/- Check of polling. -/
namespace Go.Proofs.Ytkomdiblopdfiaa
open Go.RowKit Go.Suf
set_option linter.unusedVariables false
set_option linter.unusedSimpArgs false

set_option maxHeartbeats 1000000 in
theorem checkS1_any (w : World) (x : Int) : Calls Try.prog 45 #[.int .i64 x] w fun e w' => e = .returned (.bool (!decide (inS x))) ∧ w' = w := by
  obtain ⟨r, hr⟩ : ∃ r, r = !decide (inS x) := ⟨_, rfl⟩
  rw [← hr]
  by_cases h1 : x < 0
  · have d1 : decide (x < 0) = true := decide_eq_true h1
    have e := Lib.hid (show r = true by
      have hn : ¬ inS x := fun h => by unfold inS at h; omega
      rw [hr, decide_eq_false hn]; rfl)
    clear hr
    go_enter Try.func45, Try.ntmps45
    go_wp2
    go_ret
    exact ⟨by rw [e.out]; rfl, rfl⟩
  · have d1 : decide (x < 0) = false := decide_eq_false h1
    have e := Lib.hid (show r = decide (1000000 < x) by
      by_cases h : 1000000 < x
      · have hn : ¬ inS x := fun h => by unfold inS at h; omega
        rw [hr, decide_eq_false hn, decide_eq_true h]; rfl
      · have hn : inS x := by unfold inS; omega
        rw [hr, decide_eq_true hn, decide_eq_false h]; rfl)
    clear h1 hr
    go_enter Try.func45, Try.ntmps45
    go_wp2
    go_ret
    exact ⟨by rw [e.out]; rfl, rfl⟩

def allIn (xs : List Int) : Bool := xs.all fun x => decide (inS x)

theorem allIn_true {xs : List Int} (h : ∀ j, j < xs.length → inS (ith xs j)) : allIn xs = true := by
  unfold allIn
  rw [List.all_eq_true]
  intro x hx
  obtain ⟨j, hj, rfl⟩ := List.mem_iff_getElem.1 hx
  have := h j hj
  rw [ith, List.getD, List.getElem?_eq_getElem hj] at this
  exact decide_eq_true this

theorem allIn_false {xs : List Int} {j : Nat} (hj : j < xs.length) (h : ¬ inS (ith xs j)) : allIn xs = false := by
  unfold allIn
  rw [List.all_eq_false]
  refine ⟨xs[j], List.getElem_mem _, ?_⟩
  rw [ith, List.getD, List.getElem?_eq_getElem hj] at h
  simpa using h

def RetIx (w : World) (b : Bool) : Ending → World → Prop := fun e w' => ∃ z : Int, e = .returned (.int .i64 z) ∧ w' = w ∧ decide (0 ≤ z) = b

set_option maxRecDepth 100000 in
set_option maxHeartbeats 2000000 in
theorem indexF_any (w : World) {a : Option Addr} {n cap : Nat} {xs : List Int} (h : RdI w a n cap xs) :
    Calls Try.prog 69 #[.slice a n cap, .func (.func 45) #[] #[]] w (RetIx w (!allIn xs)) := by
  have hn := h.lt
  have HL := Lib.hid h.len
  obtain ⟨r, hr0⟩ : ∃ r, r = !allIn xs := ⟨_, rfl⟩
  rw [← hr0]
  have HR := Lib.hid hr0
  clear hr0
  go_enter Try.func69, Try.ntmps69
  go_wp2_with fail
  go_loopw [8] (fun i wr => ∃ (k : Nat), k ≤ n ∧ i = .int .i64 (k : Nat) ∧ wr = w ∧ Hid (∀ j, j < k → inS (ith xs j))) (fun i _ => n - (intOf i).toNat)
  case atStart => exact ⟨0, Nat.zero_le _, rfl, rfl, Lib.hid (fun j hj => absurd hj (by omega))⟩
  case round =>
    obtain ⟨k, hk, rfl, rfl, hD⟩ := hrel
    by_cases hlt : k < n
    · obtain ⟨b, off, rfl, hall⟩ := h.addr (by omega)
      have hc := hall k hlt
      clear hall
      obtain ⟨x, hx⟩ : ∃ x, x = ith xs k := ⟨_, rfl⟩
      rw [← hx] at hc
      have HX := Lib.hid hx
      clear hx
      by_cases he : inS x
      · have HE := Lib.hid he
        clear he
        go_wp2_with fail
        have cc := fun W => checkS1_any W x
        simp only [decide_eq_true HE.out] at cc
        refine (cc _).mono ?_
        rintro e1 w1 ⟨rfl, rfl⟩
        clear cc
        go_wp2_with fail
        go_roundw
        case rel => exact ⟨k + 1, by omega, by go_num, by first | rfl | trivial, Lib.hid (fun j hj => by
          rcases Nat.lt_or_ge j k with h | h
          · exact hD.out j h
          · obtain rfl : j = k := by omega
            rw [← HX.out]; exact HE.out)⟩
        case measure => simp [intOf]; omega
      · have HE := Lib.hid he
        have e := Lib.hid (show r = true by rw [HR.out, allIn_false (by rw [HL.out]; exact hlt) (by rw [← HX.out]; exact he)]; rfl)
        clear he
        go_wp2_with fail
        have cc := fun W => checkS1_any W x
        simp only [decide_eq_false HE.out] at cc
        refine (cc _).mono ?_
        rintro e1 w1 ⟨rfl, rfl⟩
        clear cc
        go_wp2_with fail
        go_ret
        exact ⟨_, rfl, rfl, by rw [e.out]; exact decide_eq_true (by omega)⟩
    · obtain rfl : k = n := by omega
      have e := Lib.hid (show r = false by rw [HR.out, allIn_true (fun j hj => hD.out j (by rw [← HL.out]; exact hj))]; rfl)
      go_wp2_with fail
      go_ret
      exact ⟨_, rfl, rfl, by rw [e.out]; rfl⟩

set_option maxHeartbeats 1000000 in
theorem containsF_any (w : World) {a : Option Addr} {n cap : Nat} {xs : List Int} (h : RdI w a n cap xs) :
    Calls Try.prog 44 #[.slice a n cap, .func (.func 45) #[] #[]] w fun e w' => e = .returned (.bool (!allIn xs)) ∧ w' = w := by
  obtain ⟨r, hr0⟩ : ∃ r, r = !allIn xs := ⟨_, rfl⟩
  rw [← hr0]
  have HR := Lib.hid hr0
  clear hr0
  go_enter Try.func44, Try.ntmps44
  go_wp2_with fail
  refine (indexF_any _ h).mono ?_
  rintro e1 w1 ⟨z, rfl, rfl, hz⟩
  rw [← HR.out] at hz
  go_wp2_with fail
  go_ret
  exact ⟨rfl, rfl⟩

theorem keep_pol {w1 w2 w3 : World} {x : Nat} {u0 u4 u5 : Value} (h : Below w1.heap.size w1 w2 ∧ w2.cell? ⟨x, 0, none⟩ = some u0 ∧ w2.cell? ⟨x, 4, none⟩ = some u4 ∧ w2.cell? ⟨x, 5, none⟩ = some u5)
    (hb : Below w2.heap.size w2 w3) (hx : x < w1.heap.size) : Below w1.heap.size w1 w3 ∧ w3.cell? ⟨x, 0, none⟩ = some u0 ∧ w3.cell? ⟨x, 4, none⟩ = some u4 ∧ w3.cell? ⟨x, 5, none⟩ = some u5 := by
  obtain ⟨h0, h1, h2, h3⟩ := h
  have := h0.size
  exact ⟨h0.trans (hb.mono h0.size), cell_later hb h1 (by omega), cell_later hb h2 (by omega), cell_later hb h3 (by omega)⟩

theorem arr_rdI {w w1 : World} {k : Nat} {cs : Array Value} (H : Has w w1 k cs) {s0 s1 s2 : Int} (h0 : cs[1]? = some (.int .i64 s0)) (h1 : cs[2]? = some (.int .i64 s1)) (h2 : cs[3]? = some (.int .i64 s2)) (p : wide64 s0) (q : wide64 s1) (r : wide64 s2) :
    RdI w1 (some ⟨k, 1, none⟩) 3 3 [s0, s1, s2] := by
  refine ⟨rfl, ⟨by simp [intsV], by decide, fun e => by simp at e, fun i v hv => ⟨k, 1, rfl, ?_⟩, intsV_one _⟩, fun x hx => ?_⟩
  · rcases i with _ | _ | _ | i
    · simp [intsV] at hv; subst hv; exact H.cell 1 _ h0
    · simp [intsV] at hv; subst hv; exact H.cell 2 _ h1
    · simp [intsV] at hv; subst hv; exact H.cell 3 _ h2
    · simp [intsV] at hv
  · simp at hx
    rcases hx with rfl | rfl | rfl <;> assumption

theorem seen_all (q : PV) : allIn [q.s0, q.s1, q.s2] = seenOk q := by
  unfold allIn seenOk
  rw [Bool.eq_iff_iff]
  simp

end Go.Proofs.Ytkomdiblopdfiaa
