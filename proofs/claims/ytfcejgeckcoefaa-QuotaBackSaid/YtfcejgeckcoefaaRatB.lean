/- Lowest terms in the program and in its answer; a result that lies in a block of its own. -/
import Derived.Test.YtfcejgeckcoefaaRatA
namespace Go.Proofs.Ytfcejgeckcoefaa
open Go.RowKit Go.Suf
set_option linter.unusedVariables false
set_option linter.unusedSimpArgs false

/-- The block k, laid since w, holds the cells cs. -/
structure Row (w w1 : World) (k : Nat) (cs : Array Value) : Prop where
  below : Below w.heap.size w w1
  row : w1.heap[k]? = some (.cells cs 27 (0, 0))
  lo : w.heap.size ≤ k
  lt : k < w1.heap.size

theorem Row.new (w : World) (cs : Array Value) : Row w (w.alloc (.cells cs 27)) w.heap.size cs :=
  ⟨(Below.refl _ _).alloc (Nat.le_refl _) _, heap_alloc_new w _, Nat.le_refl _, by rw [World.size_alloc]; omega⟩

theorem Row.later {w w1 w2 : World} {k : Nat} {cs : Array Value} (h : Row w w1 k cs) (hb : Below w1.heap.size w1 w2) : Row w w2 k cs :=
  ⟨h.below.trans (hb.mono h.below.size), by rw [hb.block k h.lt]; exact h.row, h.lo, Nat.lt_of_lt_of_le h.lt hb.size⟩

theorem below_row {B g : Nat} {w0 w : World} (hb : Below B w0 w) (hBg : B ≤ g) (cs : Array Value) : Below B w0 (w.setRow g cs) :=
  ⟨hb.os, hb.tape, hb.output, by rw [setRow_size]; exact hb.size, fun k hk => by rw [setRow_other _ _ _ _ (by omega)]; exact hb.block k hk⟩

/-- What reads as numbers lies in no block of a rational number. -/
theorem rd_rowset {w : World} {a : Option Addr} {n c k : Nat} {xs : List Nat} (h : Rd .u32 w a n c xs) {cs : Array Value} {t : TypeId} {f : Nat × Nat} (hr : w.heap[k]? = some (.cells cs t f)) (hno : ∀ (i : Nat) (z : Int), cs[i]? ≠ some (.int .u32 z)) (cs' : Array Value) :
    Rd .u32 (w.setRow k cs') a n c xs := by
  refine ⟨h.len, ⟨h.sl.le, h.sl.max, h.sl.nil, fun i v hv => ?_, h.sl.one⟩, h.bd⟩
  obtain ⟨b, off, e, hw⟩ := h.sl.cell i v hv
  refine ⟨b, off, e, ?_⟩
  by_cases hk : b = k
  · exfalso
    subst hk
    have hi : i < n := by
      have := h.len
      have h2 : i < (nums .u32 xs).length := by
        rcases Nat.lt_or_ge i (nums .u32 xs).length with h3 | h3
        · exact h3
        · rw [List.getElem?_eq_none h3] at hv
          simp at hv
      simp [nums] at h2
      omega
    obtain ⟨b', off', e', hw', _⟩ := h.cell i hi
    rw [e] at e'
    obtain ⟨rfl, rfl⟩ : b = b' ∧ off = off' := by
      injection e' with e'
      injection e' with e1 e2
      exact ⟨e1, e2⟩
    simp only [World.cell?, hr] at hw'
    exact hno _ _ hw'
  · rw [← hw]
    simp only [World.cell?, setRow_other _ _ _ _ hk]

theorem rat_noint (g : Bool) (a : Option Addr) (n c : Nat) (b : Option Addr) (m d : Nat) : ∀ (i : Nat) (z : Int), (#[.bool g, .slice a n c, .slice b m d] : Array Value)[i]? ≠ some (.int .u32 z) := by
  intro i z
  rcases i with _ | _ | _ | i <;> simp

/-- A rational number that is returned, and one with an error. -/
def RetQ (w : World) (x : QV) : Ending → World → Prop := fun e w' =>
  ∃ a n c b m d, e = .returned (ratV x.neg a n c b m d) ∧ Rd .u32 w' a n c x.num ∧ Rd .u32 w' b m d x.den ∧ Below w.heap.size w w'

def RetQE (w : World) (r : QV × Int) : Ending → World → Prop := fun e w' =>
  ∃ a n c b m d, e = .returned (.tuple #[ratV r.1.neg a n c b m d, .int .i64 r.2]) ∧ Rd .u32 w' a n c r.1.num ∧ Rd .u32 w' b m d r.1.den ∧ Below w.heap.size w w'

theorem gcd_lt {A B i : Nat} (hA : A < pw i) (hB : B < pw i) (h : B ≠ 0) : Nat.gcd A B < pw i := Nat.lt_of_le_of_lt (Nat.gcd_le_right A (by omega)) hB

set_option maxHeartbeats 1000000 in
theorem lowest_any (w : World) (neg : Bool) {a b : Option Addr} {n m c d : Nat} {N D : Nat} (h : Rd .u32 w a n c (limbs N)) (h' : Rd .u32 w b m d (limbs D)) (hN : N < pw 96) (hD : D < pw 96) (hz : D ≠ 0) :
    Calls Try.prog 70 #[.bool neg, .slice a n c, .slice b m d] w (RetQ w (lowV neg N D)) := by
  obtain ⟨g, hg⟩ : ∃ g, g = N.gcd D := ⟨_, rfl⟩
  have hgp : 0 < g := by rw [hg]; exact Nat.gcd_pos_of_pos_right _ (by omega)
  have hgl : g < pw 96 := by rw [hg]; exact gcd_lt hN hD hz
  obtain ⟨r, hr⟩ : ∃ r, r = lowV neg N D := ⟨_, rfl⟩
  rw [← hr]
  have HR := Lib.hid (show r = ⟨neg && decide (0 < N / g), limbs (N / g), limbs (D / g)⟩ by rw [hr, hg]; rfl)
  have HG := Lib.hid hg
  have R0 := Row.new w #[.bool false, .slice none 0 0, .slice none 0 0]
  have r1 := h.below R0.below
  have r2 := h'.below R0.below
  have HZ := Lib.hid hz
  clear hr hg hz
  go_enter Try.func70, Try.ntmps70
  go_wp2_with fail
  have cc := Gcd_any _ r1 r2
  rw [gcd_ok hN hD, ← HG.out] at cc
  refine cc.mono ?_
  rintro e1 w1 ⟨ag, ng, cg, rfl, hg, hb⟩
  clear cc
  have R1 := R0.later hb
  have r1 := r1.below hb
  have r2 := r2.below hb
  go_wp2_with fail
  have cc := Div_any _ r1 hg
  rw [div_ok hN hgl hgp] at cc
  refine cc.mono ?_
  rintro e1 w2 ⟨a1, n1, c1, a2, n2, c2, rfl, hq, _, hb⟩
  clear cc
  have R2 := R1.later hb
  have r2 := r2.below hb
  have hg := hg.below hb
  go_wp2_with fail
  have cc := Div_any _ r2 hg
  rw [div_ok hD hgl hgp] at cc
  refine cc.mono ?_
  rintro e1 w3 ⟨a3, n3, c3, a4, n4, c4, rfl, hp, _, hb⟩
  clear cc
  have R3 := R2.later hb
  have hq := hq.below hb
  have hlen := hq.len
  have hn1 : decide ((0 : Int) < (n1 : Int)) = decide (0 < N / g) := by
    rw [decide_eq_decide, ← hlen]
    generalize N / g = q
    have := @limbs_len_zero q
    omega
  obtain ⟨x, hx⟩ : ∃ x, x = (neg && decide (0 < N / g)) := ⟨_, rfl⟩
  have hx1 : (neg && decide ((0 : Int) < (n1 : Int))) = x := by rw [hn1, hx]
  have hx2 : neg = false → x = false := by rintro rfl; rw [hx]; rfl
  have hx3 : neg = true → decide ((0 : Int) < (n1 : Int)) = x := by rintro rfl; rw [hn1, hx]; rfl
  have HX := Lib.hid hx
  have HN := Lib.hid (show decide (0 < n1) = decide (0 < N / g) by rw [← hn1, decide_eq_decide]; omega)
  clear hx hn1 hlen
  have HB := Lib.hid (fun cs => below_row R3.below R3.lo cs)
  have row := R3.row
  have fin := Lib.hid (fun cs => (⟨rd_rowset hq row (rat_noint _ _ _ _ _ _ _) cs, rd_rowset hp row (rat_noint _ _ _ _ _ _ _) cs⟩ : _ ∧ _))
  cases neg
  · obtain rfl := hx2 rfl
    clear hx1 hx2 hx3
    go_wp2_with (refine wpList_store_whole rfl 27 _ _ rfl atRat _ _ _ row rfl rfl rfl rfl (rat_one _ _ _ _ _ _ _) ?_)
    refine bodyPost_ret (results_cell_row rfl _ _ _ _ _ _ _ rfl (setRow_heap _ _ _ _ _ _ row) Try.underlying27 rfl (by kernel_rfl)) rfl ?_
    refine ⟨a1, n1, c1, a3, n3, c3, by rw [HR.out]; rfl, ?_, ?_, HB.out _⟩
    · rw [HR.out]; exact (fin.out _).1
    · rw [HR.out]; exact (fin.out _).2
  · have hx3 := hx3 rfl
    clear hx1 hx2
    go_wp2_with (refine wpList_store_whole rfl 27 _ _ rfl atRat _ _ _ row rfl rfl rfl rfl (rat_one _ _ _ _ _ _ _) ?_)
    refine bodyPost_ret (results_cell_row rfl _ _ _ _ _ _ _ rfl (setRow_heap _ _ _ _ _ _ row) Try.underlying27 rfl (by kernel_rfl)) rfl ?_
    refine ⟨a1, n1, c1, a3, n3, c3, by
      rw [HR.out]
      show Ending.returned (.agg #[.bool (decide (0 < n1)), _, _]) = .returned (.agg #[.bool (true && decide (0 < N / g)), _, _])
      rw [HN.out, Bool.true_and], ?_, ?_, HB.out _⟩
    · rw [HR.out]; exact (fin.out _).1
    · rw [HR.out]; exact (fin.out _).2

end Go.Proofs.Ytfcejgeckcoefaa
