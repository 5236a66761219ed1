/- Rows of any type, and writing to them. No condition. Printed by gen_prow.py. -/
import Derived.Test.YtdaajeklnhbhjaaGreatDoorRatJ
import Derived.Test.YtdaajeklnhbhjaaGreatDoorRatD
namespace Go.Proofs.YtdaajeklnhbhjaaGreatDoor
open Go.RowKit Go.Suf
set_option linter.unusedVariables false
set_option linter.unusedSimpArgs false

/-- The block k, laid since w, holds the cells of a value of type t. -/
structure PRow (t : TypeId) (w w1 : World) (k : Nat) (cs : Array Value) : Prop where
  below : Below w.heap.size w w1
  row : w1.heap[k]? = some (.cells cs t (0, 0))
  lo : w.heap.size ≤ k
  lt : k < w1.heap.size

theorem PRow.new (t : TypeId) (w : World) (cs : Array Value) : PRow t w (w.alloc (.cells cs t)) w.heap.size cs :=
  ⟨(Below.refl _ _).alloc (Nat.le_refl _) _, heap_alloc_new w _, Nat.le_refl _, by rw [World.size_alloc]; omega⟩

theorem PRow.later {t : TypeId} {w w1 w2 : World} {k : Nat} {cs : Array Value} (h : PRow t w w1 k cs) (hb : Below w1.heap.size w1 w2) : PRow t w w2 k cs :=
  ⟨h.below.trans (hb.mono h.below.size), by rw [hb.block k h.lt]; exact h.row, h.lo, Nat.lt_of_lt_of_le h.lt hb.size⟩

theorem PRow.cell {t : TypeId} {w w1 : World} {k : Nat} {cs : Array Value} (h : PRow t w w1 k cs) (i : Nat) (v : Value) (hv : cs[i]? = some v) : w1.cell? ⟨k, i, none⟩ = some v := by
  simp only [World.cell?, h.row, hv]
  rfl

theorem PRow.set {t : TypeId} {w w1 : World} {k : Nat} {cs : Array Value} (h : PRow t w w1 k cs) (i : Nat) (v : Value) : PRow t w (w1.setCell ⟨k, i, none⟩ v) k (cs.setIfInBounds i v) :=
  ⟨h.below.setCell h.lo v, heap_setCell_same w1 k i cs t v h.row, h.lo, by have := h.lt; simpa [World.setCell] using this⟩

theorem PRow.other {t : TypeId} {w w1 : World} {k : Nat} {cs : Array Value} (h : PRow t w w1 k cs) {p : Addr} (hp : k ≠ p.block) (hl : w.heap.size ≤ p.block) (v : Value) : PRow t w (w1.setCell p v) k cs :=
  ⟨h.below.setCell hl v, by rw [Below.heap_setCell _ _ _ _ hp]; exact h.row, h.lo, by have := h.lt; simpa [World.setCell] using this⟩

theorem PRow.free {t : TypeId} {w w1 : World} {k : Nat} {cs : Array Value} (h : PRow t w w1 k cs) (i : Nat) : w1.frozen? ⟨k, i, none⟩ = false := frozen_of_row w1 k i _ t h.row

/-- What reads as numbers reads on where a cell of a state is stored. -/
theorem rd_setcell {w : World} {a : Option Addr} {n c k i : Nat} {xs : List Nat} (h : Rd .u32 w a n c xs) {cs : Array Value} {t : TypeId} {f : Nat × Nat} (hr : w.heap[k]? = some (.cells cs t f)) (hno : ∀ (i : Nat) (z : Int), cs[i]? ≠ some (.int .u32 z)) (v : Value) :
    Rd .u32 (w.setCell ⟨k, i, none⟩ v) a n c xs := by
  refine ⟨h.len, ⟨h.sl.le, h.sl.max, h.sl.nil, fun j u hv => ?_, h.sl.one⟩, h.bd⟩
  obtain ⟨b, off, e, hw⟩ := h.sl.cell j u hv
  refine ⟨b, off, e, ?_⟩
  by_cases hk : b = k
  · exfalso
    subst hk
    have hi : j < n := by
      have := h.len
      have h2 : j < (nums .u32 xs).length := by
        rcases Nat.lt_or_ge j (nums .u32 xs).length with h3 | h3
        · exact h3
        · rw [List.getElem?_eq_none h3] at hv
          simp at hv
      simp [nums] at h2
      omega
    obtain ⟨b', off', e', hw', _⟩ := h.cell j hi
    rw [e] at e'
    obtain ⟨rfl, rfl⟩ : b = b' ∧ off = off' := by
      injection e' with e'
      injection e' with e1 e2
      exact ⟨e1, e2⟩
    simp only [World.cell?, hr] at hw'
    exact hno _ _ hw'
  · rw [← hw]
    simp only [World.cell?, Below.heap_setCell _ _ _ _ (show b ≠ (⟨k, i, none⟩ : Addr).block from hk)]

theorem PRow.rebase {t : TypeId} {w1 w2 w3 : World} {k : Nat} {cs : Array Value} (h : PRow t w2 w3 k cs) (hb : Below w1.heap.size w1 w3) (hl : w1.heap.size ≤ w2.heap.size) : PRow t w1 w3 k cs :=
  ⟨hb, h.row, Nat.le_trans hl h.lo, h.lt⟩

theorem PRow.put {t : TypeId} {w w1 : World} {k : Nat} {cs : Array Value} (h : PRow t w w1 k cs) (cs' : Array Value) : PRow t w (w1.setRow k cs') k cs' :=
  ⟨below_row h.below h.lo _, setRow_heap _ _ _ _ _ _ h.row, h.lo, by rw [setRow_size]; exact h.lt⟩

theorem op_store_whole {P : Program} {o : Oper} {a : Act} {w : World} {K : Act → World → Prop} {Q : Exit → Act → World → Prop} (t : TypeId) (x y : Operand) (ho : o.op = .store t x y) {m : Nat} (A : AT P t m)
    {b : Nat} (cur vs : Array Value) (e : TypeId) (hg : w.heap[b]? = some (.cells cur e (0, 0))) (hx : a.eval x = .pointer (some ⟨b, 0, none⟩)) (hy : a.eval y = .agg vs) (hm : vs.size = m) (hcur : cur.size = m) (h1 : ∀ u ∈ vs.toList, u.oneCell' = true)
    (h : K (a.put o.dst undef) (w.setRow b vs)) : o.wp P a w K Q := by
  have hst := run_storeCells_at P b 0 e vs.toList 0 cur w hg (by simp; omega) h1
  simp only [Nat.add_zero, List.take_zero, List.nil_append, Array.length_toList] at hst
  rw [List.drop_eq_nil_of_le (by simp; omega), List.append_nil, Array.toArray_toList] at hst
  unfold Oper.wp execOp
  simp only [ho, hx, hy, Instr.storeAt, Instr.sureAddr, Sem.run_bind, Sem.run_pure, Result.andThen_ok, storeVar, A.sizeOf, Value.cells, hm]
  simp only [ne_eq, not_true_eq_false, if_false, hst]
  exact h

theorem cell_row {w : World} {k i g : Nat} {v : Value} {cs : Array Value} (h : w.cell? ⟨k, i, none⟩ = some v) (hne : k ≠ g) : (w.setRow g cs).cell? ⟨k, i, none⟩ = some v := by
  simp only [World.cell?, setRow_other _ _ _ _ hne] at *
  exact h

end Go.Proofs.YtdaajeklnhbhjaaGreatDoor
