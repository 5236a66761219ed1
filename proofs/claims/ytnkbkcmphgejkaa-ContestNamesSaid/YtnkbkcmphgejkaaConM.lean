/- Copies of a list of strings and of a contest. Conditions: not too long. -/
import Derived.Test.YtnkbkcmphgejkaaConL
import Derived.Test.YtnkbkcmphgejkaaConJ
set_option linter.unusedVariables false
set_option linter.unusedSimpArgs false
namespace Go.Proofs.Ytnkbkcmphgejkaa
open Go.RowKit Go.Suf

/-- A new list of strings. -/
def RetS (w : World) (n : Nat) (ss : List ByteArray) : Ending → World → Prop := fun e w' =>
  ∃ a' cap', e = .returned (.slice a' n cap') ∧ OwS 9 w.heap.size w' a' n cap' ss ∧ Below w.heap.size w w'

set_option maxHeartbeats 400000 in
theorem cloneS_any (w : World) {a : Option Addr} {n cap : Nat} {ss : List ByteArray} (h : RdS w a n cap ss) (hn : n ≤ 1099511627776) :
    Calls Try.prog 50 #[.slice a n cap] w (RetS w n ss) := by
  have hl := Lib.hid h.len
  have heq := fun (w : World) => Lib.run_eql_slice_nil (P := Try.prog) w
  cases a with
  | none =>
    have hc := h.sl.nil rfl
    subst hc
    have hn : n = 0 := by have := h.le; omega
    subst hn
    have hx : ss = [] := List.eq_nil_of_length_eq_zero h.len
    subst hx
    go_enter Try.func50, Try.ntmps50
    go_wp2
    go_ret
    exact ⟨none, 0, rfl, OwS.nil _ _ _, Below.refl _ _⟩
  | some ad =>
    go_enter Try.func50, Try.ntmps50
    go_wp2_with (at_builtin; refine wpList_app rfl _ _ 38 rfl etS w.heap.size rfl (World.ownsRow_made w #[] 0 (Nat.le_refl _) (by decide) rfl) rfl (by simpa using h.len) (h.sl.below ((Below.refl _ w).alloc (Nat.le_refl _) _)) (by unfold maxLen; omega) (by omega) (by simp) ?_; intro a' cap' w' hown hg hb)
    go_ret
    exact ⟨a', cap', by simp, ⟨h.len, by simpa using hown⟩, ((Below.refl _ w).alloc (Nat.le_refl _) _).trans hb⟩

end Go.Proofs.Ytnkbkcmphgejkaa
namespace Go.Suf
open Go.RowKit Go.Suf
open Go.Proofs.Ytnkbkcmphgejkaa
theorem OwS.setC {e : TypeId} {base b i : Nat} {w : World} {a : Option Addr} {n cap : Nat} {ss : List ByteArray} (h : OwS e base w a n cap ss) (hb : b < base) (u : Value) : OwS e base (w.setCell ⟨b, i, none⟩ u) a n cap ss :=
  ⟨h.len, ownsRow_setCell_below h.own (a := ⟨b, i, none⟩) hb u⟩
theorem OwS.setR {e : TypeId} {base b : Nat} {w : World} {a : Option Addr} {n cap : Nat} {ss : List ByteArray} (h : OwS e base w a n cap ss) (hb : b < base) (cs : Array Value) : OwS e base (w.setRow b cs) a n cap ss :=
  ⟨h.len, h.own.kept (row := some b) ⟨rfl, rfl, rfl, by simp, fun k _ hk => setRow_other _ _ _ _ (by simpa using hk)⟩ (by
    cases hv : (Value.slice a n cap).ownBlock with
    | none => exact .inl rfl
    | some k =>
      right
      have := (h.own.lt k hv).1
      simp
      omega)⟩
end Go.Suf
namespace Go.Proofs.Ytnkbkcmphgejkaa
open Go.RowKit Go.Suf
/-- A copy of a contest. -/
def RetC (w : World) (nm : ByteArray) (n : Nat) (ss : List ByteArray) (seats : Int) (rule : Nat) : Ending → World → Prop := fun e w' =>
  ∃ a' cap', e = .returned (.agg #[.string nm, .slice a' n cap', .int .i64 seats, .int .u8 (rule : Nat)]) ∧ OwS 9 w.heap.size w' a' n cap' ss ∧ Below w.heap.size w w'

theorem row_cells {w : World} {b : Nat} {cs : List Value} {t : TypeId} (h : w.heap[b]? = some (.cells cs.toArray t (0, 0))) (j : Nat) (u : Value) (hu : cs[j]? = some u) : w.cell? ⟨b, 0 + j, none⟩ = some u := by
  simp only [World.cell?, h, Nat.zero_add, List.getElem?_toArray, hu]
  rfl

set_option maxRecDepth 100000 in
set_option maxHeartbeats 1000000 in
theorem Twin_any (w : World) (nm : ByteArray) {a : Option Addr} {n cap : Nat} {ss : List ByteArray} (h : RdS w a n cap ss) (hn : n ≤ 1099511627776) (seats : Int) (rule : Nat) :
    Calls Try.prog 22 #[.agg #[.string nm, .slice a n cap, .int .i64 seats, .int .u8 (rule : Nat)]] w (RetC w nm n ss seats rule) := by
  have hz1 : (w.alloc (.cells #[.string nm, .slice a n cap, .int .i64 seats, .int .u8 (rule : Nat)] 40)).heap.size = w.heap.size + 1 := World.size_alloc _ _
  have hA : Below w.heap.size w ((w.alloc (.cells #[.string nm, .slice a n cap, .int .i64 seats, .int .u8 (rule : Nat)] 40)).alloc (.cells #[Value.string ⟨#[]⟩, .slice none 0 0, .int .i64 0, .int .u8 0] 40)) := ((Below.refl _ _).alloc (Nat.le_refl _) _).alloc (by omega) _
  go_enter Try.func22, Try.ntmps22
  go_wp2_with fail
  refine (cloneS_any _ (h.below hA) hn).mono ?_
  rintro e w1 ⟨a', c', rfl, ho, hb1⟩
  simp only [World.size_alloc] at ho hb1
  have r0 : w1.heap[w.heap.size]? = some (.cells #[.string nm, .slice a n cap, .int .i64 seats, .int .u8 (rule : Nat)] 40 (0, 0)) := by
    rw [hb1.block _ (by omega), heap_alloc_old _ _ (by omega), heap_alloc_new]
  have r1 : w1.heap[w.heap.size + 1]? = some (.cells #[Value.string ⟨#[]⟩, .slice none 0 0, .int .i64 0, .int .u8 0] 40 (0, 0)) := by
    rw [hb1.block _ (by omega), ← hz1, heap_alloc_new]
  have c1 : w1.cell? ⟨w.heap.size, 1, none⟩ = some (.slice a n cap) := by
    simp only [World.cell?, r0]
    rfl
  have f1 : w1.frozen? ⟨w.heap.size, 1, none⟩ = false := by simp [World.frozen?, r0]
  have s0 : (w1.setCell ⟨w.heap.size, 1, none⟩ (.slice a' n c')).heap[w.heap.size]? = some (.cells [.string nm, .slice a' n c', .int .i64 seats, .int .u8 (rule : Nat)].toArray 40 (0, 0)) := by
    rw [heap_setCell_same _ _ _ _ _ _ r0]
    rfl
  have s1 : (w1.setCell ⟨w.heap.size, 1, none⟩ (.slice a' n c')).heap[w.heap.size + 1]? = some (.cells #[Value.string ⟨#[]⟩, .slice none 0 0, .int .i64 0, .int .u8 0] 40 (0, 0)) := by
    rw [heap_setCell_other _ _ _ _ (by simp), r1]
  have hB : ∀ cs, Below w.heap.size w ((w1.setCell ⟨w.heap.size, 1, none⟩ (.slice a' n c')).setRow (w.heap.size + 1) cs) := fun cs => below_set (((hA.trans (hb1.mono (by omega)))).setCell (Nat.le_refl _) _) (by omega) cs
  have HB := Lib.hid hB
  clear hB hA
  go_wp2_with first | refine wpList_load_agg rfl 40 _ rfl atCon rfl [.string nm, .slice a' n c', .int .i64 seats, .int .u8 (rule : Nat)] rfl (row_cells s0) ?_ | refine wpList_store_whole rfl 40 _ _ rfl atCon _ _ _ s1 rfl rfl rfl rfl (con_one _ _ _ _ _ _) ?_
  refine bodyPost_ret (results_cell_row rfl _ _ _ _ _ _ _ rfl (setRow_heap _ _ _ _ _ _ s1) Try.underlying40 rfl (by kernel_rfl)) rfl ?_
  exact ⟨a', c', rfl, ((ho.setC (by omega) _).setR (by omega) _).base_le (by omega), HB.out _⟩

end Go.Proofs.Ytnkbkcmphgejkaa
