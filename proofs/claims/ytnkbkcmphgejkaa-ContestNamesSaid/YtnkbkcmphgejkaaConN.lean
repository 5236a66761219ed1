/- The copy of a contest in the answer of the document. -/
import Derived.Test.YtnkbkcmphgejkaaConM
set_option linter.unusedVariables false
set_option linter.unusedSimpArgs false
namespace Go.Proofs.Ytnkbkcmphgejkaa
open Go.RowKit Go.Suf

set_option maxRecDepth 100000 in
set_option maxHeartbeats 1000000 in
theorem refTwin_any (w : World) (nm : ByteArray) {a : Option Addr} {n cap : Nat} {ss : List ByteArray} (h : RdS w a n cap ss) (hn : n ≤ 1099511627776) (seats : Int) (rule : Nat) :
    Calls Try.prog 19 #[.agg #[.string nm, .slice a n cap, .int .i64 seats, .int .u8 (rule : Nat)]] w (RetC w nm n ss seats rule) := by
  have hz1 : (w.alloc (.cells #[.string nm, .slice a n cap, .int .i64 seats, .int .u8 (rule : Nat)] 40)).heap.size = w.heap.size + 1 := World.size_alloc _ _
  have hA : Below w.heap.size w ((w.alloc (.cells #[.string nm, .slice a n cap, .int .i64 seats, .int .u8 (rule : Nat)] 40)).alloc (.cells #[Value.string ⟨#[]⟩, .slice none 0 0, .int .i64 0, .int .u8 0] 40)) := ((Below.refl _ _).alloc (Nat.le_refl _) _).alloc (by omega) _
  have hl := Lib.hid h.len
  have hm : (((w.alloc (.cells #[.string nm, .slice a n cap, .int .i64 seats, .int .u8 (rule : Nat)] 40)).alloc (.cells #[Value.string ⟨#[]⟩, .slice none 0 0, .int .i64 0, .int .u8 0] 40)).alloc (.cells #[] 9)).ownsRow (w.heap.size + 1 + 1) 9 1 (.slice (some ⟨w.heap.size + 1 + 1, 0, none⟩) 0 0) 0 [] := by
    have := World.ownsRow_made (e := 9) (size := 1) (base := w.heap.size + 1 + 1) ((w.alloc (.cells #[.string nm, .slice a n cap, .int .i64 seats, .int .u8 (rule : Nat)] 40)).alloc (.cells #[Value.string ⟨#[]⟩, .slice none 0 0, .int .i64 0, .int .u8 0] 40)) #[] 0 (by simp [World.size_alloc]) (by decide) rfl
    rwa [World.size_alloc, World.size_alloc] at this
  have hs2 : (((w.alloc (.cells #[.string nm, .slice a n cap, .int .i64 seats, .int .u8 (rule : Nat)] 40)).alloc (.cells #[Value.string ⟨#[]⟩, .slice none 0 0, .int .i64 0, .int .u8 0] 40))).heap.size = w.heap.size + 1 + 1 := by rw [World.size_alloc, World.size_alloc]
  have hr := h.below (hA.alloc (by simp [World.size_alloc]; omega) (.cells #[] 9))
  go_enter Try.func19, Try.ntmps19
  go_wp2_with (at_builtin; refine wpList_app rfl _ _ 38 rfl etS (w.heap.size + 1 + 1) rfl hm rfl (by simpa using h.len) hr.sl (by unfold maxLen; omega) (by omega) (by simp [World.size_alloc]) ?_; intro a' c' w1 hown hg hb1; refine Hid.out ?_)
  simp only [Nat.zero_add, List.nil_append] at hown ⊢
  have ho : OwS 9 (w.heap.size + 1 + 1) w1 a' n c' ss := ⟨h.len, hown⟩
  have r0 : w1.heap[w.heap.size]? = some (.cells #[.string nm, .slice a n cap, .int .i64 seats, .int .u8 (rule : Nat)] 40 (0, 0)) := by
    rw [hb1.block _ (by omega), heap_alloc_old _ _ (by omega), heap_alloc_old _ _ (by omega), heap_alloc_new]
  have r1 : w1.heap[w.heap.size + 1]? = some (.cells #[Value.string ⟨#[]⟩, .slice none 0 0, .int .i64 0, .int .u8 0] 40 (0, 0)) := by
    rw [hb1.block _ (by omega), heap_alloc_old _ _ (by omega), ← hz1, heap_alloc_new]
  have c1 : w1.cell? ⟨w.heap.size, 1, none⟩ = some (.slice a n cap) := by
    simp only [World.cell?, r0]
    rfl
  have f1 : w1.frozen? ⟨w.heap.size, 1, none⟩ = false := by simp [World.frozen?, r0]
  have s0 : (w1.setCell ⟨w.heap.size, 1, none⟩ (.slice a' n c')).heap[w.heap.size]? = some (.cells [.string nm, .slice a' n c', .int .i64 seats, .int .u8 (rule : Nat)].toArray 40 (0, 0)) := by
    rw [heap_setCell_same _ _ _ _ _ _ r0]
    rfl
  have s1 : (w1.setCell ⟨w.heap.size, 1, none⟩ (.slice a' n c')).heap[w.heap.size + 1]? = some (.cells #[Value.string ⟨#[]⟩, .slice none 0 0, .int .i64 0, .int .u8 0] 40 (0, 0)) := by
    rw [heap_setCell_other _ _ _ _ (by simp), r1]
  have hB : ∀ cs, Below w.heap.size w ((w1.setCell ⟨w.heap.size, 1, none⟩ (.slice a' n c')).setRow (w.heap.size + 1) cs) := fun cs => below_set ((((hA.alloc (by omega) _).trans (hb1.mono (by omega)))).setCell (Nat.le_refl _) _) (by omega) cs
  have HB := Lib.hid hB
  clear hB hA
  refine Lib.hid ?_
  go_wp2_with first | refine wpList_load_agg rfl 40 _ rfl atCon rfl [.string nm, .slice a' n c', .int .i64 seats, .int .u8 (rule : Nat)] rfl (row_cells s0) ?_ | refine wpList_store_whole rfl 40 _ _ rfl atCon _ _ _ s1 rfl rfl rfl rfl (con_one _ _ _ _ _ _) ?_
  refine bodyPost_ret (results_cell_row rfl _ _ _ _ _ _ _ rfl (setRow_heap _ _ _ _ _ _ s1) Try.underlying40 rfl (by kernel_rfl)) rfl ?_
  exact ⟨a', c', rfl, ((ho.setC (by omega) _).setR (by omega) _).base_le (by omega), HB.out _⟩

end Go.Proofs.Ytnkbkcmphgejkaa
