/- The iterator's contract, and the program's slices.Collect over it. Conditions: the sizes of sheets. -/
import Derived.Test.YthpjnbnheagpiaaSheN
import Derived.Shelf.Abstract
namespace Go.Proofs.Ythpjnbnheagpiaa
open Go.RowKit Go.Suf Go.Shelf
set_option linter.unusedVariables false
set_option linter.unusedSimpArgs false
attribute [local go_sem] Oper.semAt_some

set_option maxHeartbeats 1000000 in
/-- The iterator's maker. -/
theorem row_in (w : World) (nn rp : Nat) (j : Int) :
    CallsIn Fence.wide nn Try.prog 67 #[.pointer (some ⟨rp, 0, none⟩), .int .i64 j] w fun e w' => e = .returned (.func (.func 80) #[] #[.pointer (some ⟨w.heap.size, 0, none⟩), .pointer (some ⟨w.heap.size + 1, 0, none⟩)]) ∧ w' = (w.alloc (.cells #[.pointer (some ⟨rp, 0, none⟩)] 68)).alloc (.cells #[.int .i64 j] 3) := by
  refine callsIn_of_wp Try.func67 rfl trivial ?_ rfl
  simp only [Try.ntmps67, List.size_toArray, List.length_cons, List.length_nil, Nat.reduceAdd, Nat.reduceSub, Array.replicate_succ, Array.replicate_zero, List.push_toArray, List.append_toArray, List.nil_append, List.cons_append]
  gi_wp2
  go_ret
  exact ⟨rfl, rfl⟩

theorem row_any (w : World) (rp : Nat) (j : Int) :
    Calls Try.prog 67 #[.pointer (some ⟨rp, 0, none⟩), .int .i64 j] w fun e w' => e = .returned (.func (.func 80) #[] #[.pointer (some ⟨w.heap.size, 0, none⟩), .pointer (some ⟨w.heap.size + 1, 0, none⟩)]) ∧ w' = (w.alloc (.cells #[.pointer (some ⟨rp, 0, none⟩)] 68)).alloc (.cells #[.int .i64 j] 3) :=
  (callsIn_wide (n := 9)).1 (row_in w 9 rp j)

/-- What the closure reads, in the world behind row. -/
structure RdrW (w : World) (rp g og mc : Nat) (t3 t4 : TypeId) (rc gc : Array Value) (mk : List Bool) (n wd : Nat) : Prop where
  row : w.heap[rp]? = some (.cells rc t3 (0, 0))
  blk : w.heap[g]? = some (.cells gc t4 (0, 0))
  c4 : rc[4]? = some (.slice (some ⟨g, og, none⟩) mk.length mc)
  c5 : rc[5]? = some (.int .i64 ((n : Nat) : Int))
  c6 : rc[6]? = some (.int .i64 ((wd : Nat) : Int))
  val : ∀ i, i < mk.length → gc[og + i]? = some (.bool (bth mk i))

theorem RdrW.rowW {w : World} {rp g og mc : Nat} {t3 t4 : TypeId} {rc gc : Array Value} {mk : List Bool} {n wd : Nat} (h : RdrW w rp g og mc t3 t4 rc gc mk n wd) (j : Nat) :
    RowW ((w.alloc (.cells #[.pointer (some ⟨rp, 0, none⟩)] 68)).alloc (.cells #[.int .i64 ((j : Nat) : Int)] 3)) w.heap.size (w.heap.size + 1) rp g og j mc 68 3 t3 t4 rc gc mk n wd := by
  have l1 := (Array.getElem?_eq_some_iff.1 h.row).1
  have l2 := (Array.getElem?_eq_some_iff.1 h.blk).1
  have z : (w.alloc (.cells #[.pointer (some ⟨rp, 0, none⟩)] 68)).heap.size = w.heap.size + 1 := by simp
  refine ⟨?_, ?_, ?_, ?_, h.c4, h.c5, h.c6, h.val⟩
  · exact (Below.heap_alloc _ _ _ (by omega)).trans (heap_alloc_new w _)
  · have := heap_alloc_new (w.alloc (.cells #[.pointer (some ⟨rp, 0, none⟩)] 68)) (.cells #[.int .i64 ((j : Nat) : Int)] 3)
    rwa [z] at this
  · exact (Below.heap_alloc _ _ _ (by omega)).trans ((Below.heap_alloc _ _ _ l1).trans h.row)
  · exact (Below.heap_alloc _ _ _ (by omega)).trans ((Below.heap_alloc _ _ _ l2).trans h.blk)

theorem seq_drew {B : Nat} {J : List Nat → World → Prop} (h : AbidesFrom B J) (pre : List Nat) (W : World) (hj : J pre W) : J pre W.drew :=
  h pre W W.drew none hj ⟨rfl, rfl, rfl, Nat.le_refl _, fun _ _ _ => rfl⟩ (fun r e => by cases e)

theorem below_kp {L n0 m : Nat} {A B : World} (h : Below m A B) (hm : n0 ≤ m) : KpB L n0 A B := fun k c t h1 _ h3 => by
  have := h.block k (by omega)
  exact this.trans h3

/-- **The contract of row's value.** -/
theorem row_stops (nn L n0 b1 b2 rp g og j mc : Nat) (t1 t2 t3 t4 : TypeId) (rc gc : Array Value) (mk : List Bool) (n wd : Nat) (hn : n ≤ 1000) (hwd : wd ≤ 1000) (hjj : j ≤ 1000) (hb : ∀ i, i < n → i * wd + j < mk.length) (hlen : mk.length ≤ 1000000)
    (q1 : b1 < n0 ∧ b1 ≠ L) (q2 : b2 < n0 ∧ b2 ≠ L) (q3 : rp < n0 ∧ rp ≠ L) (q4 : g < n0 ∧ g ≠ L) (w : World) (hn0 : n0 ≤ w.heap.size) (hR : RowW w b1 b2 rp g og j mc t1 t2 t3 t4 rc gc mk n wd) :
    SeqStopsK Fence.wide nn Try.prog 80 #[.pointer (some ⟨b1, 0, none⟩), .pointer (some ⟨b2, 0, none⟩)] (fun x : Nat => #[Value.int .i64 ((x : Nat) : Int)]) (KpB L n0) (fun xs => xs = colN mk wd j n) (fun _ => True) 1001 w := fun l J Jx W hW hJ _ hY h0 =>
  row1_in nn l L n0 b1 b2 rp g og j mc t1 t2 t3 t4 rc gc mk n wd hn hwd hjj hb hlen q1 q2 q3 q4 J Jx (seq_drew hJ) (fun pre x W1 h1 h2 => hY pre x W1 h1 h2) W (hR.kept (below_kp hW hn0) q1 q2 q3 q4) h0

set_option maxRecDepth 100000 in
set_option maxHeartbeats 2000000 in
/-- slices.AppendSeq at the nil slice. -/
theorem appSeq_any (b1 b2 rp g og j mc : Nat) (t1 t2 t3 t4 : TypeId) (rc gc : Array Value) (mk : List Bool) (n wd : Nat) (hn : n ≤ 1000) (hwd : wd ≤ 1000) (hjj : j ≤ 1000) (hb : ∀ i, i < n → i * wd + j < mk.length) (hlen : mk.length ≤ 1000000)
    (w : World) (hR : RowW w b1 b2 rp g og j mc t1 t2 t3 t4 rc gc mk n wd) :
    Calls Try.prog 82 #[.slice none 0 0, .func (.func 80) #[] #[.pointer (some ⟨b1, 0, none⟩), .pointer (some ⟨b2, 0, none⟩)]] w (RetI w (colL mk wd j n).length (colL mk wd j n)) := by
  have l1 := (Array.getElem?_eq_some_iff.1 hR.box1).1
  have l2 := (Array.getElem?_eq_some_iff.1 hR.box2).1
  have l3 := (Array.getElem?_eq_some_iff.1 hR.row).1
  have l4 := (Array.getElem?_eq_some_iff.1 hR.blk).1
  obtain ⟨i0, hi, hz0, hz1, hz2⟩ := etI.info
  refine (callsIn_wide (n := 9)).1 ?_
  refine callsIn_of_wp_marks Try.func82 rfl trivial ?_ rfl
  simp only [Try.ntmps82, List.size_toArray, List.length_cons, List.length_nil, Nat.reduceAdd, Nat.reduceSub, Array.replicate_succ, Array.replicate_zero, List.push_toArray, List.append_toArray, List.nil_append, List.cons_append]
  gi_wp2
  have bO := Boxed.new w 35 (.slice none 0 0)
  have hB0 : Below w.heap.size w (w.alloc (.cells #[.slice none 0 0] 35)) := (Below.refl _ w).alloc (Nat.le_refl _) _
  have hRS := hR.kept (L := w.heap.size) (n0 := w.heap.size) (below_kp hB0 (Nat.le_refl _)) ⟨l1, by omega⟩ ⟨l2, by omega⟩ ⟨l3, by omega⟩ ⟨l4, by omega⟩
  refine wpIn_rangeFunc_ownG rfl (by omega) (gf := 80) (lb := #[.pointer (some ⟨b1, 0, none⟩), .pointer (some ⟨b2, 0, none⟩)]) rfl trivial (enters_of Try.func80 (by kernel_rfl) rfl)
    (row_stops _ w.heap.size w.heap.size b1 b2 rp g og j mc t1 t2 t3 t4 rc gc mk n wd hn hwd hjj hb hlen ⟨l1, by omega⟩ ⟨l2, by omega⟩ ⟨l3, by omega⟩ ⟨l4, by omega⟩ _ (by simp) hRS) (fun h k => KpB.trans h k) (fun W l o o' _ h hc _ => KpB.put W l o o' h hc) (Below.refl _ _) (fun _ => rfl)
    (fun pre W => (∃ v, Boxed W w.heap.size 35 v ∧ W.ownsRow w.heap.size 3 1 v pre.length (pre.map (fun x => Value.int .i64 ((x : Nat) : Int))) ∧ True) ∧ Below w.heap.size w W)
    (fun _ _ _ => False)
    (OwnFrom.and (Own.from (holdsRow_own w.heap.size w.heap.size 35 3 1 (fun pre : List Nat => pre.length) (fun pre => pre.map (fun x => Value.int .i64 ((x : Nat) : Int))) (fun _ _ => True)) _) (ownFrom_below (Nat.le_refl _) (by simp)))
    (fun _ _ _ _ _ hs _ _ => hs)
    ⟨⟨_, bO, World.ownsRow_nil _ _ _ _, trivial⟩, hB0⟩
    (fun x => { tmps := #[.slice none 0 0, (.func (.func 80) #[] #[.pointer (some ⟨b1, 0, none⟩), .pointer (some ⟨b2, 0, none⟩)]), .pointer (some ⟨w.heap.size, 0, none⟩), undef, .slice none 0 0, .int .i64 ((x : Nat) : Int), (.func (.func 80) #[] #[.pointer (some ⟨b1, 0, none⟩), .pointer (some ⟨b2, 0, none⟩)]), .int .i64 ((x : Nat) : Int), undef, undef, undef, undef, undef], defers := [] }) ?assign ?body ?done ?stop
  case assign =>
    intro l x W K hK
    gi_wp2
    exact hK
  case body =>
    rintro l pre x W ⟨⟨v, hv, hrow, -⟩, hB⟩ hlt
    have hc := hv.cell
    gi_wp2_with (gi_at_builtin; refine wpListIn_append_own _ rfl _ _ 35 rfl w.heap.size 3 i0 (.int .i64 0) 1 8 Try.underlying35 hi hz0 hz1 hz2 rfl (by decide) _ _ _ rfl (hrow.alloc _) ⟨W.heap.size, 0, none⟩ 1 1 [.int .i64 ((x : Nat) : Int)] rfl rfl (cell_one_new _ _ _) (by simp [Value.oneCell']) (by unfold maxLen; omega) (by omega) (by have := hB.size; simp; omega) ?_; intro v' w1 hown' hgrow _; obtain ⟨g', cap', rfl⟩ := ownsRow_succ hown'; obtain ⟨hv1, hv2, hr2, hk2, hb2⟩ := hv.appended (by decide) hrow hB.size (Nat.le_refl _) hown' hgrow; have hc1 := hv1.cell; have hf1 := hv1.frozen)
    exact ⟨hk2.from _, below_kp hb2 (Nat.le_refl _), ⟨_, hv2, by simpa using hr2, trivial⟩, hB.trans hb2⟩
  case done =>
    rintro D ys W hD rfl ⟨⟨v, hv, hrow, -⟩, hB⟩ hK
    have hc := hv.cell
    gi_wp2
    refine ⟨by simp, .inl ⟨_, _, rfl, run_takeDeferred hK, ?_⟩⟩
    refine ⟨_, results_tmp rfl _ _ _, ?_⟩
    have hrow' := ownsRow_putObj hrow (.deferred none) hK rfl
    have hl : (colN mk wd j n).length = (colL mk wd j n).length := by rw [← colN_colL, List.length_map]
    have hm : (colN mk wd j n).map (fun x => Value.int .i64 ((x : Nat) : Int)) = (colL mk wd j n).map encI := by rw [← colN_colL, List.map_map]; rfl
    rw [hl, hm] at hrow'
    have hB' := hB.trans (belowK_b (w := w) (Nat.le_refl _) W D (.deferred (some [])) (.deferred none) (by simp at hD; omega) hK rfl rfl)
    rcases hrow'.2 with ⟨rfl, h0⟩ | ⟨g1, cap1, _, rfl, _⟩
    · have h00 : (colL mk wd j n).length = 0 := h0
      rw [h00] at hrow' ⊢
      exact ⟨none, 0, rfl, ⟨h00, hrow', colL_ok mk wd j n (by omega)⟩, hB'⟩
    · exact ⟨_, _, rfl, ⟨rfl, hrow', colL_ok mk wd j n (by omega)⟩, hB'⟩
  case stop =>
    rintro D c pre W _ _ h _
    exact h.elim

end Go.Proofs.Ythpjnbnheagpiaa
