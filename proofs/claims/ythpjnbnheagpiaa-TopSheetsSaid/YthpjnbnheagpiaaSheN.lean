/- The program's iterator over a column of boxes, and slices.Collect over it. Conditions: the sizes of sheets. Printed by gen_shen.py. -/
import Derived.Test.YthpjnbnheagpiaaSheJ
import Derived.RangeFuncFrom
import Derived.RangeFuncBox
import Derived.RangeFuncLeaves
import Derived.RangeFuncCalls
import Derived.OwnWalkIn
import Derived.TacticsInMore
import Derived.LoopNIn
import Derived.LoopIn
namespace Go.Proofs.Ythpjnbnheagpiaa
open Go.RowKit Go.Suf
set_option linter.unusedVariables false
set_option linter.unusedSimpArgs false
attribute [local go_sem] Oper.semAt_some

/-- The marked ones of a column, as numbers. -/
def colN (mk : List Bool) (wd j n : Nat) : List Nat := (List.range n).filter fun i => bth mk (i * wd + j)
theorem colN_colL (mk : List Bool) (wd j n : Nat) : (colN mk wd j n).map (fun i => ((i : Nat) : Int)) = colL mk wd j n := rfl
theorem colN_succ (mk : List Bool) (wd j n : Nat) : colN mk wd j (n + 1) = colN mk wd j n ++ (if bth mk (n * wd + j) = true then [n] else []) := by
  unfold colN
  rw [List.range_succ, List.filter_append]
  by_cases h : bth mk (n * wd + j) = true
  · simp [h]
  · simp [h]
theorem colN_le (mk : List Bool) (wd j n : Nat) : (colN mk wd j n).length ≤ n := by
  unfold colN
  exact Nat.le_trans (List.length_filter_le _ _) (by simp)

/-- Blocks of cells below n0 other than L lie as they lay. -/
def KpB (L n0 : Nat) (A B : World) : Prop := ∀ (k : Nat) (c : Array Value) (t : TypeId), k < n0 → k ≠ L → A.heap[k]? = some (.cells c t (0, 0)) → B.heap[k]? = some (.cells c t (0, 0))
theorem KpB.refl (L n0 : Nat) (A : World) : KpB L n0 A A := fun _ _ _ _ _ h => h
theorem KpB.trans {L n0 : Nat} {A B C : World} (h : KpB L n0 A B) (h' : KpB L n0 B C) : KpB L n0 A C := fun k c t h1 h2 h3 => h' k c t h1 h2 (h k c t h1 h2 h3)
theorem KpB.put {L n0 : Nat} (W : World) (l : Nat) (o o' : Obj) (h : W.heap[l]? = some o) (hc : o.isCells = false) : KpB L n0 W (W.putObj l o') := by
  intro k c t _ _ hk
  by_cases e : k = l
  · subst e
    rw [h] at hk
    simp at hk
    subst hk
    simp [Obj.isCells] at hc
  · exact (World.putObj_heap_other e).trans hk

/-- What the iterator's closure reads: its two boxes, the reader's block, the marked boxes. -/
structure RowW (w : World) (b1 b2 rp g og j mc : Nat) (t1 t2 t3 t4 : TypeId) (rc gc : Array Value) (mk : List Bool) (n wd : Nat) : Prop where
  box1 : w.heap[b1]? = some (.cells #[.pointer (some ⟨rp, 0, none⟩)] t1 (0, 0))
  box2 : w.heap[b2]? = some (.cells #[.int .i64 ((j : Nat) : Int)] t2 (0, 0))
  row : w.heap[rp]? = some (.cells rc t3 (0, 0))
  blk : w.heap[g]? = some (.cells gc t4 (0, 0))
  c4 : rc[4]? = some (.slice (some ⟨g, og, none⟩) mk.length mc)
  c5 : rc[5]? = some (.int .i64 ((n : Nat) : Int))
  c6 : rc[6]? = some (.int .i64 ((wd : Nat) : Int))
  val : ∀ i, i < mk.length → gc[og + i]? = some (.bool (bth mk i))
theorem RowW.kept {w w' : World} {b1 b2 rp g og j mc : Nat} {t1 t2 t3 t4 : TypeId} {rc gc : Array Value} {mk : List Bool} {n wd L n0 : Nat} (h : RowW w b1 b2 rp g og j mc t1 t2 t3 t4 rc gc mk n wd)
    (k : KpB L n0 w w') (h1 : b1 < n0 ∧ b1 ≠ L) (h2 : b2 < n0 ∧ b2 ≠ L) (h3 : rp < n0 ∧ rp ≠ L) (h4 : g < n0 ∧ g ≠ L) : RowW w' b1 b2 rp g og j mc t1 t2 t3 t4 rc gc mk n wd :=
  ⟨k _ _ _ h1.1 h1.2 h.box1, k _ _ _ h2.1 h2.2 h.box2, k _ _ _ h3.1 h3.2 h.row, k _ _ _ h4.1 h4.2 h.blk, h.c4, h.c5, h.c6, h.val⟩
theorem RowW.facts {w : World} {b1 b2 rp g og j mc : Nat} {t1 t2 t3 t4 : TypeId} {rc gc : Array Value} {mk : List Bool} {n wd : Nat} (h : RowW w b1 b2 rp g og j mc t1 t2 t3 t4 rc gc mk n wd) :
    w.cell? ⟨b1, 0, none⟩ = some (.pointer (some ⟨rp, 0, none⟩)) ∧ w.cell? ⟨b2, 0, none⟩ = some (.int .i64 ((j : Nat) : Int)) ∧ w.cell? ⟨rp, 4, none⟩ = some (.slice (some ⟨g, og, none⟩) mk.length mc) ∧
    w.cell? ⟨rp, 5, none⟩ = some (.int .i64 ((n : Nat) : Int)) ∧ w.cell? ⟨rp, 6, none⟩ = some (.int .i64 ((wd : Nat) : Int)) ∧ ∀ i, i < mk.length → w.cell? ⟨g, og + i, none⟩ = some (.bool (bth mk i)) :=
  ⟨by rw [cell_of_row _ _ _ _ _ _ h.box1]; rfl, by rw [cell_of_row _ _ _ _ _ _ h.box2]; rfl, by rw [cell_of_row _ _ _ _ _ _ h.row, h.c4], by rw [cell_of_row _ _ _ _ _ _ h.row, h.c5], by rw [cell_of_row _ _ _ _ _ _ h.row, h.c6],
   fun i hi => by rw [cell_of_row _ _ _ _ _ _ h.blk, h.val i hi]⟩

set_option maxRecDepth 100000 in
set_option maxHeartbeats 4000000 in
/-- The closure: it yields the marked ones, one by one. -/
theorem row1_in (nn l L n0 b1 b2 rp g og j mc : Nat) (t1 t2 t3 t4 : TypeId) (rc gc : Array Value) (mk : List Bool) (n wd : Nat) (hn : n ≤ 1000) (hwd : wd ≤ 1000) (hjj : j ≤ 1000) (hb : ∀ i, i < n → i * wd + j < mk.length) (hlen : mk.length ≤ 1000000)
    (q1 : b1 < n0 ∧ b1 ≠ L) (q2 : b2 < n0 ∧ b2 ≠ L) (q3 : rp < n0 ∧ rp ≠ L) (q4 : g < n0 ∧ g ≠ L) (J Jx : List Nat → World → Prop) (hD : ∀ pre W, J pre W → J pre W.drew)
    (hY : ∀ pre x W1, J pre W1 → pre.length < 1001 → YieldAt Fence.wide (nn - 1) Try.prog l #[.int .i64 ((x : Nat) : Int)] W1 fun e W' =>
      (e = .returned (.bool true) ∧ J (pre ++ [x]) W' ∧ KpB L n0 W1 W') ∨ (e = .returned (.bool false) ∧ Jx (pre ++ [x]) W'))
    (W : World) (hR : RowW W b1 b2 rp g og j mc t1 t2 t3 t4 rc gc mk n wd) (h0 : J [] W) :
    CallsIn Fence.wide nn Try.prog 80 #[.func (.yield l) #[] #[], .pointer (some ⟨b1, 0, none⟩), .pointer (some ⟨b2, 0, none⟩)] W fun e W' => (∃ v, e = .returned v) ∧ ((∃ xs, xs = colN mk wd j n ∧ J xs W') ∨ (∃ pre, True ∧ Jx pre W')) := by
  have HB := Lib.hid hb
  obtain ⟨N, hN⟩ : ∃ N, mk.length = N := ⟨_, rfl⟩
  clear hb
  refine callsIn_of_wp Try.func80 rfl trivial ?_ rfl
  simp only [Try.ntmps80, List.size_toArray, List.length_cons, List.length_nil, Nat.reduceAdd, Nat.reduceSub, Array.replicate_succ, Array.replicate_zero, List.push_toArray, List.append_toArray, List.nil_append, List.cons_append]
  obtain ⟨k1, k2, k4, k5, k6, -⟩ := hR.facts
  gi_wp2
  clear k1 k2 k4 k5 k6
  gi_loopw [9] (fun jv wr => ∃ i : Nat, i ≤ n ∧ jv = .int .i64 (i : Nat) ∧ Hid (J (colN mk wd j i) wr) ∧ Hid (KpB L n0 W wr)) (fun jv _ => n - (intOf jv).toNat)
  case atStart => exact ⟨0, Nat.zero_le _, rfl, Lib.hid h0, Lib.hid (KpB.refl _ _ _)⟩
  case round =>
    rename World => wr
    obtain ⟨i, hi, rfl, HJ, HK⟩ := hrel
    by_cases hlt : i < n
    case neg =>
      obtain rfl : n = i := by omega
      gi_wp2
      go_end0
      exact ⟨⟨_, rfl⟩, .inl ⟨_, rfl, HJ.out⟩⟩
    case pos =>
      obtain ⟨k1, k2, k4, -, k6, kk⟩ := (hR.kept HK.out q1 q2 q3 q4).facts
      have hix := HB.out i hlt
      have hiw : i * wd ≤ 1000000 := Nat.le_trans (Nat.mul_le_mul (show i ≤ 1000 by omega) hwd) (by decide)
      obtain ⟨q, hq⟩ : ∃ q, i * wd = q := ⟨_, rfl⟩
      have hw1 : IntKind.i64.wrap (((i : Nat) : Int) * ((wd : Nat) : Int)) = ((q : Nat) : Int) := by rw [← hq]; exact mul_wrap hiw
      rw [hq] at hix hiw
      obtain ⟨t, ht⟩ : ∃ t, q + j = t := ⟨_, rfl⟩
      have hw2 : IntKind.i64.wrap (((q : Nat) : Int) + ((j : Nat) : Int)) = ((t : Nat) : Int) := (congrArg IntKind.i64.wrap (by omega)).trans (wrap_in (z := ((t : Nat) : Int)) (by omega) (by omega))
      rw [ht] at hix
      have HQT := Lib.hid (show i * wd + j = t by rw [hq, ht])
      have HQ2 := HQT
      clear hq ht
      have kx := kk t hix
      clear kk
      rw [hN] at k4 hix
      obtain ⟨x, hx⟩ : ∃ x, bth mk t = x := ⟨_, rfl⟩
      rw [hx] at kx
      have HX := Lib.hid (show bth mk (i * wd + j) = x by rw [HQT.out]; exact hx)
      clear hx
      have HN2 := Lib.hid (show t < mk.length by omega)
      have htz : ((t : Nat) : Int) < ((N : Nat) : Int) := by omega
      have htd : decide (((t : Nat) : Int) < ((N : Nat) : Int)) = true := by simpa using htz
      have ht0 : ¬ ((t : Nat) : Int) < 0 := by omega
      have HJ2 := Lib.hid (hD _ _ HJ.out)
      clear HB HQT
      cases x with
      | false =>
        gi_wp2_with fail
        refine wpIn_region_held (by kernel_rfl) (fun v => v.cell? ⟨b1, 0, none⟩ = some (.pointer (some ⟨rp, 0, none⟩)) ∧ v.cell? ⟨b2, 0, none⟩ = some (.int .i64 ((j : Nat) : Int)) ∧ v.cell? ⟨rp, 4, none⟩ = some (.slice (some ⟨g, og, none⟩) N mc) ∧ v.cell? ⟨rp, 6, none⟩ = some (.int .i64 ((wd : Nat) : Int)) ∧ v.cell? ⟨g, og + t, none⟩ = some (.bool false)) 19 ?_
        have hHeld : (fun v => v.cell? ⟨b1, 0, none⟩ = some (.pointer (some ⟨rp, 0, none⟩)) ∧ v.cell? ⟨b2, 0, none⟩ = some (.int .i64 ((j : Nat) : Int)) ∧ v.cell? ⟨rp, 4, none⟩ = some (.slice (some ⟨g, og, none⟩) N mc) ∧ v.cell? ⟨rp, 6, none⟩ = some (.int .i64 ((wd : Nat) : Int)) ∧ v.cell? ⟨g, og + t, none⟩ = some (.bool false)) ({ wr with drawn := wr.drawn + 1 } : World) := ⟨k1, k2, k4, k6, kx⟩
        refine wpAnyHI_take [0, 1, 2, 3, 12, 13, 14] (i := 0) (i0 := 19) (oi := ?afa0) (v := ?bfa0) rfl ?cfa0 (by kernel_rfl) (by kernel_rfl) (by kernel_rfl) (by kernel_rfl) ?dfa0 ⟨?efa0, ?gfa0⟩ (by assumption) ?ffa0
        case cfa0 => simp only [List.getElem?_toArray, List.getElem?_cons_succ, List.getElem?_cons_zero]; rfl
        case dfa0 => exact fun _ _ _ h => h
        case gfa0 => exact fun _ _ => rfl
        case efa0 => (refine Or.inl ⟨by rfl, ?_⟩; intro w h; (try dsimp only at h); go_simp; all_goals with_reducible rfl)
        try simp only [Act.put, List.setIfInBounds_toArray, List.set_cons_zero, List.set_cons_succ]
        refine wpAnyHI_take [1, 2, 3, 12, 13, 14] (i := 1) (i0 := 19) (oi := ?afa1) (v := ?bfa1) rfl ?cfa1 (by kernel_rfl) (by kernel_rfl) (by kernel_rfl) (by kernel_rfl) ?dfa1 ⟨?efa1, ?gfa1⟩ (by assumption) ?ffa1
        case cfa1 => simp only [List.getElem?_toArray, List.getElem?_cons_succ, List.getElem?_cons_zero]; rfl
        case dfa1 => exact fun _ _ _ h => h
        case gfa1 => exact fun _ _ => rfl
        case efa1 => (refine Or.inl ⟨by rfl, ?_⟩; intro w h; (try dsimp only at h); go_simp; all_goals with_reducible rfl)
        try simp only [Act.put, List.setIfInBounds_toArray, List.set_cons_zero, List.set_cons_succ]
        refine wpAnyHI_take [2, 3, 12, 13, 14] (i := 2) (i0 := 19) (oi := ?afa2) (v := ?bfa2) rfl ?cfa2 (by kernel_rfl) (by kernel_rfl) (by kernel_rfl) (by kernel_rfl) ?dfa2 ⟨?efa2, ?gfa2⟩ (by assumption) ?ffa2
        case cfa2 => simp only [List.getElem?_toArray, List.getElem?_cons_succ, List.getElem?_cons_zero]; rfl
        case dfa2 => exact fun _ _ _ h => h
        case gfa2 => exact fun _ _ => rfl
        case efa2 => (refine Or.inl ⟨by rfl, ?_⟩; intro w h; (try dsimp only at h); go_simp; all_goals with_reducible rfl)
        try simp only [Act.put, List.setIfInBounds_toArray, List.set_cons_zero, List.set_cons_succ]
        refine wpAnyHI_take [3, 12, 13, 14] (i := 3) (i0 := 19) (oi := ?afa3) (v := ?bfa3) rfl ?cfa3 (by kernel_rfl) (by kernel_rfl) (by kernel_rfl) (by kernel_rfl) ?dfa3 ⟨?efa3, ?gfa3⟩ (by assumption) ?ffa3
        case cfa3 => simp only [List.getElem?_toArray, List.getElem?_cons_succ, List.getElem?_cons_zero]; rfl
        case dfa3 => exact fun _ _ _ h => h
        case gfa3 => exact fun _ _ => rfl
        case efa3 => (refine Or.inl ⟨by rfl, ?_⟩; intro w h; (try dsimp only at h); go_simp; all_goals with_reducible rfl)
        try simp only [Act.put, List.setIfInBounds_toArray, List.set_cons_zero, List.set_cons_succ]
        refine wpAnyHI_take [4, 9, 11, 12, 13, 14] (i := 4) (i0 := 19) (oi := ?afa4) (v := ?bfa4) rfl ?cfa4 (by kernel_rfl) (by kernel_rfl) (by kernel_rfl) (by kernel_rfl) ?dfa4 ⟨?efa4, ?gfa4⟩ (by assumption) ?ffa4
        case cfa4 => simp only [List.getElem?_toArray, List.getElem?_cons_succ, List.getElem?_cons_zero]; rfl
        case dfa4 => exact fun _ _ _ h => h
        case gfa4 => exact fun _ _ => rfl
        case efa4 => (refine Or.inl ⟨by rfl, ?_⟩; intro w h; (try dsimp only at h); go_simp; all_goals with_reducible rfl)
        try simp only [Act.put, List.setIfInBounds_toArray, List.set_cons_zero, List.set_cons_succ]
        refine wpAnyHI_take [5, 6, 7, 8, 9, 11, 12, 13, 14] (i := 5) (i0 := 19) (oi := ?afa5) (v := ?bfa5) rfl ?cfa5 (by kernel_rfl) (by kernel_rfl) (by kernel_rfl) (by kernel_rfl) ?dfa5 ⟨?efa5, ?gfa5⟩ (by assumption) ?ffa5
        case cfa5 => simp only [List.getElem?_toArray, List.getElem?_cons_succ, List.getElem?_cons_zero]; rfl
        case dfa5 => exact fun _ _ _ h => h
        case gfa5 => exact fun _ _ => rfl
        case efa5 => (refine Or.inl ⟨by rfl, ?_⟩; intro w h; (try dsimp only at h); go_simp; all_goals with_reducible rfl)
        try simp only [Act.put, List.setIfInBounds_toArray, List.set_cons_zero, List.set_cons_succ]
        refine wpAnyHI_take [6, 7, 8, 9, 11, 12, 13, 14] (i := 6) (i0 := 19) (oi := ?afa6) (v := ?bfa6) rfl ?cfa6 (by kernel_rfl) (by kernel_rfl) (by kernel_rfl) (by kernel_rfl) ?dfa6 ⟨?efa6, ?gfa6⟩ (by assumption) ?ffa6
        case cfa6 => simp only [List.getElem?_toArray, List.getElem?_cons_succ, List.getElem?_cons_zero]; rfl
        case dfa6 => exact fun _ _ _ h => h
        case gfa6 => exact fun _ _ => rfl
        case efa6 => (refine Or.inl ⟨by rfl, ?_⟩; intro w h; (try dsimp only at h); go_simp; all_goals with_reducible rfl)
        try simp only [Act.put, List.setIfInBounds_toArray, List.set_cons_zero, List.set_cons_succ]
        refine wpAnyHI_take [7, 8, 9, 11, 12, 13, 14] (i := 7) (i0 := 19) (oi := ?afa7) (v := ?bfa7) rfl ?cfa7 (by kernel_rfl) (by kernel_rfl) (by kernel_rfl) (by kernel_rfl) ?dfa7 ⟨?efa7, ?gfa7⟩ (by assumption) ?ffa7
        case cfa7 => simp only [List.getElem?_toArray, List.getElem?_cons_succ, List.getElem?_cons_zero]; rfl
        case dfa7 => exact fun _ _ _ h => h
        case gfa7 => exact fun _ _ => rfl
        case efa7 => (refine Or.inl ⟨by rfl, ?_⟩; intro w h; (try dsimp only at h); go_simp; all_goals with_reducible rfl)
        try simp only [Act.put, List.setIfInBounds_toArray, List.set_cons_zero, List.set_cons_succ]
        refine wpAnyHI_take [8, 9, 11, 12, 13, 14] (i := 8) (i0 := 19) (oi := ?afa8) (v := ?bfa8) rfl ?cfa8 (by kernel_rfl) (by kernel_rfl) (by kernel_rfl) (by kernel_rfl) ?dfa8 ⟨?efa8, ?gfa8⟩ (by assumption) ?ffa8
        case cfa8 => simp only [List.getElem?_toArray, List.getElem?_cons_succ, List.getElem?_cons_zero]; rfl
        case dfa8 => exact fun _ _ _ h => h
        case gfa8 => exact fun _ _ => rfl
        case efa8 => (refine Or.inl ⟨by rfl, ?_⟩; intro w h; (try dsimp only at h); go_simp; all_goals with_reducible rfl)
        try simp only [Act.put, List.setIfInBounds_toArray, List.set_cons_zero, List.set_cons_succ]
        refine wpAnyHI_take [9, 11, 12, 13, 14] (i := 9) (i0 := 19) (oi := ?afa9) (v := ?bfa9) rfl ?cfa9 (by kernel_rfl) (by kernel_rfl) (by kernel_rfl) (by kernel_rfl) ?dfa9 ⟨?efa9, ?gfa9⟩ (by assumption) ?ffa9
        case cfa9 => simp only [List.getElem?_toArray, List.getElem?_cons_succ, List.getElem?_cons_zero]; rfl
        case dfa9 => exact fun _ _ _ h => h
        case gfa9 => exact fun _ _ => rfl
        case efa9 => (refine Or.inl ⟨by rfl, ?_⟩; intro w h; (try dsimp only at h); go_simp; all_goals with_reducible rfl)
        try simp only [Act.put, List.setIfInBounds_toArray, List.set_cons_zero, List.set_cons_succ]
        refine wpAnyHI_take [10, 11, 12, 13, 14] (i := 10) (i0 := 19) (oi := ?afa10) (v := ?bfa10) rfl ?cfa10 (by kernel_rfl) (by kernel_rfl) (by kernel_rfl) (by kernel_rfl) ?dfa10 ⟨?efa10, ?gfa10⟩ (by assumption) ?ffa10
        case cfa10 => simp only [List.getElem?_toArray, List.getElem?_cons_succ, List.getElem?_cons_zero]; rfl
        case dfa10 => exact fun _ _ _ h => h
        case gfa10 => exact fun _ _ => rfl
        case efa10 => (refine Or.inl ⟨by rfl, ?_⟩; intro w h; (try dsimp only at h); go_simp; all_goals with_reducible rfl)
        try simp only [Act.put, List.setIfInBounds_toArray, List.set_cons_zero, List.set_cons_succ]
        refine wpAnyHI_take [11, 12, 13, 14] (i := 11) (i0 := 19) (oi := ?afa11) (v := ?bfa11) rfl ?cfa11 (by kernel_rfl) (by kernel_rfl) (by kernel_rfl) (by kernel_rfl) ?dfa11 ⟨?efa11, ?gfa11⟩ (by assumption) ?ffa11
        case cfa11 => simp only [List.getElem?_toArray, List.getElem?_cons_succ, List.getElem?_cons_zero]; rfl
        case dfa11 => exact fun _ _ _ h => h
        case gfa11 => exact fun _ _ => rfl
        case efa11 => (refine Or.inl ⟨by rfl, ?_⟩; intro w h; (try dsimp only at h); go_simp; all_goals with_reducible rfl)
        try simp only [Act.put, List.setIfInBounds_toArray, List.set_cons_zero, List.set_cons_succ]
        refine wpAnyHI_take [12, 13, 14] (i := 12) (i0 := 19) (oi := ?afa12) (v := ?bfa12) rfl ?cfa12 (by kernel_rfl) (by kernel_rfl) (by kernel_rfl) (by kernel_rfl) ?dfa12 ⟨?efa12, ?gfa12⟩ (by assumption) ?ffa12
        case cfa12 => simp only [List.getElem?_toArray, List.getElem?_cons_succ, List.getElem?_cons_zero]; rfl
        case dfa12 => exact fun _ _ _ h => h
        case gfa12 => exact fun _ _ => rfl
        case efa12 => (refine Or.inl ⟨by rfl, ?_⟩; intro w h; (try dsimp only at h); go_simp; all_goals with_reducible rfl)
        try simp only [Act.put, List.setIfInBounds_toArray, List.set_cons_zero, List.set_cons_succ]
        refine wpAnyHI_take [13, 14] (i := 13) (i0 := 19) (oi := ?afa13) (v := ?bfa13) rfl ?cfa13 (by kernel_rfl) (by kernel_rfl) (by kernel_rfl) (by kernel_rfl) ?dfa13 ⟨?efa13, ?gfa13⟩ (by assumption) ?ffa13
        case cfa13 => simp only [List.getElem?_toArray, List.getElem?_cons_succ, List.getElem?_cons_zero]; rfl
        case dfa13 => exact fun _ _ _ h => h
        case gfa13 => exact fun _ _ => rfl
        case efa13 => (refine Or.inl ⟨by rfl, ?_⟩; intro w h; (try dsimp only at h); go_simp; all_goals with_reducible rfl)
        try simp only [Act.put, List.setIfInBounds_toArray, List.set_cons_zero, List.set_cons_succ]
        refine wpAnyHI_take [14] (i := 14) (i0 := 19) (oi := ?afa14) (v := ?bfa14) rfl ?cfa14 (by kernel_rfl) (by kernel_rfl) (by kernel_rfl) (by kernel_rfl) ?dfa14 ⟨?efa14, ?gfa14⟩ (by assumption) ?ffa14
        case cfa14 => simp only [List.getElem?_toArray, List.getElem?_cons_succ, List.getElem?_cons_zero]; rfl
        case dfa14 => exact fun _ _ _ h => h
        case gfa14 => exact fun _ _ => rfl
        case efa14 => (refine Or.inl ⟨by rfl, ?_⟩; intro w h; (try dsimp only at h); go_simp; all_goals with_reducible rfl)
        try simp only [Act.put, List.setIfInBounds_toArray, List.set_cons_zero, List.set_cons_succ]
        refine wpAnyHI_take [15, 17, 18] (i := 15) (i0 := 19) (oi := ?afa15) (v := undef) rfl ?cfa15 (by kernel_rfl) (by kernel_rfl) (by kernel_rfl) (by kernel_rfl) ?dfa15 ⟨?efa15, ?gfa15⟩ (by assumption) ?ffa15
        case cfa15 => simp only [List.getElem?_toArray, List.getElem?_cons_succ, List.getElem?_cons_zero]; rfl
        case dfa15 => exact fun _ _ _ h => h
        case gfa15 => exact fun _ _ => rfl
        case efa15 => exact Or.inr ⟨by rfl, rfl⟩
        try simp only [Act.put, List.setIfInBounds_toArray, List.set_cons_zero, List.set_cons_succ]
        refine wpAnyHI_take [16, 17, 18] (i := 16) (i0 := 19) (oi := ?afa16) (v := undef) rfl ?cfa16 (by kernel_rfl) (by kernel_rfl) (by kernel_rfl) (by kernel_rfl) ?dfa16 ⟨?efa16, ?gfa16⟩ (by assumption) ?ffa16
        case cfa16 => simp only [List.getElem?_toArray, List.getElem?_cons_succ, List.getElem?_cons_zero]; rfl
        case dfa16 => exact fun _ _ _ h => h
        case gfa16 => exact fun _ _ => rfl
        case efa16 => exact Or.inr ⟨by rfl, rfl⟩
        try simp only [Act.put, List.setIfInBounds_toArray, List.set_cons_zero, List.set_cons_succ]
        refine wpAnyHI_take [17, 18] (i := 17) (i0 := 19) (oi := ?afa17) (v := undef) rfl ?cfa17 (by kernel_rfl) (by kernel_rfl) (by kernel_rfl) (by kernel_rfl) ?dfa17 ⟨?efa17, ?gfa17⟩ (by assumption) ?ffa17
        case cfa17 => simp only [List.getElem?_toArray, List.getElem?_cons_succ, List.getElem?_cons_zero]; rfl
        case dfa17 => exact fun _ _ _ h => h
        case gfa17 => exact fun _ _ => rfl
        case efa17 => exact Or.inr ⟨by rfl, rfl⟩
        try simp only [Act.put, List.setIfInBounds_toArray, List.set_cons_zero, List.set_cons_succ]
        refine wpAnyHI_take [18] (i := 18) (i0 := 19) (oi := ?afa18) (v := undef) rfl ?cfa18 (by kernel_rfl) (by kernel_rfl) (by kernel_rfl) (by kernel_rfl) ?dfa18 ⟨?efa18, ?gfa18⟩ (by assumption) ?ffa18
        case cfa18 => simp only [List.getElem?_toArray, List.getElem?_cons_succ, List.getElem?_cons_zero]; rfl
        case dfa18 => exact fun _ _ _ h => h
        case gfa18 => exact fun _ _ => rfl
        case efa18 => exact Or.inr ⟨by rfl, rfl⟩
        try simp only [Act.put, List.setIfInBounds_toArray, List.set_cons_zero, List.set_cons_succ]
        refine wpAnyHI_one (i0 := 19) (o := ?ofx) (by kernel_rfl) ?hfx ?_
        case hfx => simp only [List.getElem?_toArray, List.getElem?_cons_succ, List.getElem?_cons_zero]; rfl
        intro K hK
        rw [if_pos (by rfl)]
        gi_wp2
        refine hK.out _ _ ?_
        clear hK K
        refine wpAnyIn_done (by kernel_rfl) ?_ _
        clear hHeld
        gi_wp2
        go_roundw
        case rel => exact ⟨i + 1, by omega, by go_num, by rw [colN_succ, HX.out]; exact Lib.hid (by simpa using HJ2.out), Lib.hid (fun k c t h1 h2 h3 => HK.out k c t h1 h2 h3)⟩
        case measure => simp [intOf]; omega
      | true =>
        gi_wp2_with fail
        refine wpIn_region_held (by kernel_rfl) (fun v => v.cell? ⟨b1, 0, none⟩ = some (.pointer (some ⟨rp, 0, none⟩)) ∧ v.cell? ⟨b2, 0, none⟩ = some (.int .i64 ((j : Nat) : Int)) ∧ v.cell? ⟨rp, 4, none⟩ = some (.slice (some ⟨g, og, none⟩) N mc) ∧ v.cell? ⟨rp, 6, none⟩ = some (.int .i64 ((wd : Nat) : Int)) ∧ v.cell? ⟨g, og + t, none⟩ = some (.bool true)) 17 ?_
        have hHeld : (fun v => v.cell? ⟨b1, 0, none⟩ = some (.pointer (some ⟨rp, 0, none⟩)) ∧ v.cell? ⟨b2, 0, none⟩ = some (.int .i64 ((j : Nat) : Int)) ∧ v.cell? ⟨rp, 4, none⟩ = some (.slice (some ⟨g, og, none⟩) N mc) ∧ v.cell? ⟨rp, 6, none⟩ = some (.int .i64 ((wd : Nat) : Int)) ∧ v.cell? ⟨g, og + t, none⟩ = some (.bool true)) ({ wr with drawn := wr.drawn + 1 } : World) := ⟨k1, k2, k4, k6, kx⟩
        refine wpAnyHI_take [0, 1, 2, 3, 12, 13, 14] (i := 0) (i0 := 17) (oi := ?atr0) (v := ?btr0) rfl ?ctr0 (by kernel_rfl) (by kernel_rfl) (by kernel_rfl) (by kernel_rfl) ?dtr0 ⟨?etr0, ?gtr0⟩ (by assumption) ?ftr0
        case ctr0 => simp only [List.getElem?_toArray, List.getElem?_cons_succ, List.getElem?_cons_zero]; rfl
        case dtr0 => exact fun _ _ _ h => h
        case gtr0 => exact fun _ _ => rfl
        case etr0 => (refine Or.inl ⟨by rfl, ?_⟩; intro w h; (try dsimp only at h); go_simp; all_goals with_reducible rfl)
        try simp only [Act.put, List.setIfInBounds_toArray, List.set_cons_zero, List.set_cons_succ]
        refine wpAnyHI_take [1, 2, 3, 12, 13, 14] (i := 1) (i0 := 17) (oi := ?atr1) (v := ?btr1) rfl ?ctr1 (by kernel_rfl) (by kernel_rfl) (by kernel_rfl) (by kernel_rfl) ?dtr1 ⟨?etr1, ?gtr1⟩ (by assumption) ?ftr1
        case ctr1 => simp only [List.getElem?_toArray, List.getElem?_cons_succ, List.getElem?_cons_zero]; rfl
        case dtr1 => exact fun _ _ _ h => h
        case gtr1 => exact fun _ _ => rfl
        case etr1 => (refine Or.inl ⟨by rfl, ?_⟩; intro w h; (try dsimp only at h); go_simp; all_goals with_reducible rfl)
        try simp only [Act.put, List.setIfInBounds_toArray, List.set_cons_zero, List.set_cons_succ]
        refine wpAnyHI_take [2, 3, 12, 13, 14] (i := 2) (i0 := 17) (oi := ?atr2) (v := ?btr2) rfl ?ctr2 (by kernel_rfl) (by kernel_rfl) (by kernel_rfl) (by kernel_rfl) ?dtr2 ⟨?etr2, ?gtr2⟩ (by assumption) ?ftr2
        case ctr2 => simp only [List.getElem?_toArray, List.getElem?_cons_succ, List.getElem?_cons_zero]; rfl
        case dtr2 => exact fun _ _ _ h => h
        case gtr2 => exact fun _ _ => rfl
        case etr2 => (refine Or.inl ⟨by rfl, ?_⟩; intro w h; (try dsimp only at h); go_simp; all_goals with_reducible rfl)
        try simp only [Act.put, List.setIfInBounds_toArray, List.set_cons_zero, List.set_cons_succ]
        refine wpAnyHI_take [3, 12, 13, 14] (i := 3) (i0 := 17) (oi := ?atr3) (v := ?btr3) rfl ?ctr3 (by kernel_rfl) (by kernel_rfl) (by kernel_rfl) (by kernel_rfl) ?dtr3 ⟨?etr3, ?gtr3⟩ (by assumption) ?ftr3
        case ctr3 => simp only [List.getElem?_toArray, List.getElem?_cons_succ, List.getElem?_cons_zero]; rfl
        case dtr3 => exact fun _ _ _ h => h
        case gtr3 => exact fun _ _ => rfl
        case etr3 => (refine Or.inl ⟨by rfl, ?_⟩; intro w h; (try dsimp only at h); go_simp; all_goals with_reducible rfl)
        try simp only [Act.put, List.setIfInBounds_toArray, List.set_cons_zero, List.set_cons_succ]
        refine wpAnyHI_take [4, 9, 11, 12, 13, 14] (i := 4) (i0 := 17) (oi := ?atr4) (v := ?btr4) rfl ?ctr4 (by kernel_rfl) (by kernel_rfl) (by kernel_rfl) (by kernel_rfl) ?dtr4 ⟨?etr4, ?gtr4⟩ (by assumption) ?ftr4
        case ctr4 => simp only [List.getElem?_toArray, List.getElem?_cons_succ, List.getElem?_cons_zero]; rfl
        case dtr4 => exact fun _ _ _ h => h
        case gtr4 => exact fun _ _ => rfl
        case etr4 => (refine Or.inl ⟨by rfl, ?_⟩; intro w h; (try dsimp only at h); go_simp; all_goals with_reducible rfl)
        try simp only [Act.put, List.setIfInBounds_toArray, List.set_cons_zero, List.set_cons_succ]
        refine wpAnyHI_take [5, 6, 7, 8, 9, 11, 12, 13, 14] (i := 5) (i0 := 17) (oi := ?atr5) (v := ?btr5) rfl ?ctr5 (by kernel_rfl) (by kernel_rfl) (by kernel_rfl) (by kernel_rfl) ?dtr5 ⟨?etr5, ?gtr5⟩ (by assumption) ?ftr5
        case ctr5 => simp only [List.getElem?_toArray, List.getElem?_cons_succ, List.getElem?_cons_zero]; rfl
        case dtr5 => exact fun _ _ _ h => h
        case gtr5 => exact fun _ _ => rfl
        case etr5 => (refine Or.inl ⟨by rfl, ?_⟩; intro w h; (try dsimp only at h); go_simp; all_goals with_reducible rfl)
        try simp only [Act.put, List.setIfInBounds_toArray, List.set_cons_zero, List.set_cons_succ]
        refine wpAnyHI_take [6, 7, 8, 9, 11, 12, 13, 14] (i := 6) (i0 := 17) (oi := ?atr6) (v := ?btr6) rfl ?ctr6 (by kernel_rfl) (by kernel_rfl) (by kernel_rfl) (by kernel_rfl) ?dtr6 ⟨?etr6, ?gtr6⟩ (by assumption) ?ftr6
        case ctr6 => simp only [List.getElem?_toArray, List.getElem?_cons_succ, List.getElem?_cons_zero]; rfl
        case dtr6 => exact fun _ _ _ h => h
        case gtr6 => exact fun _ _ => rfl
        case etr6 => (refine Or.inl ⟨by rfl, ?_⟩; intro w h; (try dsimp only at h); go_simp; all_goals with_reducible rfl)
        try simp only [Act.put, List.setIfInBounds_toArray, List.set_cons_zero, List.set_cons_succ]
        refine wpAnyHI_take [7, 8, 9, 11, 12, 13, 14] (i := 7) (i0 := 17) (oi := ?atr7) (v := ?btr7) rfl ?ctr7 (by kernel_rfl) (by kernel_rfl) (by kernel_rfl) (by kernel_rfl) ?dtr7 ⟨?etr7, ?gtr7⟩ (by assumption) ?ftr7
        case ctr7 => simp only [List.getElem?_toArray, List.getElem?_cons_succ, List.getElem?_cons_zero]; rfl
        case dtr7 => exact fun _ _ _ h => h
        case gtr7 => exact fun _ _ => rfl
        case etr7 => (refine Or.inl ⟨by rfl, ?_⟩; intro w h; (try dsimp only at h); go_simp; all_goals with_reducible rfl)
        try simp only [Act.put, List.setIfInBounds_toArray, List.set_cons_zero, List.set_cons_succ]
        refine wpAnyHI_take [8, 9, 11, 12, 13, 14] (i := 8) (i0 := 17) (oi := ?atr8) (v := ?btr8) rfl ?ctr8 (by kernel_rfl) (by kernel_rfl) (by kernel_rfl) (by kernel_rfl) ?dtr8 ⟨?etr8, ?gtr8⟩ (by assumption) ?ftr8
        case ctr8 => simp only [List.getElem?_toArray, List.getElem?_cons_succ, List.getElem?_cons_zero]; rfl
        case dtr8 => exact fun _ _ _ h => h
        case gtr8 => exact fun _ _ => rfl
        case etr8 => (refine Or.inl ⟨by rfl, ?_⟩; intro w h; (try dsimp only at h); go_simp; all_goals with_reducible rfl)
        try simp only [Act.put, List.setIfInBounds_toArray, List.set_cons_zero, List.set_cons_succ]
        refine wpAnyHI_take [9, 11, 12, 13, 14] (i := 9) (i0 := 17) (oi := ?atr9) (v := ?btr9) rfl ?ctr9 (by kernel_rfl) (by kernel_rfl) (by kernel_rfl) (by kernel_rfl) ?dtr9 ⟨?etr9, ?gtr9⟩ (by assumption) ?ftr9
        case ctr9 => simp only [List.getElem?_toArray, List.getElem?_cons_succ, List.getElem?_cons_zero]; rfl
        case dtr9 => exact fun _ _ _ h => h
        case gtr9 => exact fun _ _ => rfl
        case etr9 => (refine Or.inl ⟨by rfl, ?_⟩; intro w h; (try dsimp only at h); go_simp; all_goals with_reducible rfl)
        try simp only [Act.put, List.setIfInBounds_toArray, List.set_cons_zero, List.set_cons_succ]
        refine wpAnyHI_take [10, 11, 12, 13, 14] (i := 10) (i0 := 17) (oi := ?atr10) (v := ?btr10) rfl ?ctr10 (by kernel_rfl) (by kernel_rfl) (by kernel_rfl) (by kernel_rfl) ?dtr10 ⟨?etr10, ?gtr10⟩ (by assumption) ?ftr10
        case ctr10 => simp only [List.getElem?_toArray, List.getElem?_cons_succ, List.getElem?_cons_zero]; rfl
        case dtr10 => exact fun _ _ _ h => h
        case gtr10 => exact fun _ _ => rfl
        case etr10 => (refine Or.inl ⟨by rfl, ?_⟩; intro w h; (try dsimp only at h); go_simp; all_goals with_reducible rfl)
        try simp only [Act.put, List.setIfInBounds_toArray, List.set_cons_zero, List.set_cons_succ]
        refine wpAnyHI_take [11, 12, 13, 14] (i := 11) (i0 := 17) (oi := ?atr11) (v := ?btr11) rfl ?ctr11 (by kernel_rfl) (by kernel_rfl) (by kernel_rfl) (by kernel_rfl) ?dtr11 ⟨?etr11, ?gtr11⟩ (by assumption) ?ftr11
        case ctr11 => simp only [List.getElem?_toArray, List.getElem?_cons_succ, List.getElem?_cons_zero]; rfl
        case dtr11 => exact fun _ _ _ h => h
        case gtr11 => exact fun _ _ => rfl
        case etr11 => (refine Or.inl ⟨by rfl, ?_⟩; intro w h; (try dsimp only at h); go_simp; all_goals with_reducible rfl)
        try simp only [Act.put, List.setIfInBounds_toArray, List.set_cons_zero, List.set_cons_succ]
        refine wpAnyHI_take [12, 13, 14] (i := 12) (i0 := 17) (oi := ?atr12) (v := ?btr12) rfl ?ctr12 (by kernel_rfl) (by kernel_rfl) (by kernel_rfl) (by kernel_rfl) ?dtr12 ⟨?etr12, ?gtr12⟩ (by assumption) ?ftr12
        case ctr12 => simp only [List.getElem?_toArray, List.getElem?_cons_succ, List.getElem?_cons_zero]; rfl
        case dtr12 => exact fun _ _ _ h => h
        case gtr12 => exact fun _ _ => rfl
        case etr12 => (refine Or.inl ⟨by rfl, ?_⟩; intro w h; (try dsimp only at h); go_simp; all_goals with_reducible rfl)
        try simp only [Act.put, List.setIfInBounds_toArray, List.set_cons_zero, List.set_cons_succ]
        refine wpAnyHI_take [13, 14] (i := 13) (i0 := 17) (oi := ?atr13) (v := ?btr13) rfl ?ctr13 (by kernel_rfl) (by kernel_rfl) (by kernel_rfl) (by kernel_rfl) ?dtr13 ⟨?etr13, ?gtr13⟩ (by assumption) ?ftr13
        case ctr13 => simp only [List.getElem?_toArray, List.getElem?_cons_succ, List.getElem?_cons_zero]; rfl
        case dtr13 => exact fun _ _ _ h => h
        case gtr13 => exact fun _ _ => rfl
        case etr13 => (refine Or.inl ⟨by rfl, ?_⟩; intro w h; (try dsimp only at h); go_simp; all_goals with_reducible rfl)
        try simp only [Act.put, List.setIfInBounds_toArray, List.set_cons_zero, List.set_cons_succ]
        refine wpAnyHI_take [14] (i := 14) (i0 := 17) (oi := ?atr14) (v := ?btr14) rfl ?ctr14 (by kernel_rfl) (by kernel_rfl) (by kernel_rfl) (by kernel_rfl) ?dtr14 ⟨?etr14, ?gtr14⟩ (by assumption) ?ftr14
        case ctr14 => simp only [List.getElem?_toArray, List.getElem?_cons_succ, List.getElem?_cons_zero]; rfl
        case dtr14 => exact fun _ _ _ h => h
        case gtr14 => exact fun _ _ => rfl
        case etr14 => (refine Or.inl ⟨by rfl, ?_⟩; intro w h; (try dsimp only at h); go_simp; all_goals with_reducible rfl)
        try simp only [Act.put, List.setIfInBounds_toArray, List.set_cons_zero, List.set_cons_succ]
        refine wpAnyHI_take [15] (i := 15) (i0 := 17) (oi := ?atr15) (v := ?btr15) rfl ?ctr15 (by kernel_rfl) (by kernel_rfl) (by kernel_rfl) (by kernel_rfl) ?dtr15 ⟨?etr15, ?gtr15⟩ (by assumption) ?ftr15
        case ctr15 => simp only [List.getElem?_toArray, List.getElem?_cons_succ, List.getElem?_cons_zero]; rfl
        case dtr15 => exact fun _ _ _ h => h
        case gtr15 => exact fun _ _ => rfl
        case etr15 => (refine Or.inl ⟨by rfl, ?_⟩; intro w h; (try dsimp only at h); go_simp; all_goals with_reducible rfl)
        try simp only [Act.put, List.setIfInBounds_toArray, List.set_cons_zero, List.set_cons_succ]
        refine wpAnyHI_take [16] (i := 16) (i0 := 17) (oi := ?atr16) (v := ?btr16) rfl ?ctr16 (by kernel_rfl) (by kernel_rfl) (by kernel_rfl) (by kernel_rfl) ?dtr16 ⟨?etr16, ?gtr16⟩ (by assumption) ?ftr16
        case ctr16 => simp only [List.getElem?_toArray, List.getElem?_cons_succ, List.getElem?_cons_zero]; rfl
        case dtr16 => exact fun _ _ _ h => h
        case gtr16 => exact fun _ _ => rfl
        case etr16 => (refine Or.inl ⟨by rfl, ?_⟩; intro w h; (try dsimp only at h); go_simp; all_goals with_reducible rfl)
        try simp only [Act.put, List.setIfInBounds_toArray, List.set_cons_zero, List.set_cons_succ]
        have hlN : (colN mk wd j i).length < 1001 := by have := colN_le mk wd j i; omega
        obtain ⟨fn, tmps, assign, body, hy, hR'⟩ := hY _ i _ HJ2.out hlN
        refine wpAnyHI_one (i0 := 17) (o := ?otx) (by kernel_rfl) ?htx ?_
        case htx => simp only [List.getElem?_toArray, List.getElem?_cons_succ, List.getElem?_cons_zero]; rfl
        intro K hK
        rw [if_pos (by rfl)]
        gi_wp2
        refine ⟨fun hd => (by cases hd), hR'.mono ?_⟩
        clear hR' hy hHeld k1 k2 k4 k6 kx
        rintro e W3 (⟨rfl, hJ3, k3⟩ | ⟨rfl, hJx3⟩)
        · have HJ3 := Lib.hid hJ3
          have HK3 := Lib.hid k3
          clear hJ3 k3
          refine hK.out _ _ ?_
          clear hK K
          try simp only [Act.put, List.setIfInBounds_toArray, List.set_cons_zero, List.set_cons_succ]
          refine wpAnyIn_take (i := 18) (oi := ?ats18) (v := ?bts18) rfl ?cts18 (by kernel_rfl) (by kernel_rfl) (by kernel_rfl) ?dts18 ⟨?ets18, ?gts18⟩ ?fts18
          case cts18 => simp only [List.getElem?_toArray, List.getElem?_cons_succ, List.getElem?_cons_zero]; rfl
          case dts18 => exact fun _ _ _ h => h
          case gts18 => exact fun _ => rfl
          case ets18 => (refine Or.inl ⟨by rfl, ?_⟩; intro w; go_simp; all_goals with_reducible rfl)
          try simp only [Act.put, List.setIfInBounds_toArray, List.set_cons_zero, List.set_cons_succ]
          refine wpAnyIn_take (i := 19) (oi := ?ats19) (v := ?bts19) rfl ?cts19 (by kernel_rfl) (by kernel_rfl) (by kernel_rfl) ?dts19 ⟨?ets19, ?gts19⟩ ?fts19
          case cts19 => simp only [List.getElem?_toArray, List.getElem?_cons_succ, List.getElem?_cons_zero]; rfl
          case dts19 => exact fun _ _ _ h => h
          case gts19 => exact fun _ => rfl
          case ets19 => (refine Or.inl ⟨by rfl, ?_⟩; intro w; go_simp; all_goals with_reducible rfl)
          try simp only [Act.put, List.setIfInBounds_toArray, List.set_cons_zero, List.set_cons_succ]
          refine wpAnyIn_done (by kernel_rfl) ?_ _
          gi_wp2
          go_roundw
          case rel => exact ⟨i + 1, by omega, by go_num, by rw [colN_succ, HX.out, if_pos rfl]; exact Lib.hid HJ3.out, Lib.hid (HK.out.trans (fun k c t h1 h2 h3 => HK3.out k c t h1 h2 h3))⟩
          case measure => simp [intOf]; omega
        · have HJ3 := Lib.hid hJx3
          clear hJx3
          refine hK.out _ _ ?_
          clear hK K
          try simp only [Act.put, List.setIfInBounds_toArray, List.set_cons_zero, List.set_cons_succ]
          refine wpAnyIn_take (i := 18) (oi := ?att18) (v := ?btt18) rfl ?ctt18 (by kernel_rfl) (by kernel_rfl) (by kernel_rfl) ?dtt18 ⟨?ett18, ?gtt18⟩ ?ftt18
          case ctt18 => simp only [List.getElem?_toArray, List.getElem?_cons_succ, List.getElem?_cons_zero]; rfl
          case dtt18 => exact fun _ _ _ h => h
          case gtt18 => exact fun _ => rfl
          case ett18 => (refine Or.inl ⟨by rfl, ?_⟩; intro w; go_simp; all_goals with_reducible rfl)
          try simp only [Act.put, List.setIfInBounds_toArray, List.set_cons_zero, List.set_cons_succ]
          refine wpAnyIn_take (i := 19) (oi := ?att19) (v := ?btt19) rfl ?ctt19 (by kernel_rfl) (by kernel_rfl) (by kernel_rfl) ?dtt19 ⟨?ett19, ?gtt19⟩ ?ftt19
          case ctt19 => simp only [List.getElem?_toArray, List.getElem?_cons_succ, List.getElem?_cons_zero]; rfl
          case dtt19 => exact fun _ _ _ h => h
          case gtt19 => exact fun _ => rfl
          case ett19 => (refine Or.inl ⟨by rfl, ?_⟩; intro w; go_simp; all_goals with_reducible rfl)
          try simp only [Act.put, List.setIfInBounds_toArray, List.set_cons_zero, List.set_cons_succ]
          refine wpAnyIn_done (by kernel_rfl) ?_ _
          gi_wp2
          refine bodyPost_ret (results_none rfl _ _ _) rfl ?_
          exact ⟨⟨_, rfl⟩, .inr ⟨_, trivial, HJ3.out⟩⟩

end Go.Proofs.Ythpjnbnheagpiaa
