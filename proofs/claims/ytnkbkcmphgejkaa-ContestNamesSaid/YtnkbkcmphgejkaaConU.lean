/- The closures of ContestNames, and 'turned' at each of them. Printed by gen_conu.py. -/
import Derived.Test.YtnkbkcmphgejkaaConT
namespace Go.Proofs.Ytnkbkcmphgejkaa
open Go.RowKit Go.Suf
set_option linter.unusedVariables false
set_option linter.unusedSimpArgs false

theorem run_made {P : Program} {t e : TypeId} {z : ByteArray} {bs : Nat} (T : ET P t e (.string z) bs) (n : Nat) (hb : bs * n ≤ 281474976710656) (hm : n ≤ 9223372036854775807) (w : World) :
    (Instr.makeSlice t (.int .i64 (n : Int)) (.int .i64 (n : Int))).run P w = .ok (.slice (some ⟨w.heap.size, 0, none⟩) n n) (w.alloc (.cells (List.replicate n (Value.string z)).toArray e)) := by
  obtain ⟨i, hi, hz, h1, hby⟩ := T.info
  have h2 := run_make (P := P) w t e i (.string z) T.ht hi hz .i64 .i64 (n : Int) (n : Int) (by omega) (Int.le_refl _) (by
    rw [hby]
    have : ((bs * n : Nat) : Int) ≤ 281474976710656 := by omega
    rwa [Int.natCast_mul] at this) (by omega)
  rw [h2]
  have e1 : madeCells (Value.cells (.string z)) ((n : Int).toNat * i.size) = (List.replicate n (Value.string z)).toArray := by
    apply Array.ext'
    show (madeCells #[.string z] _).toList = _
    rw [toList_madeCells_one, h1]
    simp
  rw [e1]
  simp

theorem rdS_row {w : World} {g : Nat} {ss : List ByteArray} {t : TypeId} {f : Nat × Nat} (hm : ss.length ≤ maxLen) (h : w.heap[g]? = some (.cells (strs ss).toArray t f)) : RdS w (some ⟨g, 0, none⟩) ss.length ss.length ss := by
  refine ⟨rfl, by simp [strs], hm, fun e => by simp at e, fun i c hc => ⟨g, 0, rfl, ?_⟩, strs_one ss⟩
  rw [cell_of_row _ _ _ _ _ _ h]
  simpa using hc

/-- The contest k, its strings in g, both laid since B. -/
structure May (B : Nat) (w : World) (k g : Nat) (nm : ByteArray) (s t : ByteArray) (seats : Int) (rule : Nat) : Prop where
  row : w.heap[k]? = some (.cells #[.string nm, .slice (some ⟨g, 0, none⟩) 2 2, .int .i64 seats, .int .u8 (rule : Nat)] 40 (0, 0))
  rowS : w.heap[g]? = some (.cells #[.string s, .string t] 9 (0, 0))
  lk : B ≤ k
  lg : B ≤ g

theorem May.ne {B : Nat} {w : World} {k g : Nat} {nm s t : ByteArray} {seats : Int} {rule : Nat} (h : May B w k g nm s t seats rule) : k ≠ g := by
  intro e
  have := h.row
  rw [e, h.rowS] at this
  simp at this

/-- What a closure leaves. -/
def Left (B : Nat) (w : World) (k : Nat) (nm : ByteArray) (ss : List ByteArray) (seats : Int) (rule : Nat) : Ending → World → Prop := fun e w' =>
  e = .returned (.tuple #[]) ∧ ∃ a n c, w'.heap[k]? = some (.cells [.string nm, .slice a n c, .int .i64 seats, .int .u8 (rule : Nat)].toArray 40 (0, 0)) ∧ RdS w' a n c ss ∧ Below B w w'

theorem mayor2_any (w : World) : Calls Try.prog 33 #[] w fun e w' => ∃ g, e = .returned (.agg #[.string mayorS, .slice (some ⟨g, 0, none⟩) 2 2, .int .i64 1, .int .u8 7]) ∧ w'.heap[g]? = some (.cells #[.string annS, .string bobS] 9 (0, 0)) ∧ w.heap.size ≤ g ∧ Below w.heap.size w w' := by
  have hr2 : ∀ o, ((w.alloc (.cells #[Value.string ⟨#[]⟩, .slice none 0 0, .int .i64 0, .int .u8 0] 40)).alloc o).heap[w.heap.size]? = some (.cells #[Value.string ⟨#[]⟩, .slice none 0 0, .int .i64 0, .int .u8 0] 40 (0, 0)) := fun o => by rw [heap_alloc_old _ _ (by rw [World.size_alloc]; omega), heap_alloc_new]
  have hb : ∀ o cs, Below w.heap.size w (((w.alloc (.cells #[Value.string ⟨#[]⟩, .slice none 0 0, .int .i64 0, .int .u8 0] 40)).alloc o).setRow w.heap.size cs) := fun o cs => below_set (((Below.refl _ w).alloc (Nat.le_refl _) _).alloc (by rw [World.size_alloc]; omega) o) (Nat.le_refl _) cs
  have hg : ∀ cs, (((w.alloc (.cells #[Value.string ⟨#[]⟩, .slice none 0 0, .int .i64 0, .int .u8 0] 40)).alloc (.cells #[.string annS, .string bobS] 9)).setRow w.heap.size cs).heap[w.heap.size + 1]? = some (.cells #[.string annS, .string bobS] 9 (0, 0)) := fun cs => by
    have := heap_alloc_new (w.alloc (.cells #[Value.string ⟨#[]⟩, .slice none 0 0, .int .i64 0, .int .u8 0] 40)) (.cells #[.string annS, .string bobS] 9)
    rw [World.size_alloc] at this
    rw [setRow_other _ _ _ _ (by omega), this]
  have HG := Lib.hid hg
  have HB := Lib.hid hb
  clear hg hb
  go_enter Try.func33, Try.ntmps33
  go_wp2_with (refine wpList_store_whole rfl 40 _ _ rfl atCon _ _ _ (hr2 _) rfl rfl rfl rfl (con_one _ _ _ _ _ _) ?_)
  refine bodyPost_ret (results_cell_row rfl _ _ _ _ _ _ _ rfl (setRow_heap _ _ _ _ _ _ (hr2 _)) Try.underlying40 rfl (by kernel_rfl)) rfl ?_
  exact ⟨_, rfl, HG.out _, Nat.le_succ _, HB.out _ _⟩

theorem clo2_any (W : World) {B k g : Nat} (h : May B W k g mayorS annS bobS 1 7) : Calls Try.prog 34 #[.pointer (some ⟨k, 0, none⟩)] W (Left B W k mayorS [annS, bobS] 2 7) := by
  have hne := h.ne

  have r0 : (W).heap[k]? = some (.cells #[.string mayorS, .slice (some ⟨g, 0, none⟩) 2 2, .int .i64 1, .int .u8 ((7 : Nat) : Int)] 40 (0, 0)) := h.row
  have u0 : (W).cell? ⟨k, 2, none⟩ = some (.int .i64 1) := by
    simp only [World.cell?, r0]
    rfl
  have f0 : (W).frozen? ⟨k, 2, none⟩ = false := frozen_of_row _ k 2 _ _ r0
  have rl : (((W).setCell ⟨k, 2, none⟩ (.int .i64 2))).heap[k]? = some (.cells [.string mayorS, .slice (some ⟨g, 0, none⟩) 2 2, .int .i64 2, .int .u8 ((7 : Nat) : Int)].toArray 40 (0, 0)) := (heap_setCell_same _ k 2 _ _ (.int .i64 2) r0)
  have rs : RdS (((W).setCell ⟨k, 2, none⟩ (.int .i64 2))) (some ⟨g, 0, none⟩) 2 2 [annS, bobS] := rdS_row (ss := [annS, bobS]) (by decide) ((heap_setCell_other _ ⟨k, 2, none⟩ g (.int .i64 2) (Ne.symm hne)).trans h.rowS)
  have rb : Below B W (((W).setCell ⟨k, 2, none⟩ (.int .i64 2))) := ((Below.refl B W).setCell h.lk (.int .i64 2))
  have RL := Lib.hid rl
  have RS := Lib.hid rs
  have RB := Lib.hid rb
  clear rl rs rb
  go_enter Try.func34, Try.ntmps34
  go_wp2_with fail
  go_end0
  exact ⟨rfl, _, _, _, RL.out, RS.out, RB.out⟩

theorem clo3_any (W : World) {B k g : Nat} (h : May B W k g mayorS annS bobS 1 7) : Calls Try.prog 35 #[.pointer (some ⟨k, 0, none⟩)] W (Left B W k mayorS [annS, bobS] 1 17) := by
  have hne := h.ne

  have r0 : (W).heap[k]? = some (.cells #[.string mayorS, .slice (some ⟨g, 0, none⟩) 2 2, .int .i64 1, .int .u8 ((7 : Nat) : Int)] 40 (0, 0)) := h.row
  have u0 : (W).cell? ⟨k, 3, none⟩ = some (.int .u8 ((7 : Nat) : Int)) := by
    simp only [World.cell?, r0]
    rfl
  have f0 : (W).frozen? ⟨k, 3, none⟩ = false := frozen_of_row _ k 3 _ _ r0
  have rl : (((W).setCell ⟨k, 3, none⟩ (.int .u8 17))).heap[k]? = some (.cells [.string mayorS, .slice (some ⟨g, 0, none⟩) 2 2, .int .i64 1, .int .u8 ((17 : Nat) : Int)].toArray 40 (0, 0)) := (heap_setCell_same _ k 3 _ _ (.int .u8 17) r0)
  have rs : RdS (((W).setCell ⟨k, 3, none⟩ (.int .u8 17))) (some ⟨g, 0, none⟩) 2 2 [annS, bobS] := rdS_row (ss := [annS, bobS]) (by decide) ((heap_setCell_other _ ⟨k, 3, none⟩ g (.int .u8 17) (Ne.symm hne)).trans h.rowS)
  have rb : Below B W (((W).setCell ⟨k, 3, none⟩ (.int .u8 17))) := ((Below.refl B W).setCell h.lk (.int .u8 17))
  have RL := Lib.hid rl
  have RS := Lib.hid rs
  have RB := Lib.hid rb
  clear rl rs rb
  go_enter Try.func35, Try.ntmps35
  go_wp2_with fail
  go_end0
  exact ⟨rfl, _, _, _, RL.out, RS.out, RB.out⟩

theorem clo7_any (W : World) {B k g : Nat} (h : May B W k g mayorS annS bobS 1 7) : Calls Try.prog 39 #[.pointer (some ⟨k, 0, none⟩)] W (Left B W k ⟨#[97, 32, 98]⟩ [annS, bobS] 1 7) := by
  have hne := h.ne

  have r0 : (W).heap[k]? = some (.cells #[.string mayorS, .slice (some ⟨g, 0, none⟩) 2 2, .int .i64 1, .int .u8 ((7 : Nat) : Int)] 40 (0, 0)) := h.row
  have u0 : (W).cell? ⟨k, 0, none⟩ = some (.string mayorS) := by
    simp only [World.cell?, r0]
    rfl
  have f0 : (W).frozen? ⟨k, 0, none⟩ = false := frozen_of_row _ k 0 _ _ r0
  have rl : (((W).setCell ⟨k, 0, none⟩ (.string ⟨#[97, 32, 98]⟩))).heap[k]? = some (.cells [.string ⟨#[97, 32, 98]⟩, .slice (some ⟨g, 0, none⟩) 2 2, .int .i64 1, .int .u8 ((7 : Nat) : Int)].toArray 40 (0, 0)) := (heap_setCell_same _ k 0 _ _ (.string ⟨#[97, 32, 98]⟩) r0)
  have rs : RdS (((W).setCell ⟨k, 0, none⟩ (.string ⟨#[97, 32, 98]⟩))) (some ⟨g, 0, none⟩) 2 2 [annS, bobS] := rdS_row (ss := [annS, bobS]) (by decide) ((heap_setCell_other _ ⟨k, 0, none⟩ g (.string ⟨#[97, 32, 98]⟩) (Ne.symm hne)).trans h.rowS)
  have rb : Below B W (((W).setCell ⟨k, 0, none⟩ (.string ⟨#[97, 32, 98]⟩))) := ((Below.refl B W).setCell h.lk (.string ⟨#[97, 32, 98]⟩))
  have RL := Lib.hid rl
  have RS := Lib.hid rs
  have RB := Lib.hid rb
  clear rl rs rb
  go_enter Try.func39, Try.ntmps39
  go_wp2_with fail
  go_end0
  exact ⟨rfl, _, _, _, RL.out, RS.out, RB.out⟩

theorem clo8_any (W : World) {B k g : Nat} (h : May B W k g mayorS annS bobS 1 7) : Calls Try.prog 40 #[.pointer (some ⟨k, 0, none⟩)] W (Left B W k mayorS [annS, bobS] 3 11) := by
  have hne := h.ne

  have r0 : (W).heap[k]? = some (.cells #[.string mayorS, .slice (some ⟨g, 0, none⟩) 2 2, .int .i64 1, .int .u8 ((7 : Nat) : Int)] 40 (0, 0)) := h.row
  have u0 : (W).cell? ⟨k, 3, none⟩ = some (.int .u8 ((7 : Nat) : Int)) := by
    simp only [World.cell?, r0]
    rfl
  have f0 : (W).frozen? ⟨k, 3, none⟩ = false := frozen_of_row _ k 3 _ _ r0
  have r1 : (((W).setCell ⟨k, 3, none⟩ (.int .u8 11))).heap[k]? = some (.cells #[.string mayorS, .slice (some ⟨g, 0, none⟩) 2 2, .int .i64 1, .int .u8 11] 40 (0, 0)) := (heap_setCell_same _ k 3 _ _ (.int .u8 11) r0)
  have u1 : (((W).setCell ⟨k, 3, none⟩ (.int .u8 11))).cell? ⟨k, 2, none⟩ = some (.int .i64 1) := by
    simp only [World.cell?, r1]
    rfl
  have f1 : (((W).setCell ⟨k, 3, none⟩ (.int .u8 11))).frozen? ⟨k, 2, none⟩ = false := frozen_of_row _ k 2 _ _ r1
  have rl : (((((W).setCell ⟨k, 3, none⟩ (.int .u8 11))).setCell ⟨k, 2, none⟩ (.int .i64 3))).heap[k]? = some (.cells [.string mayorS, .slice (some ⟨g, 0, none⟩) 2 2, .int .i64 3, .int .u8 ((11 : Nat) : Int)].toArray 40 (0, 0)) := (heap_setCell_same _ k 2 _ _ (.int .i64 3) r1)
  have rs : RdS (((((W).setCell ⟨k, 3, none⟩ (.int .u8 11))).setCell ⟨k, 2, none⟩ (.int .i64 3))) (some ⟨g, 0, none⟩) 2 2 [annS, bobS] := rdS_row (ss := [annS, bobS]) (by decide) ((heap_setCell_other _ ⟨k, 2, none⟩ g (.int .i64 3) (Ne.symm hne)).trans ((heap_setCell_other _ ⟨k, 3, none⟩ g (.int .u8 11) (Ne.symm hne)).trans h.rowS))
  have rb : Below B W (((((W).setCell ⟨k, 3, none⟩ (.int .u8 11))).setCell ⟨k, 2, none⟩ (.int .i64 3))) := (((Below.refl B W).setCell h.lk (.int .u8 11)).setCell h.lk (.int .i64 3))
  have RL := Lib.hid rl
  have RS := Lib.hid rs
  have RB := Lib.hid rb
  clear rl rs rb
  go_enter Try.func40, Try.ntmps40
  go_wp2_with fail
  go_end0
  exact ⟨rfl, _, _, _, RL.out, RS.out, RB.out⟩

theorem clo9_any (W : World) {B k g : Nat} (h : May B W k g mayorS annS bobS 1 7) : Calls Try.prog 41 #[.pointer (some ⟨k, 0, none⟩)] W (Left B W k mayorS [annS, bobS] 10 16) := by
  have hne := h.ne

  have r0 : (W).heap[k]? = some (.cells #[.string mayorS, .slice (some ⟨g, 0, none⟩) 2 2, .int .i64 1, .int .u8 ((7 : Nat) : Int)] 40 (0, 0)) := h.row
  have u0 : (W).cell? ⟨k, 3, none⟩ = some (.int .u8 ((7 : Nat) : Int)) := by
    simp only [World.cell?, r0]
    rfl
  have f0 : (W).frozen? ⟨k, 3, none⟩ = false := frozen_of_row _ k 3 _ _ r0
  have r1 : (((W).setCell ⟨k, 3, none⟩ (.int .u8 16))).heap[k]? = some (.cells #[.string mayorS, .slice (some ⟨g, 0, none⟩) 2 2, .int .i64 1, .int .u8 16] 40 (0, 0)) := (heap_setCell_same _ k 3 _ _ (.int .u8 16) r0)
  have u1 : (((W).setCell ⟨k, 3, none⟩ (.int .u8 16))).cell? ⟨k, 2, none⟩ = some (.int .i64 1) := by
    simp only [World.cell?, r1]
    rfl
  have f1 : (((W).setCell ⟨k, 3, none⟩ (.int .u8 16))).frozen? ⟨k, 2, none⟩ = false := frozen_of_row _ k 2 _ _ r1
  have rl : (((((W).setCell ⟨k, 3, none⟩ (.int .u8 16))).setCell ⟨k, 2, none⟩ (.int .i64 10))).heap[k]? = some (.cells [.string mayorS, .slice (some ⟨g, 0, none⟩) 2 2, .int .i64 10, .int .u8 ((16 : Nat) : Int)].toArray 40 (0, 0)) := (heap_setCell_same _ k 2 _ _ (.int .i64 10) r1)
  have rs : RdS (((((W).setCell ⟨k, 3, none⟩ (.int .u8 16))).setCell ⟨k, 2, none⟩ (.int .i64 10))) (some ⟨g, 0, none⟩) 2 2 [annS, bobS] := rdS_row (ss := [annS, bobS]) (by decide) ((heap_setCell_other _ ⟨k, 2, none⟩ g (.int .i64 10) (Ne.symm hne)).trans ((heap_setCell_other _ ⟨k, 3, none⟩ g (.int .u8 16) (Ne.symm hne)).trans h.rowS))
  have rb : Below B W (((((W).setCell ⟨k, 3, none⟩ (.int .u8 16))).setCell ⟨k, 2, none⟩ (.int .i64 10))) := (((Below.refl B W).setCell h.lk (.int .u8 16)).setCell h.lk (.int .i64 10))
  have RL := Lib.hid rl
  have RS := Lib.hid rs
  have RB := Lib.hid rb
  clear rl rs rb
  go_enter Try.func41, Try.ntmps41
  go_wp2_with fail
  go_end0
  exact ⟨rfl, _, _, _, RL.out, RS.out, RB.out⟩

theorem clo10_any (W : World) {B k g : Nat} (h : May B W k g mayorS annS bobS 1 7) : Calls Try.prog 42 #[.pointer (some ⟨k, 0, none⟩)] W (Left B W k mayorS [annS, bobS] 2 4) := by
  have hne := h.ne

  have r0 : (W).heap[k]? = some (.cells #[.string mayorS, .slice (some ⟨g, 0, none⟩) 2 2, .int .i64 1, .int .u8 ((7 : Nat) : Int)] 40 (0, 0)) := h.row
  have u0 : (W).cell? ⟨k, 3, none⟩ = some (.int .u8 ((7 : Nat) : Int)) := by
    simp only [World.cell?, r0]
    rfl
  have f0 : (W).frozen? ⟨k, 3, none⟩ = false := frozen_of_row _ k 3 _ _ r0
  have r1 : (((W).setCell ⟨k, 3, none⟩ (.int .u8 4))).heap[k]? = some (.cells #[.string mayorS, .slice (some ⟨g, 0, none⟩) 2 2, .int .i64 1, .int .u8 4] 40 (0, 0)) := (heap_setCell_same _ k 3 _ _ (.int .u8 4) r0)
  have u1 : (((W).setCell ⟨k, 3, none⟩ (.int .u8 4))).cell? ⟨k, 2, none⟩ = some (.int .i64 1) := by
    simp only [World.cell?, r1]
    rfl
  have f1 : (((W).setCell ⟨k, 3, none⟩ (.int .u8 4))).frozen? ⟨k, 2, none⟩ = false := frozen_of_row _ k 2 _ _ r1
  have rl : (((((W).setCell ⟨k, 3, none⟩ (.int .u8 4))).setCell ⟨k, 2, none⟩ (.int .i64 2))).heap[k]? = some (.cells [.string mayorS, .slice (some ⟨g, 0, none⟩) 2 2, .int .i64 2, .int .u8 ((4 : Nat) : Int)].toArray 40 (0, 0)) := (heap_setCell_same _ k 2 _ _ (.int .i64 2) r1)
  have rs : RdS (((((W).setCell ⟨k, 3, none⟩ (.int .u8 4))).setCell ⟨k, 2, none⟩ (.int .i64 2))) (some ⟨g, 0, none⟩) 2 2 [annS, bobS] := rdS_row (ss := [annS, bobS]) (by decide) ((heap_setCell_other _ ⟨k, 2, none⟩ g (.int .i64 2) (Ne.symm hne)).trans ((heap_setCell_other _ ⟨k, 3, none⟩ g (.int .u8 4) (Ne.symm hne)).trans h.rowS))
  have rb : Below B W (((((W).setCell ⟨k, 3, none⟩ (.int .u8 4))).setCell ⟨k, 2, none⟩ (.int .i64 2))) := (((Below.refl B W).setCell h.lk (.int .u8 4)).setCell h.lk (.int .i64 2))
  have RL := Lib.hid rl
  have RS := Lib.hid rs
  have RB := Lib.hid rb
  clear rl rs rb
  go_enter Try.func42, Try.ntmps42
  go_wp2_with fail
  go_end0
  exact ⟨rfl, _, _, _, RL.out, RS.out, RB.out⟩

theorem clo4_any (W : World) {B k g : Nat} (h : May B W k g mayorS annS bobS 1 7) : Calls Try.prog 36 #[.pointer (some ⟨k, 0, none⟩)] W (Left B W k mayorS [annS, annS] 1 7) := by
  have hne := h.ne
  have r0 : W.heap[k]? = some (.cells #[.string mayorS, .slice (some ⟨g, 0, none⟩) 2 2, .int .i64 1, .int .u8 ((7 : Nat) : Int)] 40 (0, 0)) := h.row
  have u0 : W.cell? ⟨k, 1, none⟩ = some (.slice (some ⟨g, 0, none⟩) 2 2) := by
    simp only [World.cell?, r0]
    rfl
  have u1 : W.cell? ⟨g, 1, none⟩ = some (.string bobS) := by
    simp only [World.cell?, h.rowS]
    rfl
  have f1 : W.frozen? ⟨g, 1, none⟩ = false := frozen_of_row _ g 1 _ _ h.rowS
  have rl : (W.setCell ⟨g, 1, none⟩ (.string annS)).heap[k]? = some (.cells [.string mayorS, .slice (some ⟨g, 0, none⟩) 2 2, .int .i64 1, .int .u8 ((7 : Nat) : Int)].toArray 40 (0, 0)) := (heap_setCell_other _ ⟨g, 1, none⟩ k (.string annS) hne).trans h.row
  have rs : RdS (W.setCell ⟨g, 1, none⟩ (.string annS)) (some ⟨g, 0, none⟩) 2 2 [annS, annS] := rdS_row (ss := [annS, annS]) (by decide) (heap_setCell_same _ g 1 _ _ (.string annS) h.rowS)
  have rb : Below B W (W.setCell ⟨g, 1, none⟩ (.string annS)) := (Below.refl B W).setCell h.lg _
  have RL := Lib.hid rl
  have RS := Lib.hid rs
  have RB := Lib.hid rb
  clear rl rs rb
  go_enter Try.func36, Try.ntmps36
  go_wp2_with fail
  go_end0
  exact ⟨rfl, _, _, _, RL.out, RS.out, RB.out⟩

theorem clo5_any (W : World) {B k g : Nat} (h : May B W k g mayorS annS bobS 1 7) : Calls Try.prog 37 #[.pointer (some ⟨k, 0, none⟩)] W (Left B W k mayorS [] 1 7) := by
  have r0 : W.heap[k]? = some (.cells #[.string mayorS, .slice (some ⟨g, 0, none⟩) 2 2, .int .i64 1, .int .u8 ((7 : Nat) : Int)] 40 (0, 0)) := h.row
  have u0 : W.cell? ⟨k, 1, none⟩ = some (.slice (some ⟨g, 0, none⟩) 2 2) := by
    simp only [World.cell?, r0]
    rfl
  have f1 : W.frozen? ⟨k, 1, none⟩ = false := frozen_of_row _ k 1 _ _ r0
  have rl : (W.setCell ⟨k, 1, none⟩ (.slice none 0 0)).heap[k]? = some (.cells [.string mayorS, .slice none 0 0, .int .i64 1, .int .u8 ((7 : Nat) : Int)].toArray 40 (0, 0)) := heap_setCell_same _ k 1 _ _ (.slice none 0 0) r0
  have rs : RdS (W.setCell ⟨k, 1, none⟩ (.slice none 0 0)) none 0 0 [] := ⟨rfl, Sl.empty _ _ _ (Nat.zero_le _) (fun _ => rfl)⟩
  have rb : Below B W (W.setCell ⟨k, 1, none⟩ (.slice none 0 0)) := (Below.refl B W).setCell h.lk _
  have RL := Lib.hid rl
  have RS := Lib.hid rs
  have RB := Lib.hid rb
  clear rl rs rb
  go_enter Try.func37, Try.ntmps37
  go_wp2_with fail
  go_end0
  exact ⟨rfl, _, _, _, RL.out, RS.out, RB.out⟩

set_option maxRecDepth 100000 in
theorem clo6_any (W : World) {B k g : Nat} (h : May B W k g mayorS annS bobS 1 7) : Calls Try.prog 38 #[.pointer (some ⟨k, 0, none⟩)] W (Left B W k mayorS (List.replicate 11 ⟨#[]⟩) 1 7) := by
  have hkW : k < W.heap.size := (Array.getElem?_eq_some_iff.1 h.row).1
  obtain ⟨zz, hzz⟩ : ∃ zz, (List.replicate 11 (Value.string ⟨#[]⟩)).toArray = zz := ⟨_, rfl⟩
  have mk : ∀ w, (Instr.makeSlice 38 (.int .i64 11) (.int .i64 11)).run Try.prog w = .ok (.slice (some ⟨w.heap.size, 0, none⟩) 11 11) (w.alloc (.cells zz 9)) := fun w => by rw [← hzz]; exact run_made etS 11 (by omega) (by omega) w
  have HZ := Lib.hid hzz
  clear hzz
  have r0 : (W.alloc (.cells zz 9)).heap[k]? = some (.cells #[.string mayorS, .slice (some ⟨g, 0, none⟩) 2 2, .int .i64 1, .int .u8 ((7 : Nat) : Int)] 40 (0, 0)) := by rw [heap_alloc_old _ _ hkW]; exact h.row
  have u0 : (W.alloc (.cells zz 9)).cell? ⟨k, 1, none⟩ = some (.slice (some ⟨g, 0, none⟩) 2 2) := by
    simp only [World.cell?, r0]
    rfl
  have f1 : (W.alloc (.cells zz 9)).frozen? ⟨k, 1, none⟩ = false := frozen_of_row _ k 1 _ _ r0
  have hz2 : (W.setCell ⟨k, 1, none⟩ (.slice (some ⟨W.heap.size, 0, none⟩) 11 11)).heap.size = W.heap.size := by simp [World.setCell]
  have rl : ((W.setCell ⟨k, 1, none⟩ (.slice (some ⟨W.heap.size, 0, none⟩) 11 11)).alloc (.cells zz 9)).heap[k]? = some (.cells [.string mayorS, .slice (some ⟨W.heap.size, 0, none⟩) 11 11, .int .i64 1, .int .u8 ((7 : Nat) : Int)].toArray 40 (0, 0)) := by
    rw [heap_alloc_old _ _ (by rw [hz2]; exact hkW)]
    exact heap_setCell_same _ k 1 _ _ (.slice (some ⟨W.heap.size, 0, none⟩) 11 11) h.row
  have rs : RdS ((W.setCell ⟨k, 1, none⟩ (.slice (some ⟨W.heap.size, 0, none⟩) 11 11)).alloc (.cells zz 9)) (some ⟨W.heap.size, 0, none⟩) 11 11 (List.replicate 11 ⟨#[]⟩) := rdS_row (ss := List.replicate 11 ⟨#[]⟩) (t := 9) (f := (0, 0)) (by decide) (by
    have := heap_alloc_new (W.setCell ⟨k, 1, none⟩ (.slice (some ⟨W.heap.size, 0, none⟩) 11 11)) (.cells zz 9)
    rw [hz2] at this
    rw [this, ← HZ.out]
    rfl)
  have rb : Below B W ((W.setCell ⟨k, 1, none⟩ (.slice (some ⟨W.heap.size, 0, none⟩) 11 11)).alloc (.cells zz 9)) := ((Below.refl B W).setCell h.lk _).alloc (by rw [hz2]; exact Nat.le_trans h.lk (Nat.le_of_lt hkW)) _
  clear hz2
  have RL := Lib.hid rl
  have RS := Lib.hid rs
  have RB := Lib.hid rb
  clear rl rs rb
  go_enter Try.func38, Try.ntmps38
  go_wp2_with fail
  go_end0
  exact ⟨rfl, _, _, _, RL.out, RS.out, RB.out⟩

theorem twice_mayor : twiceL [annS, bobS] = false := twice_none fun i hi => by
  obtain rfl | rfl : i = 0 ∨ i = 1 := by simp at hi; omega
  · rfl
  · show (eqS bobS annS || false) = false
    cases h : eqS bobS annS
    · rfl
    · have := congrArg (fun b : ByteArray => b.data.toList) (eqS_iff.1 h)
      simp [annS, bobS] at this

theorem ck2 : checkC mayorS [annS, bobS] 2 7 = 8 := by
  unfold checkC
  rw [twice_mayor, show oddL [mayorS] = false from by kernel_rfl, show oddL [annS, bobS] = false from by kernel_rfl, show fitsC [annS, bobS].length 2 7 = false from by kernel_rfl]
  simp

theorem ck3 : checkC mayorS [annS, bobS] 1 17 = 8 := by
  unfold checkC
  rw [twice_mayor, show oddL [mayorS] = false from by kernel_rfl, show oddL [annS, bobS] = false from by kernel_rfl, show fitsC [annS, bobS].length 1 17 = false from by kernel_rfl]
  simp

theorem ck4 : checkC mayorS [annS, annS] 1 7 = 8 := by
  unfold checkC
  rw [show twiceL [annS, annS] = true from by simp [twiceL, hasS, sth, eqS_self, List.range_succ]]
  simp

theorem ck5 : checkC mayorS [] 1 7 = 8 := by
  rfl

theorem ck6 : checkC mayorS (List.replicate 11 ⟨#[]⟩) 1 7 = 4 := by
  rfl

theorem ck7 : checkC ⟨#[97, 32, 98]⟩ [annS, bobS] 1 7 = 8 := by
  unfold checkC
  rw [show oddL [(⟨#[97, 32, 98]⟩ : ByteArray)] = true from by kernel_rfl]
  simp

theorem ck8 : checkC mayorS [annS, bobS] 3 11 = 8 := by
  unfold checkC
  rw [twice_mayor, show oddL [mayorS] = false from by kernel_rfl, show oddL [annS, bobS] = false from by kernel_rfl, show fitsC [annS, bobS].length 3 11 = false from by kernel_rfl]
  simp

theorem ck9 : checkC mayorS [annS, bobS] 10 16 = 0 := by
  unfold checkC
  rw [twice_mayor, show oddL [mayorS] = false from by kernel_rfl, show oddL [annS, bobS] = false from by kernel_rfl, show fitsC [annS, bobS].length 10 16 = true from by kernel_rfl]
  simp

theorem ck10 : checkC mayorS [annS, bobS] 2 4 = 0 := by
  unfold checkC
  rw [twice_mayor, show oddL [mayorS] = false from by kernel_rfl, show oddL [annS, bobS] = false from by kernel_rfl, show fitsC [annS, bobS].length 2 4 = true from by kernel_rfl]
  simp

set_option maxRecDepth 100000 in
theorem turned2_any (w : World) : Calls Try.prog 32 #[.func (.func 34) #[] #[]] w fun e w' => e = .returned (.int .i64 8) ∧ Below w.heap.size w w' := by
  go_enter Try.func32, Try.ntmps32
  go_wp2_with fail
  refine (mayor2_any _).mono ?_
  rintro e w1 ⟨g, rfl, hg, hl, hb⟩
  have hgl : g < w1.heap.size := (Array.getElem?_eq_some_iff.1 hg).1
  have M : May w.heap.size (w1.alloc (.cells #[.string mayorS, .slice (some ⟨g, 0, none⟩) 2 2, .int .i64 1, .int .u8 7] 40)) w1.heap.size g mayorS annS bobS 1 7 := ⟨heap_alloc_new _ _, by rw [heap_alloc_old _ _ hgl]; exact hg, hb.size, hl⟩
  have HM := Lib.hid M
  have BA := hb.trans ((below_al w1 (.cells #[.string mayorS, .slice (some ⟨g, 0, none⟩) 2 2, .int .i64 1, .int .u8 7] 40)).mono hb.size)
  have zl : w.heap.size ≤ (w1.alloc (.cells #[.string mayorS, .slice (some ⟨g, 0, none⟩) 2 2, .int .i64 1, .int .u8 7] 40)).heap.size := by have := hb.size; rw [World.size_alloc]; omega
  clear M hg hgl hl
  go_wp2_with first | refine wpList_store_new rfl 40 _ _ rfl atCon _ _ _ rfl rfl rfl rfl (con_one _ _ _ _ _ _) ?_
  refine (clo2_any _ HM.out).mono ?_
  rintro e w2 ⟨rfl, a, n, c, hk, hrs, hb2⟩
  have u0 := row_cells hk 0 _ rfl
  have u1 := row_cells hk 1 _ rfl
  have u2 := row_cells hk 2 _ rfl
  have u3 := row_cells hk 3 _ rfl
  simp only [Nat.zero_add] at u0 u1 u2 u3
  have B2 := BA.trans hb2
  have z2 := B2.size
  clear hk hb2 BA HM
  go_wp2_with fail
  have c := Check_any w2 mayorS hrs 2 (by decide) (by decide) 7 (by decide)
  rw [ck2] at c
  refine c.mono ?_
  rintro e w3 ⟨rfl, hb3⟩
  clear c
  go_wp2_with fail
  go_ret
  exact ⟨rfl, B2.trans (hb3.mono z2)⟩

set_option maxRecDepth 100000 in
theorem turned3_any (w : World) : Calls Try.prog 32 #[.func (.func 35) #[] #[]] w fun e w' => e = .returned (.int .i64 8) ∧ Below w.heap.size w w' := by
  go_enter Try.func32, Try.ntmps32
  go_wp2_with fail
  refine (mayor2_any _).mono ?_
  rintro e w1 ⟨g, rfl, hg, hl, hb⟩
  have hgl : g < w1.heap.size := (Array.getElem?_eq_some_iff.1 hg).1
  have M : May w.heap.size (w1.alloc (.cells #[.string mayorS, .slice (some ⟨g, 0, none⟩) 2 2, .int .i64 1, .int .u8 7] 40)) w1.heap.size g mayorS annS bobS 1 7 := ⟨heap_alloc_new _ _, by rw [heap_alloc_old _ _ hgl]; exact hg, hb.size, hl⟩
  have HM := Lib.hid M
  have BA := hb.trans ((below_al w1 (.cells #[.string mayorS, .slice (some ⟨g, 0, none⟩) 2 2, .int .i64 1, .int .u8 7] 40)).mono hb.size)
  have zl : w.heap.size ≤ (w1.alloc (.cells #[.string mayorS, .slice (some ⟨g, 0, none⟩) 2 2, .int .i64 1, .int .u8 7] 40)).heap.size := by have := hb.size; rw [World.size_alloc]; omega
  clear M hg hgl hl
  go_wp2_with first | refine wpList_store_new rfl 40 _ _ rfl atCon _ _ _ rfl rfl rfl rfl (con_one _ _ _ _ _ _) ?_
  refine (clo3_any _ HM.out).mono ?_
  rintro e w2 ⟨rfl, a, n, c, hk, hrs, hb2⟩
  have u0 := row_cells hk 0 _ rfl
  have u1 := row_cells hk 1 _ rfl
  have u2 := row_cells hk 2 _ rfl
  have u3 := row_cells hk 3 _ rfl
  simp only [Nat.zero_add] at u0 u1 u2 u3
  have B2 := BA.trans hb2
  have z2 := B2.size
  clear hk hb2 BA HM
  go_wp2_with fail
  have c := Check_any w2 mayorS hrs 1 (by decide) (by decide) 17 (by decide)
  rw [ck3] at c
  refine c.mono ?_
  rintro e w3 ⟨rfl, hb3⟩
  clear c
  go_wp2_with fail
  go_ret
  exact ⟨rfl, B2.trans (hb3.mono z2)⟩

set_option maxRecDepth 100000 in
theorem turned4_any (w : World) : Calls Try.prog 32 #[.func (.func 36) #[] #[]] w fun e w' => e = .returned (.int .i64 8) ∧ Below w.heap.size w w' := by
  go_enter Try.func32, Try.ntmps32
  go_wp2_with fail
  refine (mayor2_any _).mono ?_
  rintro e w1 ⟨g, rfl, hg, hl, hb⟩
  have hgl : g < w1.heap.size := (Array.getElem?_eq_some_iff.1 hg).1
  have M : May w.heap.size (w1.alloc (.cells #[.string mayorS, .slice (some ⟨g, 0, none⟩) 2 2, .int .i64 1, .int .u8 7] 40)) w1.heap.size g mayorS annS bobS 1 7 := ⟨heap_alloc_new _ _, by rw [heap_alloc_old _ _ hgl]; exact hg, hb.size, hl⟩
  have HM := Lib.hid M
  have BA := hb.trans ((below_al w1 (.cells #[.string mayorS, .slice (some ⟨g, 0, none⟩) 2 2, .int .i64 1, .int .u8 7] 40)).mono hb.size)
  have zl : w.heap.size ≤ (w1.alloc (.cells #[.string mayorS, .slice (some ⟨g, 0, none⟩) 2 2, .int .i64 1, .int .u8 7] 40)).heap.size := by have := hb.size; rw [World.size_alloc]; omega
  clear M hg hgl hl
  go_wp2_with first | refine wpList_store_new rfl 40 _ _ rfl atCon _ _ _ rfl rfl rfl rfl (con_one _ _ _ _ _ _) ?_
  refine (clo4_any _ HM.out).mono ?_
  rintro e w2 ⟨rfl, a, n, c, hk, hrs, hb2⟩
  have u0 := row_cells hk 0 _ rfl
  have u1 := row_cells hk 1 _ rfl
  have u2 := row_cells hk 2 _ rfl
  have u3 := row_cells hk 3 _ rfl
  simp only [Nat.zero_add] at u0 u1 u2 u3
  have B2 := BA.trans hb2
  have z2 := B2.size
  clear hk hb2 BA HM
  go_wp2_with fail
  have c := Check_any w2 mayorS hrs 1 (by decide) (by decide) 7 (by decide)
  rw [ck4] at c
  refine c.mono ?_
  rintro e w3 ⟨rfl, hb3⟩
  clear c
  go_wp2_with fail
  go_ret
  exact ⟨rfl, B2.trans (hb3.mono z2)⟩

set_option maxRecDepth 100000 in
theorem turned5_any (w : World) : Calls Try.prog 32 #[.func (.func 37) #[] #[]] w fun e w' => e = .returned (.int .i64 8) ∧ Below w.heap.size w w' := by
  go_enter Try.func32, Try.ntmps32
  go_wp2_with fail
  refine (mayor2_any _).mono ?_
  rintro e w1 ⟨g, rfl, hg, hl, hb⟩
  have hgl : g < w1.heap.size := (Array.getElem?_eq_some_iff.1 hg).1
  have M : May w.heap.size (w1.alloc (.cells #[.string mayorS, .slice (some ⟨g, 0, none⟩) 2 2, .int .i64 1, .int .u8 7] 40)) w1.heap.size g mayorS annS bobS 1 7 := ⟨heap_alloc_new _ _, by rw [heap_alloc_old _ _ hgl]; exact hg, hb.size, hl⟩
  have HM := Lib.hid M
  have BA := hb.trans ((below_al w1 (.cells #[.string mayorS, .slice (some ⟨g, 0, none⟩) 2 2, .int .i64 1, .int .u8 7] 40)).mono hb.size)
  have zl : w.heap.size ≤ (w1.alloc (.cells #[.string mayorS, .slice (some ⟨g, 0, none⟩) 2 2, .int .i64 1, .int .u8 7] 40)).heap.size := by have := hb.size; rw [World.size_alloc]; omega
  clear M hg hgl hl
  go_wp2_with first | refine wpList_store_new rfl 40 _ _ rfl atCon _ _ _ rfl rfl rfl rfl (con_one _ _ _ _ _ _) ?_
  refine (clo5_any _ HM.out).mono ?_
  rintro e w2 ⟨rfl, a, n, c, hk, hrs, hb2⟩
  have u0 := row_cells hk 0 _ rfl
  have u1 := row_cells hk 1 _ rfl
  have u2 := row_cells hk 2 _ rfl
  have u3 := row_cells hk 3 _ rfl
  simp only [Nat.zero_add] at u0 u1 u2 u3
  have B2 := BA.trans hb2
  have z2 := B2.size
  clear hk hb2 BA HM
  go_wp2_with fail
  have c := Check_any w2 mayorS hrs 1 (by decide) (by decide) 7 (by decide)
  rw [ck5] at c
  refine c.mono ?_
  rintro e w3 ⟨rfl, hb3⟩
  clear c
  go_wp2_with fail
  go_ret
  exact ⟨rfl, B2.trans (hb3.mono z2)⟩

set_option maxRecDepth 100000 in
theorem turned6_any (w : World) : Calls Try.prog 32 #[.func (.func 38) #[] #[]] w fun e w' => e = .returned (.int .i64 4) ∧ Below w.heap.size w w' := by
  go_enter Try.func32, Try.ntmps32
  go_wp2_with fail
  refine (mayor2_any _).mono ?_
  rintro e w1 ⟨g, rfl, hg, hl, hb⟩
  have hgl : g < w1.heap.size := (Array.getElem?_eq_some_iff.1 hg).1
  have M : May w.heap.size (w1.alloc (.cells #[.string mayorS, .slice (some ⟨g, 0, none⟩) 2 2, .int .i64 1, .int .u8 7] 40)) w1.heap.size g mayorS annS bobS 1 7 := ⟨heap_alloc_new _ _, by rw [heap_alloc_old _ _ hgl]; exact hg, hb.size, hl⟩
  have HM := Lib.hid M
  have BA := hb.trans ((below_al w1 (.cells #[.string mayorS, .slice (some ⟨g, 0, none⟩) 2 2, .int .i64 1, .int .u8 7] 40)).mono hb.size)
  have zl : w.heap.size ≤ (w1.alloc (.cells #[.string mayorS, .slice (some ⟨g, 0, none⟩) 2 2, .int .i64 1, .int .u8 7] 40)).heap.size := by have := hb.size; rw [World.size_alloc]; omega
  clear M hg hgl hl
  go_wp2_with first | refine wpList_store_new rfl 40 _ _ rfl atCon _ _ _ rfl rfl rfl rfl (con_one _ _ _ _ _ _) ?_
  refine (clo6_any _ HM.out).mono ?_
  rintro e w2 ⟨rfl, a, n, c, hk, hrs, hb2⟩
  have u0 := row_cells hk 0 _ rfl
  have u1 := row_cells hk 1 _ rfl
  have u2 := row_cells hk 2 _ rfl
  have u3 := row_cells hk 3 _ rfl
  simp only [Nat.zero_add] at u0 u1 u2 u3
  have B2 := BA.trans hb2
  have z2 := B2.size
  clear hk hb2 BA HM
  go_wp2_with fail
  have c := Check_any w2 mayorS hrs 1 (by decide) (by decide) 7 (by decide)
  rw [ck6] at c
  refine c.mono ?_
  rintro e w3 ⟨rfl, hb3⟩
  clear c
  go_wp2_with fail
  go_ret
  exact ⟨rfl, B2.trans (hb3.mono z2)⟩

set_option maxRecDepth 100000 in
theorem turned7_any (w : World) : Calls Try.prog 32 #[.func (.func 39) #[] #[]] w fun e w' => e = .returned (.int .i64 8) ∧ Below w.heap.size w w' := by
  go_enter Try.func32, Try.ntmps32
  go_wp2_with fail
  refine (mayor2_any _).mono ?_
  rintro e w1 ⟨g, rfl, hg, hl, hb⟩
  have hgl : g < w1.heap.size := (Array.getElem?_eq_some_iff.1 hg).1
  have M : May w.heap.size (w1.alloc (.cells #[.string mayorS, .slice (some ⟨g, 0, none⟩) 2 2, .int .i64 1, .int .u8 7] 40)) w1.heap.size g mayorS annS bobS 1 7 := ⟨heap_alloc_new _ _, by rw [heap_alloc_old _ _ hgl]; exact hg, hb.size, hl⟩
  have HM := Lib.hid M
  have BA := hb.trans ((below_al w1 (.cells #[.string mayorS, .slice (some ⟨g, 0, none⟩) 2 2, .int .i64 1, .int .u8 7] 40)).mono hb.size)
  have zl : w.heap.size ≤ (w1.alloc (.cells #[.string mayorS, .slice (some ⟨g, 0, none⟩) 2 2, .int .i64 1, .int .u8 7] 40)).heap.size := by have := hb.size; rw [World.size_alloc]; omega
  clear M hg hgl hl
  go_wp2_with first | refine wpList_store_new rfl 40 _ _ rfl atCon _ _ _ rfl rfl rfl rfl (con_one _ _ _ _ _ _) ?_
  refine (clo7_any _ HM.out).mono ?_
  rintro e w2 ⟨rfl, a, n, c, hk, hrs, hb2⟩
  have u0 := row_cells hk 0 _ rfl
  have u1 := row_cells hk 1 _ rfl
  have u2 := row_cells hk 2 _ rfl
  have u3 := row_cells hk 3 _ rfl
  simp only [Nat.zero_add] at u0 u1 u2 u3
  have B2 := BA.trans hb2
  have z2 := B2.size
  clear hk hb2 BA HM
  go_wp2_with fail
  have c := Check_any w2 ⟨#[97, 32, 98]⟩ hrs 1 (by decide) (by decide) 7 (by decide)
  rw [ck7] at c
  refine c.mono ?_
  rintro e w3 ⟨rfl, hb3⟩
  clear c
  go_wp2_with fail
  go_ret
  exact ⟨rfl, B2.trans (hb3.mono z2)⟩

set_option maxRecDepth 100000 in
theorem turned8_any (w : World) : Calls Try.prog 32 #[.func (.func 40) #[] #[]] w fun e w' => e = .returned (.int .i64 8) ∧ Below w.heap.size w w' := by
  go_enter Try.func32, Try.ntmps32
  go_wp2_with fail
  refine (mayor2_any _).mono ?_
  rintro e w1 ⟨g, rfl, hg, hl, hb⟩
  have hgl : g < w1.heap.size := (Array.getElem?_eq_some_iff.1 hg).1
  have M : May w.heap.size (w1.alloc (.cells #[.string mayorS, .slice (some ⟨g, 0, none⟩) 2 2, .int .i64 1, .int .u8 7] 40)) w1.heap.size g mayorS annS bobS 1 7 := ⟨heap_alloc_new _ _, by rw [heap_alloc_old _ _ hgl]; exact hg, hb.size, hl⟩
  have HM := Lib.hid M
  have BA := hb.trans ((below_al w1 (.cells #[.string mayorS, .slice (some ⟨g, 0, none⟩) 2 2, .int .i64 1, .int .u8 7] 40)).mono hb.size)
  have zl : w.heap.size ≤ (w1.alloc (.cells #[.string mayorS, .slice (some ⟨g, 0, none⟩) 2 2, .int .i64 1, .int .u8 7] 40)).heap.size := by have := hb.size; rw [World.size_alloc]; omega
  clear M hg hgl hl
  go_wp2_with first | refine wpList_store_new rfl 40 _ _ rfl atCon _ _ _ rfl rfl rfl rfl (con_one _ _ _ _ _ _) ?_
  refine (clo8_any _ HM.out).mono ?_
  rintro e w2 ⟨rfl, a, n, c, hk, hrs, hb2⟩
  have u0 := row_cells hk 0 _ rfl
  have u1 := row_cells hk 1 _ rfl
  have u2 := row_cells hk 2 _ rfl
  have u3 := row_cells hk 3 _ rfl
  simp only [Nat.zero_add] at u0 u1 u2 u3
  have B2 := BA.trans hb2
  have z2 := B2.size
  clear hk hb2 BA HM
  go_wp2_with fail
  have c := Check_any w2 mayorS hrs 3 (by decide) (by decide) 11 (by decide)
  rw [ck8] at c
  refine c.mono ?_
  rintro e w3 ⟨rfl, hb3⟩
  clear c
  go_wp2_with fail
  go_ret
  exact ⟨rfl, B2.trans (hb3.mono z2)⟩

set_option maxRecDepth 100000 in
theorem turned9_any (w : World) : Calls Try.prog 32 #[.func (.func 41) #[] #[]] w fun e w' => e = .returned (.int .i64 0) ∧ Below w.heap.size w w' := by
  go_enter Try.func32, Try.ntmps32
  go_wp2_with fail
  refine (mayor2_any _).mono ?_
  rintro e w1 ⟨g, rfl, hg, hl, hb⟩
  have hgl : g < w1.heap.size := (Array.getElem?_eq_some_iff.1 hg).1
  have M : May w.heap.size (w1.alloc (.cells #[.string mayorS, .slice (some ⟨g, 0, none⟩) 2 2, .int .i64 1, .int .u8 7] 40)) w1.heap.size g mayorS annS bobS 1 7 := ⟨heap_alloc_new _ _, by rw [heap_alloc_old _ _ hgl]; exact hg, hb.size, hl⟩
  have HM := Lib.hid M
  have BA := hb.trans ((below_al w1 (.cells #[.string mayorS, .slice (some ⟨g, 0, none⟩) 2 2, .int .i64 1, .int .u8 7] 40)).mono hb.size)
  have zl : w.heap.size ≤ (w1.alloc (.cells #[.string mayorS, .slice (some ⟨g, 0, none⟩) 2 2, .int .i64 1, .int .u8 7] 40)).heap.size := by have := hb.size; rw [World.size_alloc]; omega
  clear M hg hgl hl
  go_wp2_with first | refine wpList_store_new rfl 40 _ _ rfl atCon _ _ _ rfl rfl rfl rfl (con_one _ _ _ _ _ _) ?_
  refine (clo9_any _ HM.out).mono ?_
  rintro e w2 ⟨rfl, a, n, c, hk, hrs, hb2⟩
  have u0 := row_cells hk 0 _ rfl
  have u1 := row_cells hk 1 _ rfl
  have u2 := row_cells hk 2 _ rfl
  have u3 := row_cells hk 3 _ rfl
  simp only [Nat.zero_add] at u0 u1 u2 u3
  have B2 := BA.trans hb2
  have z2 := B2.size
  clear hk hb2 BA HM
  go_wp2_with fail
  have c := Check_any w2 mayorS hrs 10 (by decide) (by decide) 16 (by decide)
  rw [ck9] at c
  refine c.mono ?_
  rintro e w3 ⟨rfl, hb3⟩
  clear c
  go_wp2_with fail
  go_ret
  exact ⟨rfl, B2.trans (hb3.mono z2)⟩

set_option maxRecDepth 100000 in
theorem turned10_any (w : World) : Calls Try.prog 32 #[.func (.func 42) #[] #[]] w fun e w' => e = .returned (.int .i64 0) ∧ Below w.heap.size w w' := by
  go_enter Try.func32, Try.ntmps32
  go_wp2_with fail
  refine (mayor2_any _).mono ?_
  rintro e w1 ⟨g, rfl, hg, hl, hb⟩
  have hgl : g < w1.heap.size := (Array.getElem?_eq_some_iff.1 hg).1
  have M : May w.heap.size (w1.alloc (.cells #[.string mayorS, .slice (some ⟨g, 0, none⟩) 2 2, .int .i64 1, .int .u8 7] 40)) w1.heap.size g mayorS annS bobS 1 7 := ⟨heap_alloc_new _ _, by rw [heap_alloc_old _ _ hgl]; exact hg, hb.size, hl⟩
  have HM := Lib.hid M
  have BA := hb.trans ((below_al w1 (.cells #[.string mayorS, .slice (some ⟨g, 0, none⟩) 2 2, .int .i64 1, .int .u8 7] 40)).mono hb.size)
  have zl : w.heap.size ≤ (w1.alloc (.cells #[.string mayorS, .slice (some ⟨g, 0, none⟩) 2 2, .int .i64 1, .int .u8 7] 40)).heap.size := by have := hb.size; rw [World.size_alloc]; omega
  clear M hg hgl hl
  go_wp2_with first | refine wpList_store_new rfl 40 _ _ rfl atCon _ _ _ rfl rfl rfl rfl (con_one _ _ _ _ _ _) ?_
  refine (clo10_any _ HM.out).mono ?_
  rintro e w2 ⟨rfl, a, n, c, hk, hrs, hb2⟩
  have u0 := row_cells hk 0 _ rfl
  have u1 := row_cells hk 1 _ rfl
  have u2 := row_cells hk 2 _ rfl
  have u3 := row_cells hk 3 _ rfl
  simp only [Nat.zero_add] at u0 u1 u2 u3
  have B2 := BA.trans hb2
  have z2 := B2.size
  clear hk hb2 BA HM
  go_wp2_with fail
  have c := Check_any w2 mayorS hrs 2 (by decide) (by decide) 4 (by decide)
  rw [ck10] at c
  refine c.mono ?_
  rintro e w3 ⟨rfl, hb3⟩
  clear c
  go_wp2_with fail
  go_ret
  exact ⟨rfl, B2.trans (hb3.mono z2)⟩

end Go.Proofs.Ytnkbkcmphgejkaa
