/- Rows of integers, of Booleans and of decisions; blocks of a value. No condition. -/
import Derived.Test.YtlfempfhohejiaaConK
import Derived.Test.YtlfempfhohejiaaMem
import Derived.Deep.RegionHeld3
set_option linter.unusedVariables false
set_option linter.unusedSimpArgs false
namespace Go.Suf
open Go.RowKit

/-- The slice of n elements at a reads as xs; an element is one cell. -/
structure RdG {α : Type} (enc : α → Value) (ok : α → Prop) (w : World) (a : Option Addr) (n cap : Nat) (xs : List α) : Prop where
  len : xs.length = n
  sl : Sl w a cap (xs.map enc)
  bd : ∀ x ∈ xs, ok x

/-- The same, in memory of the call's own (from block base on). -/
structure OwG {α : Type} (enc : α → Value) (ok : α → Prop) (e : TypeId) (base : Nat) (w : World) (a : Option Addr) (n cap : Nat) (xs : List α) : Prop where
  len : xs.length = n
  own : w.ownsRow base e 1 (.slice a n cap) n (xs.map enc)
  bd : ∀ x ∈ xs, ok x

def gth {α : Type} (d : α) (xs : List α) (i : Nat) : α := xs.getD i d
theorem gth_eq {α : Type} (d : α) {xs : List α} {i : Nat} (h : i < xs.length) : gth d xs i = xs[i] := by simp [gth, h]
theorem gth_mem {α : Type} (d : α) {xs : List α} {i : Nat} (h : i < xs.length) : gth d xs i ∈ xs := by rw [gth_eq d h]; exact List.getElem_mem _
theorem gth_append_left {α : Type} (d : α) {xs ys : List α} {i : Nat} (h : i < xs.length) : gth d (xs ++ ys) i = gth d xs i := by
  simp [gth, List.getD_eq_getElem?_getD, List.getElem?_append_left h]
theorem gth_set {α : Type} (d : α) {xs : List α} {k : Nat} (v : α) (hk : k < xs.length) (i : Nat) : gth d (xs.set k v) i = if i = k then v else gth d xs i := by
  unfold gth
  by_cases h : i = k
  · subst h; rw [if_pos rfl]; simp [hk]
  · rw [if_neg h]
    simp [List.getD_eq_getElem?_getD, List.getElem?_set, Ne.symm h]
theorem g_ext {α : Type} (d : α) {xs ys : List α} (hl : xs.length = ys.length) (h : ∀ k, k < xs.length → gth d xs k = gth d ys k) : xs = ys := by
  refine List.ext_getElem hl fun i h1 h2 => ?_
  have := h i h1
  rwa [gth_eq d h1, gth_eq d h2] at this

section
variable {α : Type} {enc : α → Value} {ok : α → Prop} {e : TypeId} {base : Nat} {w w' : World} {a : Option Addr} {n cap : Nat} {xs : List α}

theorem RdG.nil (enc : α → Value) (ok : α → Prop) (w : World) : RdG enc ok w none 0 0 [] := ⟨rfl, Sl.empty w none 0 (Nat.zero_le _) (fun _ => rfl), fun x hx => by simp at hx⟩
theorem RdG.below (h : RdG enc ok w a n cap xs) (hb : Below w.heap.size w w') : RdG enc ok w' a n cap xs := ⟨h.len, h.sl.below hb, h.bd⟩
theorem RdG.le (h : RdG enc ok w a n cap xs) : n ≤ cap := by
  have h1 := h.sl.le
  rw [List.length_map, h.len] at h1
  exact h1
theorem RdG.lt (h : RdG enc ok w a n cap xs) : n ≤ 9223372036854775807 := by
  have h1 := h.le
  have h2 := h.sl.max
  unfold maxLen at h2
  omega
theorem RdG.addr (d : α) (h : RdG enc ok w a n cap xs) (hp : 0 < n) : ∃ b off, a = some ⟨b, off, none⟩ ∧ ∀ i, i < n → w.cell? ⟨b, off + i, none⟩ = some (enc (gth d xs i)) := by
  have hl := h.len
  obtain ⟨b, off, e, hw⟩ := h.sl.addr (by rw [List.length_map]; omega)
  refine ⟨b, off, e, fun i hi => hw i _ ?_⟩
  rw [List.getElem?_map, List.getElem?_eq_getElem (by omega), gth_eq d (by omega)]
  rfl
theorem RdG.isok (d : α) (h : RdG enc ok w a n cap xs) {i : Nat} (hi : i < n) : ok (gth d xs i) := h.bd _ (gth_mem d (by rw [h.len]; exact hi))

theorem enc_one (h1 : ∀ x, (enc x).oneCell' = true) (xs : List α) : ∀ u ∈ xs.map enc, u.oneCell' = true := by
  intro u hu
  simp only [List.mem_map] at hu
  obtain ⟨x, _, rfl⟩ := hu
  exact h1 x

theorem OwG.nil (enc : α → Value) (ok : α → Prop) (e : TypeId) (base : Nat) (w : World) : OwG enc ok e base w none 0 0 [] := ⟨rfl, World.ownsRow_nil w base e 1, fun x hx => by simp at hx⟩
theorem OwG.rd (h1 : ∀ x, (enc x).oneCell' = true) (h : OwG enc ok e base w a n cap xs) : RdG enc ok w a n cap xs := ⟨h.len, sl_of_own h.own (enc_one h1 xs), h.bd⟩
theorem OwG.below (h : OwG enc ok e base w a n cap xs) (hb : Below w.heap.size w w') : OwG enc ok e base w' a n cap xs := ⟨h.len, own_below h.own hb, h.bd⟩
theorem OwG.base_le (h : OwG enc ok e base w a n cap xs) {base' : Nat} (hb : base' ≤ base) : OwG enc ok e base' w a n cap xs := by
  refine ⟨h.len, ⟨h.own.1, ?_⟩, h.bd⟩
  rcases h.own.2 with h2 | ⟨g, c, cur, hv, hg, r⟩
  · exact .inl h2
  · exact .inr ⟨g, c, cur, hv, by omega, r⟩
theorem OwG.where (h : OwG enc ok e base w a n cap xs) (hn : 0 < n) : ∃ g, a = some ⟨g, 0, none⟩ ∧ base ≤ g ∧ g < w.heap.size := own_block h.own hn
theorem OwG.at (d : α) {g : Nat} (h : OwG enc ok e base w (some ⟨g, 0, none⟩) n cap xs) (i : Nat) (hi : i < n) : w.cell? ⟨g, i, none⟩ = some (enc (gth d xs i)) := by
  have hl := h.len
  rw [h.own.cellAt i (by omega), List.getElem?_map, List.getElem?_eq_getElem (by omega), gth_eq d (by omega)]
  rfl
theorem OwG.free {g : Nat} (h : OwG enc ok e base w (some ⟨g, 0, none⟩) n cap xs) (i : Nat) : w.frozen? ⟨g, i, none⟩ = false := h.own.frozenAt i
theorem OwG.set {g : Nat} (h : OwG enc ok e base w (some ⟨g, 0, none⟩) n cap xs) (i : Nat) {v : α} (hv : ok v) : OwG enc ok e base (w.setCell ⟨g, i, none⟩ (enc v)) (some ⟨g, 0, none⟩) n cap (xs.set i v) := by
  refine ⟨by simpa using h.len, ?_, fun x hx => ?_⟩
  · have := (h.own.stored i (enc v)).1
    simpa [List.map_set] using this
  · rcases List.mem_or_eq_of_mem_set hx with h' | h'
    · exact h.bd x h'
    · rw [h']; exact hv
theorem OwG.snoc {a' : Option Addr} {m cap' : Nat} (h : OwG enc ok e base w a n cap xs) {x : α} (hx : ok x) (hm : m = n + 1) (ho : w'.ownsRow base e 1 (.slice a' m cap') m (xs.map enc ++ [enc x])) : OwG enc ok e base w' a' m cap' (xs ++ [x]) := by
  refine ⟨by simp [h.len, hm], by simpa using ho, fun y hy => ?_⟩
  rcases List.mem_append.1 hy with h' | h'
  · exact h.bd y h'
  · simp at h'; rw [h']; exact hx
theorem OwG.full (enc : α → Value) (ok : α → Prop) (e : TypeId) (w : World) (z : α) (hz : ok z) (n : Nat) (hm : n ≤ maxLen) : OwG enc ok e w.heap.size (w.alloc (.cells ((List.replicate n z).map enc).toArray e)) (some ⟨w.heap.size, 0, none⟩) n n (List.replicate n z) :=
  ⟨by simp, World.ownsRow_lit w ((List.replicate n z).map enc).toArray n (Nat.le_refl _) hm (by simp), fun x hx => by
    have : x = z := List.eq_of_mem_replicate hx
    subst this
    exact hz⟩
theorem OwG.alone (h : OwG enc ok e base w a n cap xs) {g : Nat} (i : Nat) (v : Value) (hne : ∀ p, a = some p → p.block ≠ g) : OwG enc ok e base (w.setCell ⟨g, i, none⟩ v) a n cap xs := by
  refine ⟨h.len, ⟨h.own.1, ?_⟩, h.bd⟩
  rcases h.own.2 with h2 | ⟨b, c, cur, hv, hg, hh, r⟩
  · exact .inl h2
  · refine .inr ⟨b, c, cur, hv, hg, ?_, r⟩
    have hb : b ≠ g := by
      simp at hv
      exact hne ⟨b, 0, none⟩ hv.1
    rw [heap_setCell_other w ⟨g, i, none⟩ b v hb]
    exact hh
end

theorem run_madeG {P : Program} {t e : TypeId} {v : Value} {bs : Nat} (T : ET P t e v bs) (hv : v.cells = #[v]) (n : Nat) (hb : bs * n ≤ 281474976710656) (hm : n ≤ 9223372036854775807) (w : World) :
    (Instr.makeSlice t (.int .i64 (n : Int)) (.int .i64 (n : Int))).run P w = .ok (.slice (some ⟨w.heap.size, 0, none⟩) n n) (w.alloc (.cells (List.replicate n v).toArray e)) := by
  obtain ⟨i, hi, hz, h1, hby⟩ := T.info
  have h2 := run_make (P := P) w t e i v T.ht hi hz .i64 .i64 (n : Int) (n : Int) (by omega) (Int.le_refl _) (by
    rw [hby]
    have : ((bs * n : Nat) : Int) ≤ 281474976710656 := by omega
    rwa [Int.natCast_mul] at this) (by omega)
  rw [h2, hv, h1]
  have e1 : madeCells #[v] ((n : Int).toNat * 1) = (List.replicate n v).toArray := by
    apply Array.ext'
    rw [toList_madeCells_one]
    simp
  rw [e1]
  simp

theorem sl_alone (w : World) (v : Value) (t : TypeId) (h : v.oneCell' = true) : Sl (w.alloc (.cells #[v] t)) (some ⟨w.heap.size, 0, none⟩) 1 [v] := by
  have := sl_lit w [v] t (fun u hu => by simp at hu; rw [hu]; exact h) (by unfold maxLen; simp)
  simpa using this

/-- Integers and Booleans. -/
abbrev encI (x : Int) : Value := .int .i64 x
abbrev encB (x : Bool) : Value := .bool x
def okI (x : Int) : Prop := -9223372036854775808 ≤ x ∧ x ≤ 9223372036854775807
def okB (_ : Bool) : Prop := True
theorem oneI (x : Int) : (encI x).oneCell' = true := rfl
theorem oneB (x : Bool) : (encB x).oneCell' = true := rfl
abbrev RdI := RdG encI okI
abbrev RdB := RdG encB okB
abbrev ith (xs : List Int) (i : Nat) : Int := gth 0 xs i
abbrev bth (xs : List Bool) (i : Nat) : Bool := gth false xs i

theorem RdG.addrI {w : World} {a : Option Addr} {n cap : Nat} {xs : List Int} (h : RdI w a n cap xs) (hp : 0 < n) : ∃ b off, a = some ⟨b, off, none⟩ ∧ ∀ i, i < n → w.cell? ⟨b, off + i, none⟩ = some (.int .i64 (ith xs i)) := h.addr 0 hp
theorem RdG.addrB {w : World} {a : Option Addr} {n cap : Nat} {xs : List Bool} (h : RdB w a n cap xs) (hp : 0 < n) : ∃ b off, a = some ⟨b, off, none⟩ ∧ ∀ i, i < n → w.cell? ⟨b, off + i, none⟩ = some (.bool (bth xs i)) := h.addr false hp

/-- Decisions. -/
structure DQ where
  bx : Int
  yes : Bool
  deriving DecidableEq
def dth (l : List DQ) (i : Nat) : DQ := l.getD i ⟨0, false⟩
theorem dth_eq {l : List DQ} {i : Nat} (h : i < l.length) : dth l i = l[i] := by simp [dth, h]
theorem dth_mem {l : List DQ} {i : Nat} (h : i < l.length) : dth l i ∈ l := by rw [dth_eq h]; exact List.getElem_mem _
structure RdD (w : World) (a : Option Addr) (n cap : Nat) (l : List DQ) : Prop where
  len : l.length = n
  le : n ≤ cap
  max : cap ≤ maxLen
  nil : a = none → cap = 0
  cell : ∀ i, i < n → ∃ b off, a = some ⟨b, off, none⟩ ∧ w.cell? ⟨b, off + i * 2, none⟩ = some (.int .i64 (dth l i).bx) ∧ w.cell? ⟨b, off + i * 2 + 1, none⟩ = some (.bool (dth l i).yes)
  wf : ∀ d ∈ l, okI d.bx
theorem RdD.lt {w : World} {a : Option Addr} {n cap : Nat} {l : List DQ} (h : RdD w a n cap l) : n ≤ 9223372036854775807 := by have h1 := h.le; have h2 := h.max; unfold maxLen at h2; omega
theorem RdD.nils (w : World) : RdD w none 0 0 [] := ⟨rfl, Nat.le_refl _, by decide, fun _ => rfl, fun i hi => by omega, fun d hd => by simp at hd⟩
theorem RdD.below {w w' : World} {a : Option Addr} {n cap : Nat} {l : List DQ} (h : RdD w a n cap l) (hb : Below w.heap.size w w') : RdD w' a n cap l :=
  ⟨h.len, h.le, h.max, h.nil, fun i hi => by
    obtain ⟨b, off, e, h1, h2⟩ := h.cell i hi
    exact ⟨b, off, e, cell_below hb h1, cell_below hb h2⟩, h.wf⟩
theorem RdD.addr {w : World} {a : Option Addr} {n cap : Nat} {l : List DQ} (h : RdD w a n cap l) (hp : 0 < n) : ∃ b off, a = some ⟨b, off, none⟩ ∧ ∀ i, i < n → w.cell? ⟨b, off + i * 2, none⟩ = some (.int .i64 (dth l i).bx) ∧ w.cell? ⟨b, off + i * 2 + 1, none⟩ = some (.bool (dth l i).yes) := by
  obtain ⟨b, off, e, _⟩ := h.cell 0 hp
  subst e
  refine ⟨b, off, rfl, fun i hi => ?_⟩
  obtain ⟨b', off', e, h'⟩ := h.cell i hi
  obtain ⟨rfl, rfl⟩ : b = b' ∧ off = off' := by simpa using e
  exact h'
theorem RdD.ok {w : World} {a : Option Addr} {n cap : Nat} {l : List DQ} (h : RdD w a n cap l) {i : Nat} (hi : i < n) : okI (dth l i).bx := h.wf _ (dth_mem (by rw [h.len]; exact hi))

/-- A policy. -/
structure PQ where
  low : Nat
  high : Nat
  skips : Int
  deriving DecidableEq
def PW (p : PQ) : Prop := p.low < 256 ∧ p.high < 256 ∧ okI p.skips
abbrev polc (p : PQ) : Array Value := #[.int .u8 ((p.low : Nat) : Int), .int .u8 ((p.high : Nat) : Int), .int .i64 p.skips]
end Go.Suf
namespace Go.Proofs.Ytlfempfhohejiaa
open Go.RowKit Go.Suf

theorem below_al (w : World) (o : Obj) : Below w.heap.size w (w.alloc o) := (Below.refl _ _).alloc (Nat.le_refl _) _
theorem wrap_in {z : Int} (h1 : -9223372036854775808 ≤ z) (h2 : z ≤ 9223372036854775807) : IntKind.i64.wrap z = z := by
  rw [IntKind.wrap_i64]
  omega

theorem etI : ET Try.prog 37 3 (.int .i64 0) 8 := ⟨Try.underlying37, by kernel_rfl, rfl⟩
theorem etB : ET Try.prog 78 4 (.bool false) 1 := ⟨Try.underlying78, by kernel_rfl, rfl⟩
theorem etY : ET Try.prog 25 5 (.int .u8 0) 1 := ⟨Try.underlying25, by kernel_rfl, rfl⟩
abbrev OwI := OwG encI okI 3
abbrev OwB := OwG encB okB 4

/-- The block k, laid since w, holds the cells of a value of type t. -/
structure PRow (t : TypeId) (w w1 : World) (k : Nat) (cs : Array Value) : Prop where
  below : Below w.heap.size w w1
  row : w1.heap[k]? = some (.cells cs t (0, 0))
  lo : w.heap.size ≤ k
  lt : k < w1.heap.size
theorem PRow.new (t : TypeId) (w : World) (cs : Array Value) : PRow t w (w.alloc (.cells cs t)) w.heap.size cs :=
  ⟨(Below.refl _ _).alloc (Nat.le_refl _) _, heap_alloc_new w _, Nat.le_refl _, by rw [World.size_alloc]; omega⟩
theorem PRow.later {t : TypeId} {w w1 w2 : World} {k : Nat} {cs : Array Value} (h : PRow t w w1 k cs) (hb : Below w1.heap.size w1 w2) : PRow t w w2 k cs :=
  ⟨h.below.trans (hb.mono (Nat.le_trans h.lo (Nat.le_of_lt h.lt))), by rw [hb.block k h.lt]; exact h.row, h.lo, Nat.lt_of_lt_of_le h.lt hb.size⟩
theorem PRow.cell {t : TypeId} {w w1 : World} {k : Nat} {cs : Array Value} (h : PRow t w w1 k cs) (i : Nat) (v : Value) (hv : cs[i]? = some v) : w1.cell? ⟨k, i, none⟩ = some v := by
  simp only [World.cell?, h.row, hv]
  rfl
theorem PRow.set {t : TypeId} {w w1 : World} {k : Nat} {cs : Array Value} (h : PRow t w w1 k cs) (i : Nat) (v : Value) : PRow t w (w1.setCell ⟨k, i, none⟩ v) k (cs.setIfInBounds i v) :=
  ⟨h.below.setCell h.lo v, heap_setCell_same w1 k i cs t v h.row, h.lo, by have := h.lt; simpa [World.setCell] using this⟩
theorem PRow.free {t : TypeId} {w w1 : World} {k : Nat} {cs : Array Value} (h : PRow t w w1 k cs) (i : Nat) : w1.frozen? ⟨k, i, none⟩ = false := frozen_of_row w1 k i _ t h.row
theorem PRow.put {t : TypeId} {w w1 : World} {k : Nat} {cs : Array Value} (h : PRow t w w1 k cs) (cs' : Array Value) : PRow t w (w1.setRow k cs') k cs' :=
  ⟨below_set h.below h.lo _, setRow_heap _ _ _ _ _ _ h.row, h.lo, by rw [setRow_size]; exact h.lt⟩
theorem PRow.base {t : TypeId} {w0 w w1 : World} {k : Nat} {cs : Array Value} (h : PRow t w w1 k cs) (hb : Below w0.heap.size w0 w) : PRow t w0 w1 k cs := ⟨hb.trans (h.below.mono hb.size), h.row, Nat.le_trans hb.size h.lo, h.lt⟩
theorem PRow.other {t : TypeId} {w w1 : World} {k : Nat} {cs : Array Value} (h : PRow t w w1 k cs) {p : Addr} (hp : k ≠ p.block) (hl : w.heap.size ≤ p.block) (v : Value) : PRow t w (w1.setCell p v) k cs :=
  ⟨h.below.setCell hl v, (heap_setCell_other w1 p k v hp).trans h.row, h.lo, by have := h.lt; simpa [World.setCell] using this⟩

theorem PRow.keep {t : TypeId} {w w1 w2 : World} {k B : Nat} {cs : Array Value} (h : PRow t w w1 k cs) (hb : Below B w1 w2) (hk : k < B) (hB : w.heap.size ≤ B) : PRow t w w2 k cs :=
  ⟨h.below.trans (hb.mono hB), (hb.block k hk).trans h.row, h.lo, Nat.lt_of_lt_of_le h.lt hb.size⟩
theorem PRow.row2 {t : TypeId} {w w1 : World} {k g : Nat} {cs : Array Value} (h : PRow t w w1 k cs) (hk : k ≠ g) (hl : w.heap.size ≤ g) (cs' : Array Value) : PRow t w (w1.setRow g cs') k cs :=
  ⟨below_set h.below hl _, (setRow_other _ _ _ _ hk).trans h.row, h.lo, by rw [setRow_size]; exact h.lt⟩
theorem cell_set {w : World} {b i k j : Nat} {v : Value} (h : w.cell? ⟨b, i, none⟩ = some v) (hne : b ≠ k) (u : Value) : (w.setCell ⟨k, j, none⟩ u).cell? ⟨b, i, none⟩ = some v := by
  have := heap_setCell_other w ⟨k, j, none⟩ b u hne
  simp only [World.cell?] at h ⊢
  rw [this]
  exact h
end Go.Proofs.Ytlfempfhohejiaa
namespace Go.Suf
open Go.RowKit Go.Suf
open Go.Proofs.Ytlfempfhohejiaa
theorem Ow.keepH {k : IntKind} {e : TypeId} {base g : Nat} {w w' : World} {n cap : Nat} {xs : List Nat} (h : Ow k e base w (some ⟨g, 0, none⟩) n cap xs) (hh : w'.heap[g]? = w.heap[g]?) : Ow k e base w' (some ⟨g, 0, none⟩) n cap xs := by
  refine ⟨h.len, ⟨h.own.1, ?_⟩, h.bd⟩
  rcases h.own.2 with h2 | ⟨b, c, cur, hv, hg, hh2, r⟩
  · exact .inl h2
  · simp at hv
    obtain ⟨rfl, rfl⟩ := hv
    exact .inr ⟨g, cap, cur, rfl, hg, hh.trans hh2, r⟩
theorem OwG.keepH {α : Type} {enc : α → Value} {ok : α → Prop} {e : TypeId} {base g : Nat} {w w' : World} {n cap : Nat} {xs : List α} (h : OwG enc ok e base w (some ⟨g, 0, none⟩) n cap xs) (hh : w'.heap[g]? = w.heap[g]?) : OwG enc ok e base w' (some ⟨g, 0, none⟩) n cap xs := by
  refine ⟨h.len, ⟨h.own.1, ?_⟩, h.bd⟩
  rcases h.own.2 with h2 | ⟨b, c, cur, hv, hg, hh2, r⟩
  · exact .inl h2
  · simp at hv
    obtain ⟨rfl, rfl⟩ := hv
    exact .inr ⟨g, cap, cur, rfl, hg, hh.trans hh2, r⟩
end Go.Suf
namespace Go.Proofs.Ytlfempfhohejiaa
open Go.RowKit Go.Suf
theorem results_cell_two {P : Program} {fn : Func} {p u : Tmp} {ty : TypeId} (h : fn.results = #[.cell p ty, .tmp u]) (tmps : Array Value) (w : World) (g : Nat) (t : TypeId) (cs : Array Value) (fr : Nat × Nat) (d : TypeDesc)
    (hp : tmps.getD p undef = .pointer (some ⟨g, 0, none⟩)) (hg : w.heap[g]? = some (.cells cs t fr))
    (hu : P.underlying ty = some d) (hd : (match d with | .struct _ | .array _ _ => true | _ => false) = true) (hi : (P.info? ty).map (·.size) = some cs.size) (v : Value) (hv : tmps.getD u undef = v) :
    (results fn tmps).run P w = .ok (.tuple #[.agg cs, v]) w := by
  have hp' : tmps[p]?.getD undef = .pointer (some ⟨g, 0, none⟩) := by simpa using hp
  have hv' : tmps[u]?.getD undef = v := by simpa using hv
  simp [results, h, hp', hv', asAddr, run_loadVar_row w g t ty cs fr d hg hu hd hi, Sem.run_bind, Result.andThen]
theorem atShe : AT Try.prog 27 1 := ⟨⟨_, Try.underlying27, rfl⟩, by kernel_rfl⟩
theorem atRea : AT Try.prog 51 4 := ⟨⟨_, Try.underlying51, rfl⟩, by kernel_rfl⟩
theorem she_one (a : Option Addr) (n c : Nat) : ∀ u ∈ (#[.slice a n c] : Array Value).toList, u.oneCell' = true := by
  intro u hu
  simp at hu
  subst hu
  rfl
theorem rea_one (k o : Int) (a b : Option Addr) (n c m d : Nat) : ∀ u ∈ (#[.int .u8 k, .slice a n c, .int .i64 o, .slice b m d] : Array Value).toList, u.oneCell' = true := by
  intro u hu
  simp at hu
  rcases hu with rfl | rfl | rfl | rfl <;> rfl
/-- A new sheet and an error. -/
def RetSh (w : World) (r : List Nat × Int) : Ending → World → Prop := fun e w' =>
  ∃ a n c, e = .returned (.tuple #[.agg #[.slice a n c], .int .i64 r.2]) ∧ Ow .u8 5 w.heap.size w' a n c r.1 ∧ Below w.heap.size w w'
theorem RetSh.nils {w w1 : World} {r : List Nat × Int} {x : Int} (hr : r = ([], x)) (hb : Below w.heap.size w w1) : RetSh w r (.returned (.tuple #[.agg #[.slice none 0 0], .int .i64 x])) w1 := by
  subst hr
  exact ⟨none, 0, 0, rfl, Ow.nil _ _ _ _, hb⟩

/-- What a valid contest has. -/
theorem chk_rule {nm : ByteArray} {ss : List ByteArray} {seats : Int} {rule : Nat} (h : checkC nm ss seats rule = 0) : ss.length ≤ 10 ∧ 1 ≤ ss.length ∧ isR rule = true := by
  unfold checkC at h
  by_cases h1 : 10 < ss.length
  · rw [if_pos h1] at h; omega
  rw [if_neg h1] at h
  split at h
  · omega
  rename_i h2
  simp only [not_or, Bool.not_eq_true, Bool.not_eq_false] at h2
  obtain ⟨a1, a2, a3, a4, a5⟩ := h2
  refine ⟨by omega, by omega, ?_⟩
  cases hr : isR rule with
  | true => rfl
  | false =>
    have := (seats_zero rule).2 hr
    unfold fitsC at a5
    simp [this] at a5

/-- Boxes per candidate. -/
def wideN (k n : Nat) : Nat := if k = 1 then n else if k = 3 then 11 else 1
theorem wide_le {k n : Nat} (h : n ≤ 10) : wideN k n ≤ 11 := by
  unfold wideN
  split
  · omega
  split <;> omega
def boxesN (ss : List ByteArray) (rule : Nat) : Nat := ss.length * wideN (kindN rule) ss.length
def boxesC (nm : ByteArray) (ss : List ByteArray) (seats : Int) (rule : Nat) : Nat × Int := if checkC nm ss seats rule = 0 then (boxesN ss rule, 0) else (0, checkC nm ss seats rule)
def sheetC (nm : ByteArray) (ss : List ByteArray) (seats : Int) (rule : Nat) (xs : List Nat) : Int :=
  if checkC nm ss seats rule = 0 then (if xs.length = boxesN ss rule ∧ (xs.any fun x => decide (100 < x)) = false then 0 else 8) else checkC nm ss seats rule

theorem convY {w : World} {a : Option Addr} {n cap : Nat} {xs : List Nat} (h : Rd .u8 w a n cap xs) :
    Sem.run Try.prog (convert 25 9 (.slice a n cap)) w = .ok (.string (strB xs)) w :=
  conv_str h Try.underlying25 Try.underlying5 Try.underlying9

end Go.Proofs.Ytlfempfhohejiaa
