/- The program's Collect, Index, Contains; the reader's block; its marks. Conditions: the sizes of sheets. Printed by gen_shep.py. -/
import Derived.Test.YtlfempfhohejiaaSheO
namespace Go.Proofs.Ytlfempfhohejiaa
open Go.RowKit Go.Suf
set_option linter.unusedVariables false
set_option linter.unusedSimpArgs false

/-- slices.Collect over a column. -/
theorem Collect_any (b1 b2 rp g og j mc : Nat) (t1 t2 t3 t4 : TypeId) (rc gc : Array Value) (mk : List Bool) (n wd : Nat) (hn : n ≤ 1000) (hwd : wd ≤ 1000) (hjj : j ≤ 1000) (hb : ∀ i, i < n → i * wd + j < mk.length) (hlen : mk.length ≤ 1000000)
    (w : World) (hR : RowW w b1 b2 rp g og j mc t1 t2 t3 t4 rc gc mk n wd) :
    Calls Try.prog 76 #[.func (.func 80) #[] #[.pointer (some ⟨b1, 0, none⟩), .pointer (some ⟨b2, 0, none⟩)]] w (RetI w (colL mk wd j n).length (colL mk wd j n)) := by
  go_enter Try.func76, Try.ntmps76
  go_wp2_with fail
  refine (appSeq_any b1 b2 rp g og j mc t1 t2 t3 t4 rc gc mk n wd hn hwd hjj hb hlen w hR).mono ?_
  rintro e w1 ⟨a, c, rfl, ho, hB⟩
  have HO := Lib.hid ho
  have HB := Lib.hid hB
  clear ho hB
  go_wp2_with fail
  go_ret
  exact ⟨_, _, rfl, HO.out, HB.out⟩

/-- The first of n at which f holds, or -1. -/
def fstN (f : Nat → Bool) (n : Nat) : Int := fstI f n
set_option maxHeartbeats 1000000 in
theorem indexB_any (w : World) {a : Option Addr} {n cap : Nat} {xs : List Bool} (h : RdB w a n cap xs) :
    Calls Try.prog 74 #[.slice a n cap, .bool true] w fun e w' => e = .returned (.int .i64 (fstI (fun i => bth xs i) n)) ∧ w = w' := by
  have hn := h.lt
  go_enter Try.func74, Try.ntmps74
  go_wp2_with fail
  go_loop [8] (fun j => ∃ i, i ≤ n ∧ j = .int .i64 (i : Nat) ∧ Hid (∀ k, k < i → bth xs k = false)) (fun j => n - (intOf j).toNat)
  case atStart => exact ⟨0, by omega, rfl, Lib.hid fun k hk => absurd hk (by omega)⟩
  case round =>
    obtain ⟨i, hi, rfl, hS⟩ := hrel
    by_cases hlt : i < n
    · obtain ⟨b, off, rfl, hcc⟩ := h.addrB (by omega)
      have hc := hcc i hlt
      clear hcc
      cases hq : bth xs i
      · have HQ := Lib.hid hq
        rw [hq] at hc
        clear hq
        go_wp2
        go_round
        case rel => exact ⟨i + 1, by omega, by go_num, Lib.hid fun k hk => by
                      by_cases hki : k < i
                      · exact hS.out k hki
                      · obtain rfl : k = i := by omega
                        exact HQ.out⟩
        case measure => simp [intOf]; omega
      · have HQ := Lib.hid hq
        rw [hq] at hc
        clear hq
        go_wp2
        go_ret
        rw [fstI_at hlt HQ.out hS.out]
        exact ⟨rfl, rfl⟩
    · obtain rfl : i = n := by omega
      go_wp2
      go_ret
      rw [fstI_none hS.out]
      exact ⟨rfl, rfl⟩

theorem containsB_any (w : World) {a : Option Addr} {n cap : Nat} {xs : List Bool} (h : RdB w a n cap xs) :
    Calls Try.prog 75 #[.slice a n cap, .bool true] w fun e w' => e = .returned (.bool (decide (0 ≤ fstI (fun i => bth xs i) n))) ∧ w = w' := by
  go_enter Try.func75, Try.ntmps75
  go_wp2_with fail
  refine (indexB_any _ h).mono ?_
  rintro e w1 ⟨rfl, rfl⟩
  go_wp2
  go_ret
  exact ⟨rfl, rfl⟩

set_option maxHeartbeats 1000000 in
theorem indexI_any (w : World) {a : Option Addr} {n cap : Nat} {xs : List Int} (h : RdI w a n cap xs) (v : Int) :
    Calls Try.prog 81 #[.slice a n cap, .int .i64 v] w fun e w' => e = .returned (.int .i64 (fstI (fun i => decide (ith xs i = v)) n)) ∧ w = w' := by
  have hn := h.lt
  go_enter Try.func81, Try.ntmps81
  go_wp2_with fail
  go_loop [8] (fun j => ∃ i, i ≤ n ∧ j = .int .i64 (i : Nat) ∧ Hid (∀ k, k < i → decide (ith xs k = v) = false)) (fun j => n - (intOf j).toNat)
  case atStart => exact ⟨0, by omega, rfl, Lib.hid fun k hk => absurd hk (by omega)⟩
  case round =>
    obtain ⟨i, hi, rfl, hS⟩ := hrel
    by_cases hlt : i < n
    · obtain ⟨b, off, rfl, hcc⟩ := h.addrI (by omega)
      have hc := hcc i hlt
      clear hcc
      obtain ⟨x, hx⟩ : ∃ x, ith xs i = x := ⟨_, rfl⟩
      rw [hx] at hc
      have HX := Lib.hid hx
      clear hx
      by_cases e : x = v
      · subst e
        go_wp2
        go_ret
        rw [fstI_at hlt (by rw [HX.out]; simp) hS.out]
        exact ⟨rfl, rfl⟩
      · have e1 : (v == x) = false := by simp; exact fun h => e h.symm
        have HE := Lib.hid e
        clear e
        go_wp2
        go_round
        case rel => exact ⟨i + 1, by omega, by go_num, Lib.hid fun k hk => by
                      by_cases hki : k < i
                      · exact hS.out k hki
                      · obtain rfl : k = i := by omega
                        rw [HX.out]; simpa using HE.out⟩
        case measure => simp [intOf]; omega
    · obtain rfl : i = n := by omega
      go_wp2
      go_ret
      rw [fstI_none hS.out]
      exact ⟨rfl, rfl⟩

theorem containsI_any (w : World) {a : Option Addr} {n cap : Nat} {xs : List Int} (h : RdI w a n cap xs) (v : Int) :
    Calls Try.prog 73 #[.slice a n cap, .int .i64 v] w fun e w' => e = .returned (.bool (decide (0 ≤ fstI (fun i => decide (ith xs i = v)) n))) ∧ w = w' := by
  go_enter Try.func73, Try.ntmps73
  go_wp2_with fail
  refine (indexI_any _ h v).mono ?_
  rintro e w1 ⟨rfl, rfl⟩
  go_wp2
  go_ret
  exact ⟨rfl, rfl⟩

/-- The cells of a reader. -/
abbrev rdc (kd : Nat) (ms : Value) (ov : Int) (db : Value) (g N mc n wd : Nat) (mo sk : Int) : Array Value := #[.int .u8 ((kd : Nat) : Int), ms, .int .i64 ov, db, .slice (some ⟨g, 0, none⟩) N mc, .int .i64 ((n : Nat) : Int), .int .i64 ((wd : Nat) : Int), .int .i64 mo, .int .i64 sk]
/-- The marked boxes' block. -/
structure MkW (w : World) (g : Nat) (gc : Array Value) (mk : List Bool) : Prop where
  blk : w.heap[g]? = some (.cells gc 4 (0, 0))
  val : ∀ i, i < mk.length → gc[0 + i]? = some (.bool (bth mk i))
/-- But for block rp all lies as it lay. -/
def KeepX (rp : Nat) (w w' : World) : Prop := w.heap.size ≤ w'.heap.size ∧ ∀ k, k < w.heap.size → k ≠ rp → w'.heap[k]? = w.heap[k]?
theorem KeepX.refl (rp : Nat) (w : World) : KeepX rp w w := ⟨Nat.le_refl _, fun _ _ _ => rfl⟩
theorem KeepX.of {rp : Nat} {w w' : World} (h : Below w.heap.size w w') : KeepX rp w w' := ⟨h.size, fun k hk _ => h.block k hk⟩
theorem KeepX.trans {rp : Nat} {a b c : World} (h : KeepX rp a b) (k : KeepX rp b c) : KeepX rp a c := ⟨Nat.le_trans h.1 k.1, fun i hi hr => (k.2 i (Nat.lt_of_lt_of_le hi h.1) hr).trans (h.2 i hi hr)⟩
theorem KeepX.set {rp : Nat} {w w' : World} (h : KeepX rp w w') (i : Nat) (v : Value) : KeepX rp w (w'.setCell ⟨rp, i, none⟩ v) :=
  ⟨by have := h.1; simpa [World.setCell] using this, fun k hk hr => (heap_setCell_other w' ⟨rp, i, none⟩ k v hr).trans (h.2 k hk hr)⟩
theorem MkW.keep {rp g : Nat} {w w' : World} {gc : Array Value} {mk : List Bool} (h : MkW w g gc mk) (k : KeepX rp w w') (hne : g ≠ rp) : MkW w' g gc mk := ⟨(k.2 g (Array.getElem?_eq_some_iff.1 h.blk).1 hne).trans h.blk, h.val⟩
theorem MkW.ne {w0 w : World} {rp g : Nat} {gc cs : Array Value} {mk : List Bool} (h : MkW w g gc mk) (P : PRow 80 w0 w rp cs) : g ≠ rp := by
  rintro rfl
  have h1 := h.blk
  rw [P.row] at h1
  simp at h1
theorem PRow.rdrW {w0 w : World} {rp kd g mc n wd : Nat} {ms db : Value} {ov mo sk : Int} {gc : Array Value} {mk : List Bool} (P : PRow 80 w0 w rp (rdc kd ms ov db g mk.length mc n wd mo sk)) (h : MkW w g gc mk) :
    RdrW w rp g 0 mc 80 4 (rdc kd ms ov db g mk.length mc n wd mo sk) gc mk n wd := ⟨P.row, h.blk, rfl, rfl, rfl, h.val⟩
end Go.Proofs.Ytlfempfhohejiaa
namespace Go.Suf
open Go.RowKit Go.Suf
open Go.Proofs.Ytlfempfhohejiaa
set_option linter.unusedVariables false
set_option linter.unusedSimpArgs false
theorem OwG.setHi {α : Type} {enc : α → Value} {ok : α → Prop} {e t : TypeId} {base g i : Nat} {w : World} {a : Option Addr} {n cap : Nat} {xs : List α} {cs : Array Value} (h : OwG enc ok e base w a n cap xs) (hg : w.heap[g]? = some (.cells cs t (0, 0))) (hne : t ≠ e) (v : Value) : OwG enc ok e base (w.setCell ⟨g, i, none⟩ v) a n cap xs := by
  refine ⟨h.len, ⟨h.own.1, ?_⟩, h.bd⟩
  rcases h.own.2 with h2 | ⟨b, c, cur, hv, hb, hh, r⟩
  · exact .inl h2
  · refine .inr ⟨b, c, cur, hv, hb, (heap_setCell_other w ⟨g, i, none⟩ b v (fun e2 => ?_)).trans hh, r⟩
    have e3 : b = g := e2
    subst e3
    rw [hg] at hh
    simp at hh
    exact hne hh.2
end Go.Suf
namespace Go.Proofs.Ytlfempfhohejiaa
open Go.RowKit Go.Suf
set_option linter.unusedVariables false
set_option linter.unusedSimpArgs false
/-- What marks, ranks, scored leave behind. -/
def RetB (w0 w : World) (rp kd : Nat) (db : Value) (g N mc n wd : Nat) (mo sk : Int) (r : List Int × Int) : Ending → World → Prop := fun e w' =>
  e = .returned (.tuple #[]) ∧ ∃ a m c, PRow 80 w0 w' rp (rdc kd (.slice a m c) r.2 db g N mc n wd mo sk) ∧ OwI w.heap.size w' a m c r.1 ∧ KeepX rp w w'

set_option maxRecDepth 100000 in
set_option maxHeartbeats 2000000 in
theorem marks_any (w0 w : World) (rp kd g mc n : Nat) (db : Value) (mo sk : Int) (gc : Array Value) (mk : List Bool) (hn : n ≤ 1000) (hN : mk.length = n) (hw0 : w0.heap.size ≤ w.heap.size)
    (P : PRow 80 w0 w rp (rdc kd (.slice none 0 0) 0 db g mk.length mc n 1 mo sk)) (M : MkW w g gc mk) :
    Calls Try.prog 57 #[.pointer (some ⟨rp, 0, none⟩)] w (RetB w0 w rp kd db g mk.length mc n 1 mo sk (marksR mk mo)) := by
  obtain ⟨r, hr⟩ : ∃ r, marksR mk mo = r := ⟨_, rfl⟩
  rw [hr]
  unfold marksR at hr
  have HR := Lib.hid hr
  have HN := Lib.hid hN
  clear hr hN
  have hne := M.ne P
  go_enter Try.func57, Try.ntmps57
  go_wp2_with fail
  refine (row_any _ rp 0).mono ?_
  rintro e w1 ⟨rfl, hw1⟩
  have hR1 := (P.rdrW M).rowW 0
  rw [show ((0 : Nat) : Int) = 0 from rfl, ← hw1] at hR1
  have hB1 : Below w.heap.size w w1 := by rw [hw1]; exact ((Below.refl _ _).alloc (Nat.le_refl _) _).alloc (by simp) _
  clear hw1
  have P1 := P.later hB1
  go_wp2_with fail
  refine (Collect_any _ _ rp g 0 0 mc _ _ _ _ _ gc mk n 1 hn (by omega) (by omega) (by intro i hi; have := HN.out; omega) (by have := HN.out; omega) w1 hR1).mono ?_
  rintro e w2 ⟨a, c, rfl, ho, hB2⟩
  have P2 := P1.later hB2
  have HO := Lib.hid (ho.base_le (base' := w.heap.size) hB1.size)
  have HK := Lib.hid ((KeepX.of (rp := rp) hB1).trans (KeepX.of hB2))
  clear ho hB1 hB2 P P1 hR1 M
  obtain ⟨l, hl⟩ : ∃ l, colL mk 1 0 n = l := ⟨_, rfl⟩
  rw [hl] at HO ⊢
  have HL := Lib.hid hl
  have hll : l.length ≤ 1000 := by rw [← hl]; exact Nat.le_trans (colL_le _ _ _ _) hn
  clear hl
  have k1 := P2.cell 1 (.slice none 0 0) rfl
  have f1 := P2.free 1
  go_wp2_with fail
  have P3 := P2.set 1 (.slice a l.length c)
  have HO3 := Lib.hid (HO.out.setHi P2.row (by decide) (.slice a l.length c) (i := 1))
  have HK3 := Lib.hid (HK.out.set 1 (.slice a l.length c))
  clear k1 f1 HO HK
  generalize w2.setCell ⟨rp, 1, none⟩ (.slice a l.length c) = w3 at P3 HO3 HK3 ⊢
  clear P2
  have hb := (Below.refl w3.heap.size w3).drew
  have P4 := P3.later hb
  have HO4 := Lib.hid (HO3.out.below hb)
  have HK4 := Lib.hid (HK3.out.trans (KeepX.of hb))
  clear P3 HO3 HK3 hb
  have k1 := P4.cell 1 (.slice a l.length c) rfl
  have k2 := P4.cell 2 (.int .i64 0) rfl
  have k7 := P4.cell 7 (.int .i64 mo) rfl
  have f1 := P4.free 1
  have f2 := P4.free 2
  refine wp_region_held_drew (S := (fun v => v.cell? ⟨rp, 1, none⟩ = some (.slice a l.length c) ∧ v.cell? ⟨rp, 7, none⟩ = some (.int .i64 mo))) (by kernel_rfl) ?_ (fun hHeld => ?_)
  · exact ⟨k1, k7⟩
  generalize w3.drew = w4 at *
  refine wpAnyH_take (i := 0) (oi := ?oir0_0) (v := ?vr0_0) ?hir0_0 (by kernel_rfl) (by kernel_rfl) (by kernel_rfl) ?hqr0_0 ?hyr0_0 (by assumption) ?restr0_0
  case hir0_0 => simp only [List.getElem?_toArray, List.getElem?_cons_succ, List.getElem?_cons_zero]; rfl
  case hqr0_0 => exact fun _ _ _ h => h
  case hyr0_0 => (refine Or.inl ⟨by rfl, ?_⟩; intro w hSw; (try dsimp only at hSw); go_simp; all_goals with_reducible rfl)
  try simp only [Act.put, List.setIfInBounds_toArray, List.set_cons_zero, List.set_cons_succ]
  refine wpAnyH_take (i := 1) (oi := ?oir0_1) (v := ?vr0_1) ?hir0_1 (by kernel_rfl) (by kernel_rfl) (by kernel_rfl) ?hqr0_1 ?hyr0_1 (by assumption) ?restr0_1
  case hir0_1 => simp only [List.getElem?_toArray, List.getElem?_cons_succ, List.getElem?_cons_zero]; rfl
  case hqr0_1 => exact fun _ _ _ h => h
  case hyr0_1 => (refine Or.inl ⟨by rfl, ?_⟩; intro w hSw; (try dsimp only at hSw); go_simp; all_goals with_reducible rfl)
  try simp only [Act.put, List.setIfInBounds_toArray, List.set_cons_zero, List.set_cons_succ]
  refine wpAnyH_take (i := 2) (oi := ?oir0_2) (v := ?vr0_2) ?hir0_2 (by kernel_rfl) (by kernel_rfl) (by kernel_rfl) ?hqr0_2 ?hyr0_2 (by assumption) ?restr0_2
  case hir0_2 => simp only [List.getElem?_toArray, List.getElem?_cons_succ, List.getElem?_cons_zero]; rfl
  case hqr0_2 => exact fun _ _ _ h => h
  case hyr0_2 => (refine Or.inl ⟨by rfl, ?_⟩; intro w hSw; (try dsimp only at hSw); go_simp; all_goals with_reducible rfl)
  try simp only [Act.put, List.setIfInBounds_toArray, List.set_cons_zero, List.set_cons_succ]
  refine wpAnyH_take (i := 3) (oi := ?oir0_3) (v := ?vr0_3) ?hir0_3 (by kernel_rfl) (by kernel_rfl) (by kernel_rfl) ?hqr0_3 ?hyr0_3 (by assumption) ?restr0_3
  case hir0_3 => simp only [List.getElem?_toArray, List.getElem?_cons_succ, List.getElem?_cons_zero]; rfl
  case hqr0_3 => exact fun _ _ _ h => h
  case hyr0_3 => (refine Or.inl ⟨by rfl, ?_⟩; intro w hSw; (try dsimp only at hSw); go_simp; all_goals with_reducible rfl)
  try simp only [Act.put, List.setIfInBounds_toArray, List.set_cons_zero, List.set_cons_succ]
  refine wpAnyH_take (i := 4) (oi := ?oir0_4) (v := ?vr0_4) ?hir0_4 (by kernel_rfl) (by kernel_rfl) (by kernel_rfl) ?hqr0_4 ?hyr0_4 (by assumption) ?restr0_4
  case hir0_4 => simp only [List.getElem?_toArray, List.getElem?_cons_succ, List.getElem?_cons_zero]; rfl
  case hqr0_4 => exact fun _ _ _ h => h
  case hyr0_4 => (refine Or.inl ⟨by rfl, ?_⟩; intro w hSw; (try dsimp only at hSw); go_simp; all_goals with_reducible rfl)
  try simp only [Act.put, List.setIfInBounds_toArray, List.set_cons_zero, List.set_cons_succ]
  refine wpAnyH_take (i := 5) (oi := ?oir0_5) (v := ?vr0_5) ?hir0_5 (by kernel_rfl) (by kernel_rfl) (by kernel_rfl) ?hqr0_5 ?hyr0_5 (by assumption) ?restr0_5
  case hir0_5 => simp only [List.getElem?_toArray, List.getElem?_cons_succ, List.getElem?_cons_zero]; rfl
  case hqr0_5 => exact fun _ _ _ h => h
  case hyr0_5 => (refine Or.inl ⟨by rfl, ?_⟩; intro w hSw; (try dsimp only at hSw); go_simp; all_goals with_reducible rfl)
  try simp only [Act.put, List.setIfInBounds_toArray, List.set_cons_zero, List.set_cons_succ]
  refine wpAnyH_take (i := 6) (oi := ?oir0_6) (v := ?vr0_6) ?hir0_6 (by kernel_rfl) (by kernel_rfl) (by kernel_rfl) ?hqr0_6 ?hyr0_6 (by assumption) ?restr0_6
  case hir0_6 => simp only [List.getElem?_toArray, List.getElem?_cons_succ, List.getElem?_cons_zero]; rfl
  case hqr0_6 => exact fun _ _ _ h => h
  case hyr0_6 => (refine Or.inl ⟨by rfl, ?_⟩; intro w hSw; (try dsimp only at hSw); go_simp; all_goals with_reducible rfl)
  try simp only [Act.put, List.setIfInBounds_toArray, List.set_cons_zero, List.set_cons_succ]
  refine wpAnyH_take (i := 7) (oi := ?oir0_7) (v := ?vr0_7) ?hir0_7 (by kernel_rfl) (by kernel_rfl) (by kernel_rfl) ?hqr0_7 ?hyr0_7 (by assumption) ?restr0_7
  case hir0_7 => simp only [List.getElem?_toArray, List.getElem?_cons_succ, List.getElem?_cons_zero]; rfl
  case hqr0_7 => exact fun _ _ _ h => h
  case hyr0_7 => (refine Or.inl ⟨by rfl, ?_⟩; intro w hSw; (try dsimp only at hSw); go_simp; all_goals with_reducible rfl)
  try simp only [Act.put, List.setIfInBounds_toArray, List.set_cons_zero, List.set_cons_succ]
  refine wpAnyH_take (i := 8) (oi := ?oir0_8) (v := ?vr0_8) ?hir0_8 (by kernel_rfl) (by kernel_rfl) (by kernel_rfl) ?hqr0_8 ?hyr0_8 (by assumption) ?restr0_8
  case hir0_8 => simp only [List.getElem?_toArray, List.getElem?_cons_succ, List.getElem?_cons_zero]; rfl
  case hqr0_8 => exact fun _ _ _ h => h
  case hyr0_8 => (refine Or.inl ⟨by rfl, ?_⟩; intro w hSw; (try dsimp only at hSw); go_simp; all_goals with_reducible rfl)
  try simp only [Act.put, List.setIfInBounds_toArray, List.set_cons_zero, List.set_cons_succ]
  refine wpAnyH_take (i := 9) (oi := ?oir0_9) (v := ?vr0_9) ?hir0_9 (by kernel_rfl) (by kernel_rfl) (by kernel_rfl) ?hqr0_9 ?hyr0_9 (by assumption) ?restr0_9
  case hir0_9 => simp only [List.getElem?_toArray, List.getElem?_cons_succ, List.getElem?_cons_zero]; rfl
  case hqr0_9 => exact fun _ _ _ h => h
  case hyr0_9 => (refine Or.inl ⟨by rfl, ?_⟩; intro w hSw; (try dsimp only at hSw); go_simp; all_goals with_reducible rfl)
  try simp only [Act.put, List.setIfInBounds_toArray, List.set_cons_zero, List.set_cons_succ]
  refine wpAnyH_take (i := 10) (oi := ?oir0_10) (v := ?vr0_10) ?hir0_10 (by kernel_rfl) (by kernel_rfl) (by kernel_rfl) ?hqr0_10 ?hyr0_10 (by assumption) ?restr0_10
  case hir0_10 => simp only [List.getElem?_toArray, List.getElem?_cons_succ, List.getElem?_cons_zero]; rfl
  case hqr0_10 => exact fun _ _ _ h => h
  case hyr0_10 => (refine Or.inl ⟨by rfl, ?_⟩; intro w hSw; (try dsimp only at hSw); go_simp; all_goals with_reducible rfl)
  try simp only [Act.put, List.setIfInBounds_toArray, List.set_cons_zero, List.set_cons_succ]
  refine wpAnyH_take (i := 11) (oi := ?oir0_11) (v := ?vr0_11) ?hir0_11 (by kernel_rfl) (by kernel_rfl) (by kernel_rfl) ?hqr0_11 ?hyr0_11 (by assumption) ?restr0_11
  case hir0_11 => simp only [List.getElem?_toArray, List.getElem?_cons_succ, List.getElem?_cons_zero]; rfl
  case hqr0_11 => exact fun _ _ _ h => h
  case hyr0_11 => (refine Or.inl ⟨by rfl, ?_⟩; intro w hSw; (try dsimp only at hSw); go_simp; all_goals with_reducible rfl)
  try simp only [Act.put, List.setIfInBounds_toArray, List.set_cons_zero, List.set_cons_succ]
  refine wpAnyH_done (by kernel_rfl) ?_ _
  by_cases hgt : mo < ((l.length : Nat) : Int)
  · have hgd : decide (((l.length : Nat) : Int) > mo) = true := by simpa using hgt
    have HG := Lib.hid hgt
    clear hHeld
    go_wp2_with fail
    have P5 := (P4.set 1 (.slice none 0 0)).set 2 (.int .i64 1)
    go_end0
    refine ⟨rfl, none, 0, 0, ?_, ?_, (HK4.out.set 1 _).set 2 _⟩
    · have e := HR.out
      rw [HN.out, HL.out, if_pos HG.out] at e
      rw [← e]
      exact P5
    · have e := HR.out
      rw [HN.out, HL.out, if_pos HG.out] at e
      rw [← e]
      exact OwG.nil _ _ _ _ _
  · have hgd : decide (((l.length : Nat) : Int) > mo) = false := by simp; omega
    have HG := Lib.hid hgt
    clear hHeld
    go_wp2_with fail
    go_end0
    have e := HR.out
    rw [HN.out, HL.out, if_neg (by have := HG.out; omega)] at e
    refine ⟨rfl, a, l.length, c, ?_, ?_, HK4.out⟩
    · rw [← e]; exact P4
    · rw [← e]; exact HO4.out

end Go.Proofs.Ytlfempfhohejiaa
