/- Parts of rows; valid ballots, in the program and in the answer. No condition but small numbers of candidates. Printed by gen_shec.py. -/
import Derived.Test.YthpjnbnheagpiaaSheA
import Derived.BigQuiet
import Derived.Deep.CutRange
namespace Go.Suf
open Go.RowKit
set_option linter.unusedVariables false
set_option linter.unusedSimpArgs false

section
variable {α : Type} {enc : α → Value} {ok : α → Prop} {w : World} {a : Option Addr} {n cap : Nat} {xs : List α}
theorem sliced_rdG (d : α) (h : RdG enc ok w a n cap xs) (l j m : Nat) (hlj : l ≤ j) (hj : j ≤ n) (hjm : j ≤ m) (hm : m ≤ cap) :
    ∃ a', sliced a l j m 1 = .slice a' (j - l) (m - l) ∧ RdG enc ok w a' (j - l) (m - l) ((xs.take j).drop l) := by
  have hl := h.len
  have hmax := h.sl.max
  refine ⟨_, rfl, ?_⟩
  by_cases he : l < j
  · obtain ⟨b, off, rfl, _⟩ := h.addr d (by omega)
    rw [if_neg (by omega)]
    have : (⟨b, off, none⟩ : Addr).add (l * 1) = ⟨b, off + l, none⟩ := by unfold Addr.add; split <;> simp_all
    simp only [Option.map_some, this]
    refine ⟨by simp; omega, ?_, fun x hx => h.bd x (List.mem_of_mem_take (List.mem_of_mem_drop hx))⟩
    have hp := h.sl.part l j m hlj (by rw [List.length_map]; omega) hjm hm (off + l) (fun _ => rfl)
    have e : ((xs.take j).drop l).map enc = ((xs.map enc).take j).drop l := by simp [List.map_take, List.map_drop]
    rw [e]
    exact hp
  · obtain rfl : l = j := by omega
    have e : (xs.take l).drop l = [] := List.drop_eq_nil_of_le (by simp; omega)
    rw [e]
    refine ⟨by simp, Sl.empty _ _ _ (by omega) (fun hn => ?_), fun x hx => by simp at hx⟩
    have : a = none := by
      split at hn
      · exact hn
      · simpa using hn
    have := h.sl.nil this
    omega

theorem run_uptoG (d : α) {P : Program} {t e : TypeId} {z : Value} {bs : Nat} (T : ET P t e z bs) (h : RdG enc ok w a n cap xs) (j : Nat) (hj : j ≤ n) :
    ∃ a', RdG enc ok w a' j cap (xs.take j) ∧ (∀ W, (Instr.sliceAt t (.slice a n cap) none (some (.int .i64 (j : Int))) none).run P W = .ok (.slice a' j cap) W) ∧
      (∀ W, (Instr.slice t (.slice a n cap) none (some (.int .i64 (j : Int))) none).run P W = .ok (.slice a' j cap) W) := by
  have ht' : P.underlying t = some (.slice (P.elem t)) := by rw [elem_of T]; exact T.ht
  have hle := h.le
  obtain ⟨a', e1, hr⟩ := sliced_rdG d h 0 j cap (Nat.zero_le _) hj (by omega) (Nat.le_refl _)
  simp only [Nat.sub_zero, List.drop_zero] at e1 hr
  have hrun : ∀ W, (Instr.slice t (.slice a n cap) none (some (.int .i64 (j : Int))) none).run P W = .ok (.slice a' j cap) W := by
    intro W
    rw [run_slice_h W t a n cap ht' .i64 j (by omega) (by omega), elem_of T, run_sizeOf1 T]
    simp [e1]
  exact ⟨a', hr, fun W => by rw [run_sliceAt_slice W t _ _ _ _ ht']; exact hrun W, hrun⟩

theorem run_fromG (d : α) {P : Program} {t e : TypeId} {z : Value} {bs : Nat} (T : ET P t e z bs) (h : RdG enc ok w a n cap xs) (i : Nat) (hi : i ≤ n) :
    ∃ a', RdG enc ok w a' (n - i) (cap - i) (xs.drop i) ∧ (∀ W, (Instr.sliceAt t (.slice a n cap) (some (.int .i64 (i : Int))) none none).run P W = .ok (.slice a' (n - i) (cap - i)) W) ∧
      (∀ W, (Instr.slice t (.slice a n cap) (some (.int .i64 (i : Int))) none none).run P W = .ok (.slice a' (n - i) (cap - i)) W) := by
  have ht' : P.underlying t = some (.slice (P.elem t)) := by rw [elem_of T]; exact T.ht
  have hle := h.le
  obtain ⟨a', e1, hr⟩ := sliced_rdG d h i n cap hi (Nat.le_refl _) (by omega) (Nat.le_refl _)
  rw [List.take_of_length_le (by have := h.len; omega)] at hr
  have hrun : ∀ W, (Instr.slice t (.slice a n cap) (some (.int .i64 (i : Int))) none none).run P W = .ok (.slice a' (n - i) (cap - i)) W := by
    intro W
    rw [run_slice_l W t a n cap ht' .i64 i (by omega) (by omega), elem_of T, run_sizeOf1 T]
    simp [e1]
  exact ⟨a', hr, fun W => by rw [run_sliceAt_slice W t _ _ _ _ ht']; exact hrun W, hrun⟩

theorem run_partG (d : α) {P : Program} {t e : TypeId} {z : Value} {bs : Nat} (T : ET P t e z bs) (h : RdG enc ok w a n cap xs) (i j : Nat) (hij : i ≤ j) (hj : j ≤ n) :
    ∃ a', RdG enc ok w a' (j - i) (cap - i) ((xs.take j).drop i) ∧ (∀ W, (Instr.sliceAt t (.slice a n cap) (some (.int .i64 (i : Int))) (some (.int .i64 (j : Int))) none).run P W = .ok (.slice a' (j - i) (cap - i)) W) ∧
      (∀ W, (Instr.slice t (.slice a n cap) (some (.int .i64 (i : Int))) (some (.int .i64 (j : Int))) none).run P W = .ok (.slice a' (j - i) (cap - i)) W) := by
  have ht' : P.underlying t = some (.slice (P.elem t)) := by rw [elem_of T]; exact T.ht
  have hle := h.le
  obtain ⟨a', e1, hr⟩ := sliced_rdG d h i j cap hij hj (by omega) (Nat.le_refl _)
  have hrun : ∀ W, (Instr.slice t (.slice a n cap) (some (.int .i64 (i : Int))) (some (.int .i64 (j : Int))) none).run P W = .ok (.slice a' (j - i) (cap - i)) W := by
    intro W
    rw [run_slice_lh W t a n cap ht' .i64 .i64 i j (by omega) (by omega) (by omega), elem_of T, run_sizeOf1 T]
    simp [e1]
  exact ⟨a', hr, fun W => by rw [run_sliceAt_slice W t _ _ _ _ ht']; exact hrun W, hrun⟩
end
end Go.Suf
namespace Go.Proofs.Ythpjnbnheagpiaa
open Go.RowKit Go.Suf
set_option linter.unusedVariables false
set_option linter.unusedSimpArgs false

/-- A number stands among the first i. -/
def inI (xs : List Int) (i : Nat) (v : Int) : Bool := decide (∃ k, k < i ∧ ith xs k = v)
instance : ∀ (xs : List Int) (i : Nat) (v : Int), Decidable (∃ k, k < i ∧ ith xs k = v) := fun xs i v => inferInstance
theorem inI_no {xs : List Int} {i : Nat} {v : Int} (h : ∀ k, k < i → ¬ ith xs k = v) : inI xs i v = false := decide_eq_false fun ⟨k, hk, e⟩ => h k hk e
theorem inI_yes {xs : List Int} {i k : Nat} {v : Int} (hk : k < i) (h : ith xs k = v) : inI xs i v = true := decide_eq_true ⟨k, hk, h⟩

theorem isNaN_any (w : World) (x : Int) : Calls Try.prog 92 #[.int .i64 x] w fun e w' => e = .returned (.bool false) ∧ w = w' := by
  go_enter Try.func92, Try.ntmps92
  go_wp2
  go_ret
  exact ⟨by simp, rfl⟩

theorem less_any (w : World) (x y : Int) : Calls Try.prog 79 #[.int .i64 x, .int .i64 y] w fun e w' => e = .returned (.bool (decide (x < y))) ∧ w = w' := by
  go_enter Try.func79, Try.ntmps79
  go_wp2_with fail
  refine (isNaN_any _ x).mono ?_
  rintro e w1 ⟨rfl, hw⟩
  subst hw
  go_wp2_with fail
  go_ret
  exact ⟨rfl, rfl⟩

/-- In order, equal ones allowed. -/
def sortI (xs : List Int) : Bool := decide (∀ j, j < xs.length → j + 1 < xs.length → ith xs j ≤ ith xs (j + 1))

set_option maxRecDepth 100000 in
set_option maxHeartbeats 2000000 in
theorem sorted_any (w : World) {a : Option Addr} {n cap : Nat} {xs : List Int} (h : RdI w a n cap xs) :
    Calls Try.prog 66 #[.slice a n cap] w fun e w' => e = .returned (.bool (sortI xs)) ∧ Below w.heap.size w w' := by
  have hn := h.lt
  have HL := Lib.hid h.len
  obtain ⟨r, hr⟩ : ∃ r, sortI xs = r := ⟨_, rfl⟩
  rw [hr]
  have HR := Lib.hid hr
  clear hr
  go_enter Try.func66, Try.ntmps66
  go_wp2_with fail
  go_loopw [3] (fun j wr => ∃ z : Int, -1 ≤ z ∧ z ≤ (n : Int) - 1 ∧ j = .int .i64 z ∧ Below w.heap.size w wr ∧ Hid (∀ k : Nat, z ≤ k → k + 1 < n → ith xs k ≤ ith xs (k + 1))) (fun j _ => (intOf j + 1).toNat)
  case atStart => exact ⟨(n : Int) - 1, by omega, by omega, rfl, Below.refl _ _, Lib.hid fun k h1 h2 => absurd h2 (by omega)⟩
  case round =>
    rename World => wr
    obtain ⟨z, hz1, hz2, rfl, hb, hS⟩ := hrel
    by_cases hpos : 0 < z
    case pos =>
      obtain ⟨i, rfl⟩ : ∃ i : Nat, z = (i : Int) + 1 := ⟨(z - 1).toNat, by omega⟩
      obtain ⟨b, off, rfl, hc⟩ := (h.below hb).addrI (by omega)
      have c0 := hc i (by omega)
      have c1 := hc (i + 1) (by omega)
      clear hc
      obtain ⟨x, hx⟩ : ∃ x, ith xs i = x := ⟨_, rfl⟩
      obtain ⟨y, hy⟩ : ∃ y, ith xs (i + 1) = y := ⟨_, rfl⟩
      rw [hx] at c0
      rw [hy] at c1
      have HX := Lib.hid hx
      have HY := Lib.hid hy
      clear hx hy
      have hw1 : IntKind.i64.wrap (((i : Nat) : Int) + 1 - 1) = ((i : Nat) : Int) := (congrArg IntKind.i64.wrap (by omega)).trans (wrap_in (by omega) (by omega))
      have hw2 : IntKind.i64.wrap ((i : Nat) : Int) = ((i : Nat) : Int) := wrap_in (by omega) (by omega)
      have hi1 : i + 1 < n := by omega
      have hi2 : i < n := by omega
      have hx1 : (0 : Int) ≤ ((i : Nat) : Int) + 1 := by omega
      have hx2 : ((i : Nat) : Int) + 1 < ((n : Nat) : Int) := by omega
      go_upto_region 4 with fail
      have B100 := hb
      clear hb
      have hb := (Below.refl wr.heap.size wr).drew
      replace c0 := cell_below hb c0
      replace c1 := cell_below hb c1
      have B101 := B100.trans (hb.mono B100.size)
      clear hb B100
      refine wp_region_held_drew (S := (fun w' => w'.cell? ⟨b, off + i, none⟩ = some (.int .i64 x) ∧ w'.cell? ⟨b, off + (i + 1), none⟩ = some (.int .i64 y) ∧ True)) (by kernel_rfl) ?_ (fun hHeld => ?_)
      · exact ⟨c0, c1, trivial⟩
      generalize wr.drew = w101 at *
      refine wpAnyH_take (i := 0) (oi := ?oir1_0) (v := ?vr1_0) ?hir1_0 (by kernel_rfl) (by kernel_rfl) (by kernel_rfl) ?hqr1_0 ?hyr1_0 (by assumption) ?restr1_0
      case hir1_0 => simp only [List.getElem?_toArray, List.getElem?_cons_succ, List.getElem?_cons_zero]; rfl
      case hqr1_0 => exact fun _ _ _ h => h
      case hyr1_0 => (refine Or.inl ⟨by rfl, ?_⟩; intro w hSw; (try dsimp only at hSw); go_simp; all_goals with_reducible rfl)
      try simp only [Act.put, List.setIfInBounds_toArray, List.set_cons_zero, List.set_cons_succ]
      refine wpAnyH_take (i := 1) (oi := ?oir1_1) (v := ?vr1_1) ?hir1_1 (by kernel_rfl) (by kernel_rfl) (by kernel_rfl) ?hqr1_1 ?hyr1_1 (by assumption) ?restr1_1
      case hir1_1 => simp only [List.getElem?_toArray, List.getElem?_cons_succ, List.getElem?_cons_zero]; rfl
      case hqr1_1 => exact fun _ _ _ h => h
      case hyr1_1 => (refine Or.inl ⟨by rfl, ?_⟩; intro w hSw; (try dsimp only at hSw); go_simp; all_goals with_reducible rfl)
      try simp only [Act.put, List.setIfInBounds_toArray, List.set_cons_zero, List.set_cons_succ]
      refine wpAnyH_take (i := 2) (oi := ?oir1_2) (v := ?vr1_2) ?hir1_2 (by kernel_rfl) (by kernel_rfl) (by kernel_rfl) ?hqr1_2 ?hyr1_2 (by assumption) ?restr1_2
      case hir1_2 => simp only [List.getElem?_toArray, List.getElem?_cons_succ, List.getElem?_cons_zero]; rfl
      case hqr1_2 => exact fun _ _ _ h => h
      case hyr1_2 => (refine Or.inl ⟨by rfl, ?_⟩; intro w hSw; (try dsimp only at hSw); go_simp; all_goals with_reducible rfl)
      try simp only [Act.put, List.setIfInBounds_toArray, List.set_cons_zero, List.set_cons_succ]
      refine wpAnyH_take (i := 3) (oi := ?oir1_3) (v := ?vr1_3) ?hir1_3 (by kernel_rfl) (by kernel_rfl) (by kernel_rfl) ?hqr1_3 ?hyr1_3 (by assumption) ?restr1_3
      case hir1_3 => simp only [List.getElem?_toArray, List.getElem?_cons_succ, List.getElem?_cons_zero]; rfl
      case hqr1_3 => exact fun _ _ _ h => h
      case hyr1_3 => (refine Or.inl ⟨by rfl, ?_⟩; intro w hSw; (try dsimp only at hSw); go_simp; all_goals with_reducible rfl)
      try simp only [Act.put, List.setIfInBounds_toArray, List.set_cons_zero, List.set_cons_succ]
      refine wpAnyH_take (i := 4) (oi := ?oir1_4) (v := ?vr1_4) ?hir1_4 (by kernel_rfl) (by kernel_rfl) (by kernel_rfl) ?hqr1_4 ?hyr1_4 (by assumption) ?restr1_4
      case hir1_4 => simp only [List.getElem?_toArray, List.getElem?_cons_succ, List.getElem?_cons_zero]; rfl
      case hqr1_4 => exact fun _ _ _ h => h
      case hyr1_4 => (refine Or.inl ⟨by rfl, ?_⟩; intro w hSw; (try dsimp only at hSw); go_simp; all_goals with_reducible rfl)
      try simp only [Act.put, List.setIfInBounds_toArray, List.set_cons_zero, List.set_cons_succ]
      refine wpAnyH_take (i := 5) (oi := ?oir1_5) (v := ?vr1_5) ?hir1_5 (by kernel_rfl) (by kernel_rfl) (by kernel_rfl) ?hqr1_5 ?hyr1_5 (by assumption) ?restr1_5
      case hir1_5 => simp only [List.getElem?_toArray, List.getElem?_cons_succ, List.getElem?_cons_zero]; rfl
      case hqr1_5 => exact fun _ _ _ h => h
      case hyr1_5 => (refine Or.inl ⟨by rfl, ?_⟩; intro w hSw; (try dsimp only at hSw); go_simp; all_goals with_reducible rfl)
      try simp only [Act.put, List.setIfInBounds_toArray, List.set_cons_zero, List.set_cons_succ]
      refine wpAnyH_take (i := 6) (oi := ?oir1_6) (v := ?vr1_6) ?hir1_6 (by kernel_rfl) (by kernel_rfl) (by kernel_rfl) ?hqr1_6 ?hyr1_6 (by assumption) ?restr1_6
      case hir1_6 => simp only [List.getElem?_toArray, List.getElem?_cons_succ, List.getElem?_cons_zero]; rfl
      case hqr1_6 => exact fun _ _ _ h => h
      case hyr1_6 => (refine Or.inl ⟨by rfl, ?_⟩; intro w hSw; (try dsimp only at hSw); go_simp; all_goals with_reducible rfl)
      try simp only [Act.put, List.setIfInBounds_toArray, List.set_cons_zero, List.set_cons_succ]
      refine wpAnyH_take (i := 7) (oi := ?oir1_7) (v := ?vr1_7) ?hir1_7 (by kernel_rfl) (by kernel_rfl) (by kernel_rfl) ?hqr1_7 ?hyr1_7 (by assumption) ?restr1_7
      case hir1_7 => simp only [List.getElem?_toArray, List.getElem?_cons_succ, List.getElem?_cons_zero]; rfl
      case hqr1_7 => exact fun _ _ _ h => h
      case hyr1_7 => (refine Or.inl ⟨by rfl, ?_⟩; intro w hSw; (try dsimp only at hSw); go_simp; all_goals with_reducible rfl)
      try simp only [Act.put, List.setIfInBounds_toArray, List.set_cons_zero, List.set_cons_succ]
      refine wpAnyH_take (i := 8) (oi := ?oir1_8) (v := ?vr1_8) ?hir1_8 (by kernel_rfl) (by kernel_rfl) (by kernel_rfl) ?hqr1_8 ?hyr1_8 (by assumption) ?restr1_8
      case hir1_8 => simp only [List.getElem?_toArray, List.getElem?_cons_succ, List.getElem?_cons_zero]; rfl
      case hqr1_8 => exact fun _ _ _ h => h
      case hyr1_8 => (refine Or.inl ⟨by rfl, ?_⟩; intro w hSw; (try dsimp only at hSw); go_simp; all_goals with_reducible rfl)
      try simp only [Act.put, List.setIfInBounds_toArray, List.set_cons_zero, List.set_cons_succ]
      refine wpAnyH_ready (rs := [9]) (by kernel_rfl) (by simp) ?_
      refine AllReadyH.cons (o := ?or2_9) ?hor2_9 (fun K hK => ?kr2_9) AllReadyH.nil
      case hor2_9 => simp only [List.getElem?_toArray, List.getElem?_cons_succ, List.getElem?_cons_zero]; rfl
      go_simp
      refine (less_any _ y x).mono ?_
      rintro e w9 ⟨rfl, hw9⟩
      subst hw9
      go_wp2_with fail
      clear hHeld
      refine hK.out _ _ ?_ (fun hHeld => ?_)
      · exact ⟨c0, c1, trivial⟩
      clear hK K
      try simp only [Act.put, List.setIfInBounds_toArray, List.set_cons_zero, List.set_cons_succ]
      refine wpAnyH_done (by kernel_rfl) ?_ _
      clear hHeld c0 c1
      have hB := B101
      by_cases g : y < x
      case pos =>
        have HF := Lib.hid (show r = false by rw [← HR.out]; refine decide_eq_false fun hh => ?_; have := hh i (by rw [HL.out]; omega) (by rw [HL.out]; exact hi1); rw [show ith xs i = x from HX.out, show ith xs (i + 1) = y from HY.out] at this; omega)
        go_wp2_with fail
        go_ret
        exact ⟨by rw [HF.out]; rfl, hB⟩
      case neg =>
        have HN : Hid (∀ k : Nat, ((i : Nat) : Int) ≤ k → k + 1 < n → ith xs k ≤ ith xs (k + 1)) := Lib.hid fun k h1 h2 => by
          by_cases e : k = i
          · subst e
            rw [show ith xs k = x from HX.out, show ith xs (k + 1) = y from HY.out]
            omega
          · exact hS.out k (by omega) h2
        go_wp2_with fail
        go_roundw
        case rel => exact ⟨(i : Int), by omega, by omega, by go_num, hB, HN⟩
        case measure => simp [intOf]; omega
    case neg =>
      have HF := Lib.hid (show r = true by rw [← HR.out]; exact decide_eq_true fun k h1 h2 => hS.out k (by omega) (by rw [← HL.out]; exact h2))
      go_wp2_with fail
      go_ret
      exact ⟨by rw [HF.out]; rfl, hb⟩

/-- Valid among c candidates. -/
def fineQ (kd : Nat) (ms : List Int) (c : Int) : Bool :=
  if kd = 3 then decide (∀ i, i < ms.length → 0 ≤ ith ms i ∧ ith ms i ≤ 10) && decide ((ms.length : Int) = c)
  else if kd = 1 ∨ kd = 2 then decide (∀ i, i < ms.length → 0 ≤ ith ms i ∧ ith ms i < c) && (decide (kd = 1) || decide (∀ i, i < ms.length → 0 < i → ith ms (i - 1) < ith ms i)) && decide (∀ i, i < ms.length → inI ms i (ith ms i) = false)
  else false
def ballC (kd : Nat) (ms : List Int) (c : Int) : Int := if 1 ≤ c ∧ c ≤ 10 then (if fineQ kd ms c = true then 0 else 8) else 2

end Go.Proofs.Ythpjnbnheagpiaa
/- Rows of elements of two cells, whose cells may be slices of their own. No condition. -/
namespace Go.Suf
open Go.RowKit
set_option linter.unusedVariables false
set_option linter.unusedSimpArgs false

/-- A relation of an element and its two cells lasts. -/
def Lasts {α : Type} (E : World → α → Value → Value → Prop) : Prop := ∀ {w w' : World} {x : α} {u v : Value}, E w x u v → Below w.heap.size w w' → E w' x u v
/-- The slice of n elements of two cells at a reads as l. -/
structure Rd2 {α : Type} (E : World → α → Value → Value → Prop) (w : World) (a : Option Addr) (n cap : Nat) (l : List α) : Prop where
  len : l.length = n
  le : n ≤ cap
  max : cap ≤ maxLen
  nil : a = none → cap = 0
  cell : ∀ i x, l[i]? = some x → ∃ b off u v, a = some ⟨b, off, none⟩ ∧ w.cell? ⟨b, off + i * 2, none⟩ = some u ∧ w.cell? ⟨b, off + i * 2 + 1, none⟩ = some v ∧ E w x u v ∧ u.oneCell' = true ∧ v.oneCell' = true
section
variable {α : Type} {E : World → α → Value → Value → Prop} {w w' : World} {a : Option Addr} {n cap : Nat} {l : List α}
theorem Rd2.below (h : Rd2 E w a n cap l) (hE : Lasts E) (hb : Below w.heap.size w w') : Rd2 E w' a n cap l :=
  ⟨h.len, h.le, h.max, h.nil, fun i x hx => by
    obtain ⟨b, off, u, v, e, h1, h2, h3, h4⟩ := h.cell i x hx
    exact ⟨b, off, u, v, e, cell_below hb h1, cell_below hb h2, hE h3 hb, h4⟩⟩
theorem Rd2.lt (h : Rd2 E w a n cap l) : n ≤ 9223372036854775807 := by have h1 := h.le; have h2 := h.max; unfold maxLen at h2; omega
theorem Rd2.nils (E : World → α → Value → Value → Prop) (w : World) : Rd2 E w none 0 0 [] := ⟨rfl, Nat.le_refl _, by decide, fun _ => rfl, fun i x hx => by simp at hx⟩
theorem Rd2.addr (h : Rd2 E w a n cap l) (hp : 0 < n) : ∃ b off, a = some ⟨b, off, none⟩ ∧ ∀ i x, l[i]? = some x → ∃ u v, w.cell? ⟨b, off + i * 2, none⟩ = some u ∧ w.cell? ⟨b, off + i * 2 + 1, none⟩ = some v ∧ E w x u v := by
  have hl := h.len
  obtain ⟨b, off, u, v, e, _⟩ := h.cell 0 l[0] (List.getElem?_eq_getElem (by omega))
  subst e
  refine ⟨b, off, rfl, fun i x hx => ?_⟩
  obtain ⟨b', off', u', v', e, h1, h2, h3, _⟩ := h.cell i x hx
  obtain ⟨rfl, rfl⟩ : b = b' ∧ off = off' := by simpa using e
  exact ⟨u', v', h1, h2, h3⟩
theorem Rd2.mono {E' : World → α → Value → Value → Prop} (h : Rd2 E w a n cap l) (hE : ∀ x u v, E w x u v → E' w x u v) : Rd2 E' w a n cap l :=
  ⟨h.len, h.le, h.max, h.nil, fun i x hx => by
    obtain ⟨b, off, u, v, e, h1, h2, h3, h4⟩ := h.cell i x hx
    exact ⟨b, off, u, v, e, h1, h2, hE _ _ _ h3, h4⟩⟩
theorem sliced_rd2 (h : Rd2 E w a n cap l) (i j : Nat) (hij : i ≤ j) (hj : j ≤ n) :
    ∃ a', sliced a i j cap 2 = .slice a' (j - i) (cap - i) ∧ Rd2 E w a' (j - i) (cap - i) ((l.take j).drop i) := by
  have hl := h.len
  have hle := h.le
  have hmax := h.max
  refine ⟨_, rfl, ?_⟩
  by_cases he : i < j
  · obtain ⟨b, off, rfl, _⟩ := h.addr (by omega)
    rw [if_neg (by omega)]
    have : (⟨b, off, none⟩ : Addr).add (i * 2) = ⟨b, off + i * 2, none⟩ := by unfold Addr.add; split <;> simp_all
    simp only [Option.map_some, this]
    refine ⟨by simp; omega, by omega, by omega, fun e => by simp at e, fun k x hx => ?_⟩
    have hx2 : l[i + k]? = some x := by
      rw [List.getElem?_drop] at hx
      have := (List.getElem?_eq_some_iff.1 hx).1
      rw [List.length_take] at this
      rwa [List.getElem?_take_of_lt (by omega)] at hx
    obtain ⟨b', off', u, v, e, h1, h2, h3⟩ := h.cell (i + k) x hx2
    obtain ⟨rfl, rfl⟩ : b = b' ∧ off = off' := by simpa using e
    exact ⟨b, off + i * 2, u, v, rfl, by rw [show off + i * 2 + k * 2 = off + (i + k) * 2 by omega]; exact h1, by rw [show off + i * 2 + k * 2 = off + (i + k) * 2 by omega]; exact h2, h3⟩
  · obtain rfl : i = j := by omega
    have e : (l.take i).drop i = [] := List.drop_eq_nil_of_le (by simp; omega)
    rw [e]
    refine ⟨by simp, by omega, by omega, fun hn => ?_, fun k x hx => by simp at hx⟩
    have : a = none := by
      split at hn
      · exact hn
      · simpa using hn
    have := h.nil this
    omega
end

/-- The cells of a row, two an element. -/
def flat2 (cs : List (Value × Value)) : List Value := cs.flatMap fun c => [c.1, c.2]
theorem flat2_length (cs : List (Value × Value)) : (flat2 cs).length = cs.length * 2 := by
  induction cs with
  | nil => rfl
  | cons c cs ih =>
    show ([c.1, c.2] ++ flat2 cs).length = _
    rw [List.length_append, ih]
    simp
    omega
theorem flat2_append (cs ds : List (Value × Value)) : flat2 (cs ++ ds) = flat2 cs ++ flat2 ds := by simp [flat2]
theorem flat2_at : ∀ (cs : List (Value × Value)) (i : Nat) (c : Value × Value), cs[i]? = some c → (flat2 cs)[i * 2]? = some c.1 ∧ (flat2 cs)[i * 2 + 1]? = some c.2
  | [], i, c, h => by simp at h
  | d :: cs, 0, c, h => by
    simp at h
    subst h
    exact ⟨rfl, rfl⟩
  | d :: cs, i + 1, c, h => by
    have ih := flat2_at cs i c (by simpa using h)
    have e : flat2 (d :: cs) = [d.1, d.2] ++ flat2 cs := rfl
    rw [e, List.getElem?_append_right (by simp; omega), List.getElem?_append_right (by simp; omega)]
    simp only [List.length_cons, List.length_nil]
    exact ⟨by rw [show (i + 1) * 2 - 2 = i * 2 by omega]; exact ih.1, by rw [show (i + 1) * 2 + 1 - 2 = i * 2 + 1 by omega]; exact ih.2⟩
theorem flat2_some {cs : List (Value × Value)} {j : Nat} {u : Value} (h : (flat2 cs)[j]? = some u) : ∃ c, cs[j / 2]? = some c ∧ ((j % 2 = 0 ∧ u = c.1) ∨ (j % 2 = 1 ∧ u = c.2)) := by
  have hj : j < cs.length * 2 := by
    rw [← flat2_length]
    exact (List.getElem?_eq_some_iff.1 h).1
  have h1 : j / 2 < cs.length := by omega
  have hc := List.getElem?_eq_getElem h1
  obtain ⟨e1, e2⟩ := flat2_at cs (j / 2) _ hc
  refine ⟨_, hc, ?_⟩
  rcases Nat.mod_two_eq_zero_or_one j with hm | hm
  · left
    rw [show j / 2 * 2 = j by omega, h] at e1
    exact ⟨hm, by simpa using e1⟩
  · right
    rw [show j / 2 * 2 + 1 = j by omega, h] at e2
    exact ⟨hm, by simpa using e2⟩
/-- A row of elements of two cells in memory of the call's own; F: what is known of an element's cells. -/
structure Ow2 {α : Type} (F : α → Value → Value → Prop) (e : TypeId) (base : Nat) (w : World) (a : Option Addr) (n cap : Nat) (l : List α) : Prop where
  len : l.length = n
  own : ∃ cs : List (Value × Value), cs.length = n ∧ w.ownsRow base e 2 (.slice a n cap) n (flat2 cs) ∧ ∀ (i : Nat) x c, l[i]? = some x → cs[i]? = some c → F x c.1 c.2 ∧ c.1.oneCell' = true ∧ c.2.oneCell' = true
section
variable {α : Type} {F : α → Value → Value → Prop} {e : TypeId} {base : Nat} {w w' : World} {a : Option Addr} {n cap : Nat} {l : List α}
theorem Ow2.nil (F : α → Value → Value → Prop) (e : TypeId) (base : Nat) (w : World) : Ow2 F e base w none 0 0 [] := ⟨rfl, [], rfl, World.ownsRow_nil w base e 2, fun i x c h => by simp at h⟩
theorem Ow2.made (F : α → Value → Value → Prop) (e : TypeId) (w : World) : Ow2 F e w.heap.size (w.alloc (.cells #[] e)) (some ⟨w.heap.size, 0, none⟩) 0 0 [] := ⟨rfl, [], rfl, World.ownsRow_made w #[] 0 (Nat.le_refl _) (by decide) rfl, fun i x c h => by simp at h⟩
theorem Ow2.below (h : Ow2 F e base w a n cap l) (hb : Below w.heap.size w w') : Ow2 F e base w' a n cap l := by
  obtain ⟨cs, h1, h2, h3⟩ := h.own
  exact ⟨h.len, cs, h1, h2.kept (row := none) ⟨hb.os, hb.tape, hb.output, hb.size, fun k hk _ => hb.block k hk⟩ (by cases (Value.slice a n cap).ownBlock <;> simp), h3⟩
theorem Ow2.mono {F' : α → Value → Value → Prop} (h : Ow2 F e base w a n cap l) (hF : ∀ x u v, F x u v → F' x u v) : Ow2 F' e base w a n cap l := by
  obtain ⟨cs, h1, h2, h3⟩ := h.own
  exact ⟨h.len, cs, h1, h2, fun i x c hx hc => ⟨hF _ _ _ (h3 i x c hx hc).1, (h3 i x c hx hc).2⟩⟩
theorem Ow2.base_le {base' : Nat} (h : Ow2 F e base w a n cap l) (hb : base' ≤ base) : Ow2 F e base' w a n cap l := by
  obtain ⟨cs, h1, h2, h3⟩ := h.own
  refine ⟨h.len, cs, h1, ⟨h2.1, ?_⟩, h3⟩
  rcases h2.2 with h4 | ⟨g, c, cur, hv, hg, r⟩
  · exact .inl h4
  · exact .inr ⟨g, c, cur, hv, by omega, r⟩
theorem Ow2.rd {E : World → α → Value → Value → Prop} (h : Ow2 F e base w a n cap l) (hE : ∀ x u v, F x u v → E w x u v) : Rd2 E w a n cap l := by
  obtain ⟨cs, h1, h2, h3⟩ := h.own
  have hl := h.len
  rcases h2.2 with ⟨hv, hn⟩ | ⟨g, cap', cur, hv, hg, hh, hnc, hm, hsz, htake⟩
  · simp at hv
    obtain ⟨rfl, rfl, rfl⟩ := hv
    exact ⟨hl, Nat.le_refl _, Nat.zero_le _, fun _ => rfl, fun i x hx => by
      have := (List.getElem?_eq_some_iff.1 hx).1
      omega⟩
  · simp at hv
    obtain ⟨rfl, rfl⟩ := hv
    refine ⟨hl, hnc, hm, fun e => by simp at e, fun i x hx => ?_⟩
    have hi := (List.getElem?_eq_some_iff.1 hx).1
    have hc := List.getElem?_eq_getElem (l := cs) (i := i) (by omega)
    obtain ⟨q1, q2, q3⟩ := h3 i x _ hx hc
    obtain ⟨e1, e2⟩ := flat2_at cs i _ hc
    have at' : ∀ (j : Nat) (u : Value), (flat2 cs)[j]? = some u → cur[j]? = some u := fun j u hu => by
      rw [← htake] at hu
      have hj := (List.getElem?_eq_some_iff.1 hu).1
      rw [List.getElem?_take_of_lt (by simp at hj; omega)] at hu
      simpa using hu
    refine ⟨g, 0, _, _, rfl, ?_, ?_, hE _ _ _ q1, q2, q3⟩
    · rw [Nat.zero_add, cell_of_row _ _ _ _ _ _ hh]; exact at' _ _ e1
    · rw [Nat.zero_add, cell_of_row _ _ _ _ _ _ hh]; exact at' _ _ e2
theorem Ow2.where (h : Ow2 F e base w a n cap l) (hn : 0 < n) : ∃ g, a = some ⟨g, 0, none⟩ ∧ base ≤ g ∧ g < w.heap.size := by
  obtain ⟨cs, h1, h2, h3⟩ := h.own
  rcases h2.2 with ⟨hv, h4⟩ | ⟨g, c, cur, hv, hg, hh, _⟩
  · omega
  · simp at hv
    obtain ⟨rfl, _⟩ := hv
    exact ⟨g, rfl, hg, (Array.getElem?_eq_some_iff.1 hh).1⟩
theorem Ow2.setHi {g i : Nat} {t : TypeId} {cs0 : Array Value} (h : Ow2 F e base w a n cap l) (hg : w.heap[g]? = some (.cells cs0 t (0, 0))) (hne : t ≠ e) (v : Value) : Ow2 F e base (w.setCell ⟨g, i, none⟩ v) a n cap l := by
  obtain ⟨cs, h1, h2, h3⟩ := h.own
  refine ⟨h.len, cs, h1, ⟨h2.1, ?_⟩, h3⟩
  rcases h2.2 with h4 | ⟨b, c, cur, hv, hb, hh, r⟩
  · exact .inl h4
  · refine .inr ⟨b, c, cur, hv, hb, (heap_setCell_other w ⟨g, i, none⟩ b v (fun e2 => ?_)).trans hh, r⟩
    have e3 : b = g := e2
    subst e3
    rw [hg] at hh
    simp at hh
    exact hne hh.2
end

end Go.Suf
