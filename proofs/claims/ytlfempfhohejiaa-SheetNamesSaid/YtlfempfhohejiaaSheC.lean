/- Parts of rows; valid ballots, in the program and in the answer. No condition but small numbers of candidates. Printed by gen_shec.py. -/
import Derived.Test.YtlfempfhohejiaaSheA
import Derived.BigQuiet
import Derived.Deep.CutRange
namespace Go.Suf
open Go.RowKit
set_option linter.unusedVariables false
set_option linter.unusedSimpArgs false

section
variable {α : Type} {enc : α → Value} {ok : α → Prop} {w : World} {a : Option Addr} {n cap : Nat} {xs : List α}
theorem sliced_rdG (d : α) (h : RdG enc ok w a n cap xs) (l j m : Nat) (hlj : l ≤ j) (hj : j ≤ n) (hjm : j ≤ m) (hm : m ≤ cap) :
    ∃ a', sliced a l j m 1 = .slice a' (j - l) (m - l) ∧ RdG enc ok w a' (j - l) (m - l) ((xs.take j).drop l) := by
  have hl := h.len
  have hmax := h.sl.max
  refine ⟨_, rfl, ?_⟩
  by_cases he : l < j
  · obtain ⟨b, off, rfl, _⟩ := h.addr d (by omega)
    rw [if_neg (by omega)]
    have : (⟨b, off, none⟩ : Addr).add (l * 1) = ⟨b, off + l, none⟩ := by unfold Addr.add; split <;> simp_all
    simp only [Option.map_some, this]
    refine ⟨by simp; omega, ?_, fun x hx => h.bd x (List.mem_of_mem_take (List.mem_of_mem_drop hx))⟩
    have hp := h.sl.part l j m hlj (by rw [List.length_map]; omega) hjm hm (off + l) (fun _ => rfl)
    have e : ((xs.take j).drop l).map enc = ((xs.map enc).take j).drop l := by simp [List.map_take, List.map_drop]
    rw [e]
    exact hp
  · obtain rfl : l = j := by omega
    have e : (xs.take l).drop l = [] := List.drop_eq_nil_of_le (by simp; omega)
    rw [e]
    refine ⟨by simp, Sl.empty _ _ _ (by omega) (fun hn => ?_), fun x hx => by simp at hx⟩
    have : a = none := by
      split at hn
      · exact hn
      · simpa using hn
    have := h.sl.nil this
    omega

theorem run_uptoG (d : α) {P : Program} {t e : TypeId} {z : Value} {bs : Nat} (T : ET P t e z bs) (h : RdG enc ok w a n cap xs) (j : Nat) (hj : j ≤ n) :
    ∃ a', RdG enc ok w a' j cap (xs.take j) ∧ (∀ W, (Instr.sliceAt t (.slice a n cap) none (some (.int .i64 (j : Int))) none).run P W = .ok (.slice a' j cap) W) ∧
      (∀ W, (Instr.slice t (.slice a n cap) none (some (.int .i64 (j : Int))) none).run P W = .ok (.slice a' j cap) W) := by
  have ht' : P.underlying t = some (.slice (P.elem t)) := by rw [elem_of T]; exact T.ht
  have hle := h.le
  obtain ⟨a', e1, hr⟩ := sliced_rdG d h 0 j cap (Nat.zero_le _) hj (by omega) (Nat.le_refl _)
  simp only [Nat.sub_zero, List.drop_zero] at e1 hr
  have hrun : ∀ W, (Instr.slice t (.slice a n cap) none (some (.int .i64 (j : Int))) none).run P W = .ok (.slice a' j cap) W := by
    intro W
    rw [run_slice_h W t a n cap ht' .i64 j (by omega) (by omega), elem_of T, run_sizeOf1 T]
    simp [e1]
  exact ⟨a', hr, fun W => by rw [run_sliceAt_slice W t _ _ _ _ ht']; exact hrun W, hrun⟩

theorem run_fromG (d : α) {P : Program} {t e : TypeId} {z : Value} {bs : Nat} (T : ET P t e z bs) (h : RdG enc ok w a n cap xs) (i : Nat) (hi : i ≤ n) :
    ∃ a', RdG enc ok w a' (n - i) (cap - i) (xs.drop i) ∧ (∀ W, (Instr.sliceAt t (.slice a n cap) (some (.int .i64 (i : Int))) none none).run P W = .ok (.slice a' (n - i) (cap - i)) W) ∧
      (∀ W, (Instr.slice t (.slice a n cap) (some (.int .i64 (i : Int))) none none).run P W = .ok (.slice a' (n - i) (cap - i)) W) := by
  have ht' : P.underlying t = some (.slice (P.elem t)) := by rw [elem_of T]; exact T.ht
  have hle := h.le
  obtain ⟨a', e1, hr⟩ := sliced_rdG d h i n cap hi (Nat.le_refl _) (by omega) (Nat.le_refl _)
  rw [List.take_of_length_le (by have := h.len; omega)] at hr
  have hrun : ∀ W, (Instr.slice t (.slice a n cap) (some (.int .i64 (i : Int))) none none).run P W = .ok (.slice a' (n - i) (cap - i)) W := by
    intro W
    rw [run_slice_l W t a n cap ht' .i64 i (by omega) (by omega), elem_of T, run_sizeOf1 T]
    simp [e1]
  exact ⟨a', hr, fun W => by rw [run_sliceAt_slice W t _ _ _ _ ht']; exact hrun W, hrun⟩

theorem run_partG (d : α) {P : Program} {t e : TypeId} {z : Value} {bs : Nat} (T : ET P t e z bs) (h : RdG enc ok w a n cap xs) (i j : Nat) (hij : i ≤ j) (hj : j ≤ n) :
    ∃ a', RdG enc ok w a' (j - i) (cap - i) ((xs.take j).drop i) ∧ (∀ W, (Instr.sliceAt t (.slice a n cap) (some (.int .i64 (i : Int))) (some (.int .i64 (j : Int))) none).run P W = .ok (.slice a' (j - i) (cap - i)) W) ∧
      (∀ W, (Instr.slice t (.slice a n cap) (some (.int .i64 (i : Int))) (some (.int .i64 (j : Int))) none).run P W = .ok (.slice a' (j - i) (cap - i)) W) := by
  have ht' : P.underlying t = some (.slice (P.elem t)) := by rw [elem_of T]; exact T.ht
  have hle := h.le
  obtain ⟨a', e1, hr⟩ := sliced_rdG d h i j cap hij hj (by omega) (Nat.le_refl _)
  have hrun : ∀ W, (Instr.slice t (.slice a n cap) (some (.int .i64 (i : Int))) (some (.int .i64 (j : Int))) none).run P W = .ok (.slice a' (j - i) (cap - i)) W := by
    intro W
    rw [run_slice_lh W t a n cap ht' .i64 .i64 i j (by omega) (by omega) (by omega), elem_of T, run_sizeOf1 T]
    simp [e1]
  exact ⟨a', hr, fun W => by rw [run_sliceAt_slice W t _ _ _ _ ht']; exact hrun W, hrun⟩
end
end Go.Suf
namespace Go.Proofs.Ytlfempfhohejiaa
open Go.RowKit Go.Suf
set_option linter.unusedVariables false
set_option linter.unusedSimpArgs false

/-- A number stands among the first i. -/
def inI (xs : List Int) (i : Nat) (v : Int) : Bool := decide (∃ k, k < i ∧ ith xs k = v)
instance : ∀ (xs : List Int) (i : Nat) (v : Int), Decidable (∃ k, k < i ∧ ith xs k = v) := fun xs i v => inferInstance
theorem inI_no {xs : List Int} {i : Nat} {v : Int} (h : ∀ k, k < i → ¬ ith xs k = v) : inI xs i v = false := decide_eq_false fun ⟨k, hk, e⟩ => h k hk e
theorem inI_yes {xs : List Int} {i k : Nat} {v : Int} (hk : k < i) (h : ith xs k = v) : inI xs i v = true := decide_eq_true ⟨k, hk, h⟩

set_option maxHeartbeats 1000000 in
theorem place_any (w : World) {a : Option Addr} {n cap : Nat} {xs : List Int} (h : RdI w a n cap xs) (v : Int) :
    Calls Try.prog 71 #[.slice a n cap, .int .i64 v] w fun e w' => ∃ z : Int, e = .returned (.int .i64 z) ∧ decide (0 ≤ z) = inI xs n v ∧ w = w' := by
  have hn := h.lt
  go_enter Try.func71, Try.ntmps71
  go_wp2_with fail
  go_loop [5] (fun j => ∃ i : Nat, i ≤ n ∧ j = .int .i64 (i : Nat) ∧ Hid (∀ k, k < i → ¬ ith xs k = v)) (fun j => n - (intOf j).toNat)
  case atStart => exact ⟨0, by omega, rfl, Lib.hid fun k hk => absurd hk (by omega)⟩
  case round =>
    obtain ⟨i, hi, rfl, hS⟩ := hrel
    by_cases hlt : i < n
    · obtain ⟨b, off, rfl, hcc⟩ := h.addrI (by omega)
      have hc := hcc i hlt
      clear hcc
      obtain ⟨x, hx⟩ : ∃ x, ith xs i = x := ⟨_, rfl⟩
      rw [hx] at hc
      have HX := Lib.hid hx
      clear hx
      by_cases e : x = v
      · subst e
        have HZ := Lib.hid (inI_yes (i := n) hlt HX.out)
        go_wp2
        go_ret
        exact ⟨_, rfl, by rw [HZ.out]; simp, rfl⟩
      · have e1 : (x == v) = false := by simpa using e
        have HE := Lib.hid e
        clear e
        go_wp2
        go_round
        case rel => exact ⟨i + 1, by omega, by go_num, Lib.hid fun k hk => by
                      by_cases hki : k < i
                      · exact hS.out k hki
                      · obtain rfl : k = i := by omega
                        intro e; exact HE.out (HX.out.symm.trans e)⟩
        case measure => simp [intOf]; omega
    · obtain rfl : n = i := by omega
      have HZ := Lib.hid (inI_no hS.out)
      go_wp2
      go_ret
      exact ⟨-1, rfl, by rw [HZ.out]; rfl, rfl⟩

theorem isNaN_any (w : World) (x : Int) : Calls Try.prog 83 #[.int .i64 x] w fun e w' => e = .returned (.bool false) ∧ w = w' := by
  go_enter Try.func83, Try.ntmps83
  go_wp2
  go_ret
  exact ⟨by simp, rfl⟩

theorem less_any (w : World) (x y : Int) : Calls Try.prog 77 #[.int .i64 x, .int .i64 y] w fun e w' => e = .returned (.bool (decide (x < y))) ∧ w = w' := by
  go_enter Try.func77, Try.ntmps77
  go_wp2_with fail
  refine (isNaN_any _ x).mono ?_
  rintro e w1 ⟨rfl, hw⟩
  subst hw
  go_wp2_with fail
  go_ret
  exact ⟨rfl, rfl⟩

/-- In order, equal ones allowed. -/
def sortI (xs : List Int) : Bool := decide (∀ j, j < xs.length → j + 1 < xs.length → ith xs j ≤ ith xs (j + 1))

set_option maxRecDepth 100000 in
set_option maxHeartbeats 2000000 in
theorem sorted_any (w : World) {a : Option Addr} {n cap : Nat} {xs : List Int} (h : RdI w a n cap xs) :
    Calls Try.prog 63 #[.slice a n cap] w fun e w' => e = .returned (.bool (sortI xs)) ∧ Below w.heap.size w w' := by
  have hn := h.lt
  have HL := Lib.hid h.len
  obtain ⟨r, hr⟩ : ∃ r, sortI xs = r := ⟨_, rfl⟩
  rw [hr]
  have HR := Lib.hid hr
  clear hr
  go_enter Try.func63, Try.ntmps63
  go_wp2_with fail
  go_loopw [3] (fun j wr => ∃ z : Int, -1 ≤ z ∧ z ≤ (n : Int) - 1 ∧ j = .int .i64 z ∧ Below w.heap.size w wr ∧ Hid (∀ k : Nat, z ≤ k → k + 1 < n → ith xs k ≤ ith xs (k + 1))) (fun j _ => (intOf j + 1).toNat)
  case atStart => exact ⟨(n : Int) - 1, by omega, by omega, rfl, Below.refl _ _, Lib.hid fun k h1 h2 => absurd h2 (by omega)⟩
  case round =>
    rename World => wr
    obtain ⟨z, hz1, hz2, rfl, hb, hS⟩ := hrel
    by_cases hpos : 0 < z
    case pos =>
      obtain ⟨i, rfl⟩ : ∃ i : Nat, z = (i : Int) + 1 := ⟨(z - 1).toNat, by omega⟩
      obtain ⟨b, off, rfl, hc⟩ := (h.below hb).addrI (by omega)
      have c0 := hc i (by omega)
      have c1 := hc (i + 1) (by omega)
      clear hc
      obtain ⟨x, hx⟩ : ∃ x, ith xs i = x := ⟨_, rfl⟩
      obtain ⟨y, hy⟩ : ∃ y, ith xs (i + 1) = y := ⟨_, rfl⟩
      rw [hx] at c0
      rw [hy] at c1
      have HX := Lib.hid hx
      have HY := Lib.hid hy
      clear hx hy
      have hw1 : IntKind.i64.wrap (((i : Nat) : Int) + 1 - 1) = ((i : Nat) : Int) := (congrArg IntKind.i64.wrap (by omega)).trans (wrap_in (by omega) (by omega))
      have hw2 : IntKind.i64.wrap ((i : Nat) : Int) = ((i : Nat) : Int) := wrap_in (by omega) (by omega)
      have hi1 : i + 1 < n := by omega
      have hi2 : i < n := by omega
      have hx1 : (0 : Int) ≤ ((i : Nat) : Int) + 1 := by omega
      have hx2 : ((i : Nat) : Int) + 1 < ((n : Nat) : Int) := by omega
      go_upto_region 4 with fail
      have B100 := hb
      clear hb
      have hb := (Below.refl wr.heap.size wr).drew
      replace c0 := cell_below hb c0
      replace c1 := cell_below hb c1
      have B101 := B100.trans (hb.mono B100.size)
      clear hb B100
      refine wp_region_held_drew (S := (fun w' => w'.cell? ⟨b, off + i, none⟩ = some (.int .i64 x) ∧ w'.cell? ⟨b, off + (i + 1), none⟩ = some (.int .i64 y) ∧ True)) (by kernel_rfl) ?_ (fun hHeld => ?_)
      · exact ⟨c0, c1, trivial⟩
      generalize wr.drew = w101 at *
      refine wpAnyH_take (i := 0) (oi := ?oir1_0) (v := ?vr1_0) ?hir1_0 (by kernel_rfl) (by kernel_rfl) (by kernel_rfl) ?hqr1_0 ?hyr1_0 (by assumption) ?restr1_0
      case hir1_0 => simp only [List.getElem?_toArray, List.getElem?_cons_succ, List.getElem?_cons_zero]; rfl
      case hqr1_0 => exact fun _ _ _ h => h
      case hyr1_0 => (refine Or.inl ⟨by rfl, ?_⟩; intro w hSw; (try dsimp only at hSw); go_simp; all_goals with_reducible rfl)
      try simp only [Act.put, List.setIfInBounds_toArray, List.set_cons_zero, List.set_cons_succ]
      refine wpAnyH_take (i := 1) (oi := ?oir1_1) (v := ?vr1_1) ?hir1_1 (by kernel_rfl) (by kernel_rfl) (by kernel_rfl) ?hqr1_1 ?hyr1_1 (by assumption) ?restr1_1
      case hir1_1 => simp only [List.getElem?_toArray, List.getElem?_cons_succ, List.getElem?_cons_zero]; rfl
      case hqr1_1 => exact fun _ _ _ h => h
      case hyr1_1 => (refine Or.inl ⟨by rfl, ?_⟩; intro w hSw; (try dsimp only at hSw); go_simp; all_goals with_reducible rfl)
      try simp only [Act.put, List.setIfInBounds_toArray, List.set_cons_zero, List.set_cons_succ]
      refine wpAnyH_take (i := 2) (oi := ?oir1_2) (v := ?vr1_2) ?hir1_2 (by kernel_rfl) (by kernel_rfl) (by kernel_rfl) ?hqr1_2 ?hyr1_2 (by assumption) ?restr1_2
      case hir1_2 => simp only [List.getElem?_toArray, List.getElem?_cons_succ, List.getElem?_cons_zero]; rfl
      case hqr1_2 => exact fun _ _ _ h => h
      case hyr1_2 => (refine Or.inl ⟨by rfl, ?_⟩; intro w hSw; (try dsimp only at hSw); go_simp; all_goals with_reducible rfl)
      try simp only [Act.put, List.setIfInBounds_toArray, List.set_cons_zero, List.set_cons_succ]
      refine wpAnyH_take (i := 3) (oi := ?oir1_3) (v := ?vr1_3) ?hir1_3 (by kernel_rfl) (by kernel_rfl) (by kernel_rfl) ?hqr1_3 ?hyr1_3 (by assumption) ?restr1_3
      case hir1_3 => simp only [List.getElem?_toArray, List.getElem?_cons_succ, List.getElem?_cons_zero]; rfl
      case hqr1_3 => exact fun _ _ _ h => h
      case hyr1_3 => (refine Or.inl ⟨by rfl, ?_⟩; intro w hSw; (try dsimp only at hSw); go_simp; all_goals with_reducible rfl)
      try simp only [Act.put, List.setIfInBounds_toArray, List.set_cons_zero, List.set_cons_succ]
      refine wpAnyH_take (i := 4) (oi := ?oir1_4) (v := ?vr1_4) ?hir1_4 (by kernel_rfl) (by kernel_rfl) (by kernel_rfl) ?hqr1_4 ?hyr1_4 (by assumption) ?restr1_4
      case hir1_4 => simp only [List.getElem?_toArray, List.getElem?_cons_succ, List.getElem?_cons_zero]; rfl
      case hqr1_4 => exact fun _ _ _ h => h
      case hyr1_4 => (refine Or.inl ⟨by rfl, ?_⟩; intro w hSw; (try dsimp only at hSw); go_simp; all_goals with_reducible rfl)
      try simp only [Act.put, List.setIfInBounds_toArray, List.set_cons_zero, List.set_cons_succ]
      refine wpAnyH_take (i := 5) (oi := ?oir1_5) (v := ?vr1_5) ?hir1_5 (by kernel_rfl) (by kernel_rfl) (by kernel_rfl) ?hqr1_5 ?hyr1_5 (by assumption) ?restr1_5
      case hir1_5 => simp only [List.getElem?_toArray, List.getElem?_cons_succ, List.getElem?_cons_zero]; rfl
      case hqr1_5 => exact fun _ _ _ h => h
      case hyr1_5 => (refine Or.inl ⟨by rfl, ?_⟩; intro w hSw; (try dsimp only at hSw); go_simp; all_goals with_reducible rfl)
      try simp only [Act.put, List.setIfInBounds_toArray, List.set_cons_zero, List.set_cons_succ]
      refine wpAnyH_take (i := 6) (oi := ?oir1_6) (v := ?vr1_6) ?hir1_6 (by kernel_rfl) (by kernel_rfl) (by kernel_rfl) ?hqr1_6 ?hyr1_6 (by assumption) ?restr1_6
      case hir1_6 => simp only [List.getElem?_toArray, List.getElem?_cons_succ, List.getElem?_cons_zero]; rfl
      case hqr1_6 => exact fun _ _ _ h => h
      case hyr1_6 => (refine Or.inl ⟨by rfl, ?_⟩; intro w hSw; (try dsimp only at hSw); go_simp; all_goals with_reducible rfl)
      try simp only [Act.put, List.setIfInBounds_toArray, List.set_cons_zero, List.set_cons_succ]
      refine wpAnyH_take (i := 7) (oi := ?oir1_7) (v := ?vr1_7) ?hir1_7 (by kernel_rfl) (by kernel_rfl) (by kernel_rfl) ?hqr1_7 ?hyr1_7 (by assumption) ?restr1_7
      case hir1_7 => simp only [List.getElem?_toArray, List.getElem?_cons_succ, List.getElem?_cons_zero]; rfl
      case hqr1_7 => exact fun _ _ _ h => h
      case hyr1_7 => (refine Or.inl ⟨by rfl, ?_⟩; intro w hSw; (try dsimp only at hSw); go_simp; all_goals with_reducible rfl)
      try simp only [Act.put, List.setIfInBounds_toArray, List.set_cons_zero, List.set_cons_succ]
      refine wpAnyH_take (i := 8) (oi := ?oir1_8) (v := ?vr1_8) ?hir1_8 (by kernel_rfl) (by kernel_rfl) (by kernel_rfl) ?hqr1_8 ?hyr1_8 (by assumption) ?restr1_8
      case hir1_8 => simp only [List.getElem?_toArray, List.getElem?_cons_succ, List.getElem?_cons_zero]; rfl
      case hqr1_8 => exact fun _ _ _ h => h
      case hyr1_8 => (refine Or.inl ⟨by rfl, ?_⟩; intro w hSw; (try dsimp only at hSw); go_simp; all_goals with_reducible rfl)
      try simp only [Act.put, List.setIfInBounds_toArray, List.set_cons_zero, List.set_cons_succ]
      refine wpAnyH_ready (rs := [9]) (by kernel_rfl) (by simp) ?_
      refine AllReadyH.cons (o := ?or2_9) ?hor2_9 (fun K hK => ?kr2_9) AllReadyH.nil
      case hor2_9 => simp only [List.getElem?_toArray, List.getElem?_cons_succ, List.getElem?_cons_zero]; rfl
      go_simp
      refine (less_any _ y x).mono ?_
      rintro e w9 ⟨rfl, hw9⟩
      subst hw9
      go_wp2_with fail
      clear hHeld
      refine hK.out _ _ ?_ (fun hHeld => ?_)
      · exact ⟨c0, c1, trivial⟩
      clear hK K
      try simp only [Act.put, List.setIfInBounds_toArray, List.set_cons_zero, List.set_cons_succ]
      refine wpAnyH_done (by kernel_rfl) ?_ _
      clear hHeld c0 c1
      have hB := B101
      by_cases g : y < x
      case pos =>
        have HF := Lib.hid (show r = false by rw [← HR.out]; refine decide_eq_false fun hh => ?_; have := hh i (by rw [HL.out]; omega) (by rw [HL.out]; exact hi1); rw [show ith xs i = x from HX.out, show ith xs (i + 1) = y from HY.out] at this; omega)
        go_wp2_with fail
        go_ret
        exact ⟨by rw [HF.out]; rfl, hB⟩
      case neg =>
        have HN : Hid (∀ k : Nat, ((i : Nat) : Int) ≤ k → k + 1 < n → ith xs k ≤ ith xs (k + 1)) := Lib.hid fun k h1 h2 => by
          by_cases e : k = i
          · subst e
            rw [show ith xs k = x from HX.out, show ith xs (k + 1) = y from HY.out]
            omega
          · exact hS.out k (by omega) h2
        go_wp2_with fail
        go_roundw
        case rel => exact ⟨(i : Int), by omega, by omega, by go_num, hB, HN⟩
        case measure => simp [intOf]; omega
    case neg =>
      have HF := Lib.hid (show r = true by rw [← HR.out]; exact decide_eq_true fun k h1 h2 => hS.out k (by omega) (by rw [← HL.out]; exact h2))
      go_wp2_with fail
      go_ret
      exact ⟨by rw [HF.out]; rfl, hb⟩

/-- Valid among c candidates. -/
def fineQ (kd : Nat) (ms : List Int) (c : Int) : Bool :=
  if kd = 3 then decide (∀ i, i < ms.length → 0 ≤ ith ms i ∧ ith ms i ≤ 10) && decide ((ms.length : Int) = c)
  else if kd = 1 ∨ kd = 2 then decide (∀ i, i < ms.length → 0 ≤ ith ms i ∧ ith ms i < c) && (decide (kd = 1) || decide (∀ i, i < ms.length → 0 < i → ith ms (i - 1) < ith ms i)) && decide (∀ i, i < ms.length → inI ms i (ith ms i) = false)
  else false
def ballC (kd : Nat) (ms : List Int) (c : Int) : Int := if 1 ≤ c ∧ c ≤ 10 then (if fineQ kd ms c = true then 0 else 8) else 2

end Go.Proofs.Ytlfempfhohejiaa
