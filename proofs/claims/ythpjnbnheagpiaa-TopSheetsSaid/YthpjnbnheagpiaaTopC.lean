/- Integers' rows: Clone, Compare, Equal; rows of profiles: Same. Conditions: none but sizes. -/
import Derived.Test.YthpjnbnheagpiaaTopB
import Derived.Test.YthpjnbnheagpiaaSheD
namespace Go.Proofs.Ythpjnbnheagpiaa
open Go.RowKit Go.Suf
set_option linter.unusedVariables false
set_option linter.unusedSimpArgs false

/-- A new row of integers. -/
def RetZ (w : World) (n : Nat) (xs : List Int) : Ending → World → Prop := fun e w' =>
  ∃ a c, e = .returned (.slice a n c) ∧ OwI w.heap.size w' a n c xs ∧ Below w.heap.size w w'
set_option maxHeartbeats 1000000 in
theorem cloneI_any (w : World) {a : Option Addr} {n cap : Nat} {xs : List Int} (h : RdI w a n cap xs) (hn : n ≤ 1099511627776) :
    Calls Try.prog 57 #[.slice a n cap] w (RetZ w n xs) := by
  have heq := fun (w : World) => Lib.run_eql_slice_nil (P := Try.prog) w
  cases a with
  | none =>
    have hc := h.sl.nil rfl
    subst hc
    have hn : n = 0 := by have := h.le; omega
    subst hn
    have hx : xs = [] := List.eq_nil_of_length_eq_zero h.len
    subst hx
    go_enter Try.func57, Try.ntmps57
    go_wp2
    go_ret
    exact ⟨none, 0, rfl, OwG.nil _ _ _ _ _, Below.refl _ _⟩
  | some ad =>
    have hm := World.ownsRow_made (e := 3) (size := 1) (base := w.heap.size) w #[] 0 (Nat.le_refl _) (by decide) rfl
    have hb0 := below_al w (.cells #[] 3)
    have hr := h.below hb0
    have hz := hb0.size
    have hlen := h.len
    have hbd := Lib.hid h.bd
    go_enter Try.func57, Try.ntmps57
    go_wp2_with (at_builtin; refine wpList_app rfl _ _ 35 rfl etI w.heap.size rfl hm rfl (by simpa using hlen) hr.sl (by unfold maxLen; omega) (by omega) hz ?_; intro a' c' w1 hown hg hb1; refine Hid.out ?_)
    simp only [Nat.zero_add, List.nil_append] at hown ⊢
    have HO := Lib.hid (show OwI w.heap.size w1 a' n c' xs from ⟨hlen, hown, hbd.out⟩)
    have HB := Lib.hid (hb0.trans hb1)
    clear hown hg hb1 hm hb0 hr
    refine Lib.hid ?_
    go_wp2_with fail
    go_ret
    exact ⟨a', c', rfl, HO.out, HB.out⟩

/-- The order of two integers, of two rows. -/
def cmpZ (x y : Int) : Int := if x < y then -1 else if y < x then 1 else 0
def lexZ : List Int → List Int → Int
  | [], [] => 0
  | [], _ :: _ => -1
  | _ :: _, [] => 1
  | x :: xs, y :: ys => if cmpZ x y = 0 then lexZ xs ys else cmpZ x y
theorem cmpZ_in (x y : Int) : cmpZ x y = -1 ∨ cmpZ x y = 0 ∨ cmpZ x y = 1 := by
  unfold cmpZ
  split
  · simp
  · split <;> simp
theorem compare_any (w : World) (x y : Int) : Calls Try.prog 94 #[.int .i64 x, .int .i64 y] w fun e w' => e = .returned (.int .i64 (cmpZ x y)) ∧ w = w' := by
  go_enter Try.func94, Try.ntmps94
  go_wp2_with fail
  refine (isNaN_any _ x).mono ?_
  rintro e w1 ⟨rfl, rfl⟩
  go_wp2_with fail
  refine (isNaN_any _ y).mono ?_
  rintro e w1 ⟨rfl, rfl⟩
  by_cases h1 : x < y
  case pos =>
    have HF := Lib.hid (show cmpZ x y = -1 by unfold cmpZ; rw [if_pos h1])
    have d1 : decide (x < y) = true := decide_eq_true h1
    clear h1
    go_wp2_with fail
    go_ret
    exact ⟨by rw [HF.out]; rfl, rfl⟩
  have d1 : decide (x < y) = false := decide_eq_false h1
  by_cases h2 : y < x
  case pos =>
    have HF := Lib.hid (show cmpZ x y = 1 by unfold cmpZ; rw [if_neg h1, if_pos h2])
    have d2 : decide (x > y) = true := decide_eq_true h2
    have d3 : decide (y < x) = true := decide_eq_true h2
    clear h1 h2
    go_wp2_with fail
    go_ret
    exact ⟨by rw [HF.out]; rfl, rfl⟩
  have HF := Lib.hid (show cmpZ x y = 0 by unfold cmpZ; rw [if_neg h1, if_neg h2])
  have d2 : decide (x > y) = false := decide_eq_false h2
  have d3 : decide (y < x) = false := decide_eq_false h2
  clear h1 h2
  go_wp2_with fail
  go_ret
  exact ⟨by rw [HF.out]; rfl, rfl⟩
theorem lexZ_step {xs ys : List Int} {i : Nat} (hx : i < xs.length) (hy : i < ys.length) : lexZ (xs.drop i) (ys.drop i) = if cmpZ (ith xs i) (ith ys i) = 0 then lexZ (xs.drop (i + 1)) (ys.drop (i + 1)) else cmpZ (ith xs i) (ith ys i) := by
  have ex : ith xs i = xs[i] := gth_eq 0 hx
  have ey : ith ys i = ys[i] := gth_eq 0 hy
  rw [List.drop_eq_getElem_cons hx, List.drop_eq_getElem_cons hy, lexZ, ex, ey]
set_option maxHeartbeats 1000000 in
theorem compareI_any (w : World) {a : Option Addr} {n cap : Nat} {xs : List Int} (h : RdI w a n cap xs) {a' : Option Addr} {n' cap' : Nat} {ys : List Int} (h' : RdI w a' n' cap' ys) :
    Calls Try.prog 86 #[.slice a n cap, .slice a' n' cap'] w fun e w' => e = .returned (.int .i64 (lexZ xs ys)) ∧ w = w' := by
  have hn := h.lt
  have hn' := h'.lt
  have HL := Lib.hid h.len
  have HL' := Lib.hid h'.len
  obtain ⟨r, hr⟩ : ∃ r, lexZ xs ys = r := ⟨_, rfl⟩
  rw [hr]
  have HR := Lib.hid hr
  clear hr
  go_enter Try.func86, Try.ntmps86
  go_wp2_with fail
  go_loop [11] (fun j => ∃ i : Nat, i ≤ n ∧ i ≤ n' ∧ j = .int .i64 (i : Nat) ∧ Hid (r = lexZ (xs.drop i) (ys.drop i))) (fun j => n - (intOf j).toNat)
  case atStart => exact ⟨0, Nat.zero_le _, Nat.zero_le _, rfl, Lib.hid (by rw [← HR.out]; rfl)⟩
  case round =>
    obtain ⟨i, hi, hi', rfl, hS⟩ := hrel
    by_cases hlt : i < n
    case neg =>
      obtain rfl : n = i := by omega
      have e1 : xs.drop n = [] := List.drop_eq_nil_of_le (by rw [HL.out]; exact Nat.le_refl _)
      by_cases hlt' : n < n'
      case pos =>
        have HF := Lib.hid (show r = -1 by
          rw [hS.out, e1, List.drop_eq_getElem_cons (show n < ys.length by rw [HL'.out]; exact hlt')]
          rfl)
        have d1 : decide (((n : Nat) : Int) < ((n' : Nat) : Int)) = true := decide_eq_true (by omega)
        go_wp2_with fail
        go_ret
        exact ⟨by rw [HF.out]; rfl, rfl⟩
      obtain rfl : n = n' := by omega
      have HF := Lib.hid (show r = 0 by rw [hS.out, e1, List.drop_eq_nil_of_le (show ys.length ≤ n by rw [HL'.out]; exact Nat.le_refl _)]; rfl)
      clear e1
      go_wp2_with fail
      go_ret
      exact ⟨by rw [HF.out]; rfl, rfl⟩
    obtain ⟨b, off, rfl, hcc⟩ := h.addrI (by omega)
    have kx := hcc i hlt
    clear hcc
    by_cases hlt' : i < n'
    case neg =>
      obtain rfl : n' = i := by omega
      have HF := Lib.hid (show r = 1 by
        rw [hS.out, List.drop_eq_getElem_cons (show n' < xs.length by rw [HL.out]; exact hlt), List.drop_eq_nil_of_le (show ys.length ≤ n' by rw [HL'.out]; exact Nat.le_refl _)]
        rfl)
      go_wp2_with fail
      go_ret
      exact ⟨by rw [HF.out]; rfl, rfl⟩
    obtain ⟨b', off', rfl, hcc⟩ := h'.addrI (by omega)
    have ky := hcc i hlt'
    clear hcc
    have d1 : decide (((i : Nat) : Int) ≥ ((n' : Nat) : Int)) = false := decide_eq_false (by omega)
    have d2 : decide (((n' : Nat) : Int) ≤ ((i : Nat) : Int)) = false := decide_eq_false (by omega)
    have hst := Lib.hid (lexZ_step (xs := xs) (ys := ys) (i := i) (by rw [HL.out]; exact hlt) (by rw [HL'.out]; exact hlt'))
    obtain ⟨x, hx⟩ : ∃ x, ith xs i = x := ⟨_, rfl⟩
    obtain ⟨y, hy⟩ : ∃ y, ith ys i = y := ⟨_, rfl⟩
    rw [hx] at kx
    rw [hy] at ky
    have HX := Lib.hid hx
    have HY := Lib.hid hy
    clear hx hy
    go_wp2_with fail
    refine (compare_any _ x y).mono ?_
    rintro e w1 ⟨rfl, rfl⟩
    obtain ⟨z, hz⟩ : ∃ z, cmpZ x y = z := ⟨_, rfl⟩
    rw [hz]
    have HZ := Lib.hid hz
    clear hz
    by_cases hz0 : z = 0
    case pos =>
      subst hz0
      have HS := Lib.hid (show r = lexZ (xs.drop (i + 1)) (ys.drop (i + 1)) by rw [hS.out, hst.out, HX.out, HY.out, HZ.out, if_pos rfl])
      go_wp2_with fail
      go_round
      case rel => exact ⟨i + 1, by omega, by omega, by go_num, HS⟩
      case measure => simp [intOf]; omega
    case neg =>
      have HF := Lib.hid (show r = z by rw [hS.out, hst.out, HX.out, HY.out, HZ.out, if_neg hz0])
      have e1 : (z == (0 : Int)) = false := by simpa using hz0
      have e2 : (z != (0 : Int)) = true := by simpa using hz0
      go_wp2_with fail
      go_ret
      exact ⟨by rw [HF.out]; rfl, rfl⟩
set_option maxHeartbeats 1000000 in
theorem equalI_any (w : World) {a : Option Addr} {n cap : Nat} {xs : List Int} (h : RdI w a n cap xs) {a' : Option Addr} {n' cap' : Nat} {ys : List Int} (h' : RdI w a' n' cap' ys) :
    Calls Try.prog 34 #[.slice a n cap, .slice a' n' cap'] w fun e w' => e = .returned (.bool (decide (xs = ys))) ∧ Below w.heap.size w w' := by
  have hn := h.lt
  have hn' := h'.lt
  have HL := Lib.hid h.len
  have HL' := Lib.hid h'.len
  obtain ⟨r, hr⟩ : ∃ r, decide (xs = ys) = r := ⟨_, rfl⟩
  rw [hr]
  have HR := Lib.hid hr
  clear hr
  go_enter Try.func34, Try.ntmps34
  by_cases hnn : n = n'
  case neg =>
    have HF := Lib.hid (show r = false by rw [← HR.out]; exact decide_eq_false (fun e => hnn (by rw [← HL.out, ← HL'.out, e])))
    have e1 : (((n : Nat) : Int) != ((n' : Nat) : Int)) = true := by simp; omega
    have e2 : (((n : Nat) : Int) == ((n' : Nat) : Int)) = false := by simp; omega
    go_wp2_with fail
    go_ret
    exact ⟨by rw [HF.out]; rfl, Below.refl _ _⟩
  subst hnn
  go_wp2_with fail
  go_loopw [13] (fun j wr => ∃ i : Nat, i ≤ n ∧ j = .int .i64 (i : Nat) ∧ Below w.heap.size w wr ∧ Hid (∀ k, k < i → ith xs k = ith ys k)) (fun j _ => n - (intOf j).toNat)
  case atStart => exact ⟨0, Nat.zero_le _, rfl, Below.refl _ _, Lib.hid fun k hk => absurd hk (by omega)⟩
  case round =>
    rename World => wr
    obtain ⟨i, hi, rfl, BT, hS⟩ := hrel
    by_cases hlt : i < n
    case neg =>
      obtain rfl : n = i := by omega
      have HF := Lib.hid (show r = true by rw [← HR.out]; exact decide_eq_true (g_ext 0 (by rw [HL.out, HL'.out]) fun k hk => hS.out k (by rw [← HL.out]; exact hk)))
      go_wp2_with fail
      go_ret
      exact ⟨by rw [HF.out]; rfl, BT⟩
    obtain ⟨b, off, rfl, hcc⟩ := (h.below BT).addrI (by omega)
    have kx := hcc i hlt
    clear hcc
    obtain ⟨b', off', rfl, hcc⟩ := (h'.below BT).addrI (by omega)
    have ky := hcc i hlt
    clear hcc
    obtain ⟨x, hx⟩ : ∃ x, ith xs i = x := ⟨_, rfl⟩
    obtain ⟨y, hy⟩ : ∃ y, ith ys i = y := ⟨_, rfl⟩
    rw [hx] at kx
    rw [hy] at ky
    have HX := Lib.hid hx
    have HY := Lib.hid hy
    clear hx hy
    have hb := BT.trans ((Below.refl wr.heap.size wr).drew.mono BT.size)
    clear BT
    go_upto_region 6 with fail
    refine wp_region_held_drew (S := (fun v => v.cell? ⟨b, off + i, none⟩ = some (.int .i64 x) ∧ v.cell? ⟨b', off' + i, none⟩ = some (.int .i64 y))) (by kernel_rfl) ?_ (fun hHeld => ?_)
    · exact ⟨kx, ky⟩
    generalize wr.drew = w4 at *
    refine wpAnyH_take (i := 0) (oi := ?oir0_0) (v := ?vr0_0) ?hir0_0 (by kernel_rfl) (by kernel_rfl) (by kernel_rfl) ?hqr0_0 ?hyr0_0 (by assumption) ?restr0_0
    case hir0_0 => simp only [List.getElem?_toArray, List.getElem?_cons_succ, List.getElem?_cons_zero]; rfl
    case hqr0_0 => exact fun _ _ _ h => h
    case hyr0_0 => (refine Or.inl ⟨by rfl, ?_⟩; intro w hSw; (try dsimp only at hSw); go_simp; all_goals with_reducible rfl)
    try simp only [Act.put, List.setIfInBounds_toArray, List.set_cons_zero, List.set_cons_succ]
    refine wpAnyH_take (i := 1) (oi := ?oir0_1) (v := ?vr0_1) ?hir0_1 (by kernel_rfl) (by kernel_rfl) (by kernel_rfl) ?hqr0_1 ?hyr0_1 (by assumption) ?restr0_1
    case hir0_1 => simp only [List.getElem?_toArray, List.getElem?_cons_succ, List.getElem?_cons_zero]; rfl
    case hqr0_1 => exact fun _ _ _ h => h
    case hyr0_1 => (refine Or.inl ⟨by rfl, ?_⟩; intro w hSw; (try dsimp only at hSw); go_simp; all_goals with_reducible rfl)
    try simp only [Act.put, List.setIfInBounds_toArray, List.set_cons_zero, List.set_cons_succ]
    refine wpAnyH_take (i := 2) (oi := ?oir0_2) (v := ?vr0_2) ?hir0_2 (by kernel_rfl) (by kernel_rfl) (by kernel_rfl) ?hqr0_2 ?hyr0_2 (by assumption) ?restr0_2
    case hir0_2 => simp only [List.getElem?_toArray, List.getElem?_cons_succ, List.getElem?_cons_zero]; rfl
    case hqr0_2 => exact fun _ _ _ h => h
    case hyr0_2 => (refine Or.inl ⟨by rfl, ?_⟩; intro w hSw; (try dsimp only at hSw); go_simp; all_goals with_reducible rfl)
    try simp only [Act.put, List.setIfInBounds_toArray, List.set_cons_zero, List.set_cons_succ]
    refine wpAnyH_take (i := 3) (oi := ?oir0_3) (v := ?vr0_3) ?hir0_3 (by kernel_rfl) (by kernel_rfl) (by kernel_rfl) ?hqr0_3 ?hyr0_3 (by assumption) ?restr0_3
    case hir0_3 => simp only [List.getElem?_toArray, List.getElem?_cons_succ, List.getElem?_cons_zero]; rfl
    case hqr0_3 => exact fun _ _ _ h => h
    case hyr0_3 => (refine Or.inl ⟨by rfl, ?_⟩; intro w hSw; (try dsimp only at hSw); go_simp; all_goals with_reducible rfl)
    try simp only [Act.put, List.setIfInBounds_toArray, List.set_cons_zero, List.set_cons_succ]
    refine wpAnyH_take (i := 4) (oi := ?oir0_4) (v := ?vr0_4) ?hir0_4 (by kernel_rfl) (by kernel_rfl) (by kernel_rfl) ?hqr0_4 ?hyr0_4 (by assumption) ?restr0_4
    case hir0_4 => simp only [List.getElem?_toArray, List.getElem?_cons_succ, List.getElem?_cons_zero]; rfl
    case hqr0_4 => exact fun _ _ _ h => h
    case hyr0_4 => (refine Or.inl ⟨by rfl, ?_⟩; intro w hSw; (try dsimp only at hSw); go_simp; all_goals with_reducible rfl)
    try simp only [Act.put, List.setIfInBounds_toArray, List.set_cons_zero, List.set_cons_succ]
    refine wpAnyH_take (i := 5) (oi := ?oir0_5) (v := ?vr0_5) ?hir0_5 (by kernel_rfl) (by kernel_rfl) (by kernel_rfl) ?hqr0_5 ?hyr0_5 (by assumption) ?restr0_5
    case hir0_5 => simp only [List.getElem?_toArray, List.getElem?_cons_succ, List.getElem?_cons_zero]; rfl
    case hqr0_5 => exact fun _ _ _ h => h
    case hyr0_5 => (refine Or.inl ⟨by rfl, ?_⟩; intro w hSw; (try dsimp only at hSw); go_simp; all_goals with_reducible rfl)
    try simp only [Act.put, List.setIfInBounds_toArray, List.set_cons_zero, List.set_cons_succ]
    refine wpAnyH_take (i := 6) (oi := ?oir0_6) (v := ?vr0_6) ?hir0_6 (by kernel_rfl) (by kernel_rfl) (by kernel_rfl) ?hqr0_6 ?hyr0_6 (by assumption) ?restr0_6
    case hir0_6 => simp only [List.getElem?_toArray, List.getElem?_cons_succ, List.getElem?_cons_zero]; rfl
    case hqr0_6 => exact fun _ _ _ h => h
    case hyr0_6 => (refine Or.inl ⟨by rfl, ?_⟩; intro w hSw; (try dsimp only at hSw); go_simp; all_goals with_reducible rfl)
    try simp only [Act.put, List.setIfInBounds_toArray, List.set_cons_zero, List.set_cons_succ]
    refine wpAnyH_take (i := 7) (oi := ?oir0_7) (v := ?vr0_7) ?hir0_7 (by kernel_rfl) (by kernel_rfl) (by kernel_rfl) ?hqr0_7 ?hyr0_7 (by assumption) ?restr0_7
    case hir0_7 => simp only [List.getElem?_toArray, List.getElem?_cons_succ, List.getElem?_cons_zero]; rfl
    case hqr0_7 => exact fun _ _ _ h => h
    case hyr0_7 => (refine Or.inl ⟨by rfl, ?_⟩; intro w hSw; (try dsimp only at hSw); go_simp; all_goals with_reducible rfl)
    try simp only [Act.put, List.setIfInBounds_toArray, List.set_cons_zero, List.set_cons_succ]
    refine wpAnyH_take (i := 8) (oi := ?oir0_8) (v := ?vr0_8) ?hir0_8 (by kernel_rfl) (by kernel_rfl) (by kernel_rfl) ?hqr0_8 ?hyr0_8 (by assumption) ?restr0_8
    case hir0_8 => simp only [List.getElem?_toArray, List.getElem?_cons_succ, List.getElem?_cons_zero]; rfl
    case hqr0_8 => exact fun _ _ _ h => h
    case hyr0_8 => (refine Or.inl ⟨by rfl, ?_⟩; intro w hSw; (try dsimp only at hSw); go_simp; all_goals with_reducible rfl)
    try simp only [Act.put, List.setIfInBounds_toArray, List.set_cons_zero, List.set_cons_succ]
    refine wpAnyH_done (by kernel_rfl) ?_ _
    clear hHeld kx ky
    by_cases e : x = y
    case pos =>
      subst e
      have HS : Hid (∀ k, k < i + 1 → ith xs k = ith ys k) := Lib.hid fun k hk => by
        by_cases hki : k < i
        · exact hS.out k hki
        · obtain rfl : k = i := by omega
          rw [HX.out, HY.out]
      go_wp2_with fail
      go_roundw
      case rel => exact ⟨i + 1, by omega, by go_num, hb, HS⟩
      case measure => simp [intOf]; omega
    case neg =>
      have HF := Lib.hid (show r = false by rw [← HR.out]; exact decide_eq_false (fun e2 => e (by rw [← HX.out, ← HY.out, e2])))
      have e1 : (x != y) = true := by simpa using e
      have e2 : (x == y) = false := by simpa using e
      go_wp2_with fail
      go_ret
      exact ⟨by rw [HF.out]; rfl, hb⟩

end Go.Proofs.Ythpjnbnheagpiaa
/- Profiles: Same, New, of. Conditions: none but sizes. Printed by gen_topd.py. -/
namespace Go.Proofs.Ythpjnbnheagpiaa
open Go.RowKit Go.Suf
set_option linter.unusedVariables false
set_option linter.unusedSimpArgs false

theorem atRow : AT Try.prog 92 2 := ⟨⟨_, Try.underlying92, rfl⟩, by kernel_rfl⟩
theorem atPrf : AT Try.prog 51 3 := ⟨⟨_, Try.underlying51, rfl⟩, by kernel_rfl⟩
theorem row_one (a : Option Addr) (n c : Nat) (i : Int) : ∀ u ∈ (#[.slice a n c, .int .i64 i] : Array Value).toList, u.oneCell' = true := by
  intro u hu
  simp at hu
  rcases hu with rfl | rfl <;> rfl
theorem prf_one (i k : Int) (a : Option Addr) (n c : Nat) : ∀ u ∈ (#[.int .i64 i, .int .u8 k, .slice a n c] : Array Value).toList, u.oneCell' = true := by
  intro u hu
  simp at hu
  rcases hu with rfl | rfl | rfl <;> rfl
/-- A profile. -/
structure FQ where
  cands : Int
  kd : Nat
  rows : List RwQ
def sameRw (x y : RwQ) : Bool := decide (x.many = y.many) && decide (x.ms = y.ms)
def sameF (p q : FQ) : Bool := decide (p.cands = q.cands) && decide (p.kd = q.kd) && decide (p.rows = q.rows)
theorem sameRw_iff (x y : RwQ) : sameRw x y = decide (x = y) := by
  cases x; cases y
  simp [sameRw, and_comm]

set_option maxRecDepth 100000 in
set_option maxHeartbeats 2000000 in
theorem sameRow_any (w : World) {a_x : Option Addr} {n_x c_x : Nat} {xs_x : List Int} (h_x : RdI w a_x n_x c_x xs_x) (m_x : Int) {a_y : Option Addr} {n_y c_y : Nat} {xs_y : List Int} (h_y : RdI w a_y n_y c_y xs_y) (m_y : Int) : Calls Try.prog 33 #[.agg #[.slice a_x n_x c_x, .int .i64 m_x], .agg #[.slice a_y n_y c_y, .int .i64 m_y]] w (fun e w' => e = .returned (.bool (sameRw ⟨xs_x, m_x⟩ ⟨xs_y, m_y⟩)) ∧ Below w.heap.size w w') := by
  have B0 : Below w.heap.size w w := Below.refl _ _
  have h_x_0 := h_x
  have h_y_0 := h_y
  go_enter Try.func33, Try.ntmps33
  have hb := below_al w (.cells #[.slice a_x n_x c_x, .int .i64 m_x] 92)
  have B1 := B0.trans (hb.mono B0.size)
  have h_x_1 := h_x_0.below hb
  have h_y_1 := h_y_0.below hb
  clear hb B0 h_x_0 h_y_0
  have h_r_1 := PRow.new 92 w #[.slice a_x n_x c_x, .int .i64 m_x]
  have hb := below_al (w.alloc (.cells #[.slice a_x n_x c_x, .int .i64 m_x] 92)) (.cells #[.slice a_y n_y c_y, .int .i64 m_y] 92)
  have B2 := B1.trans (hb.mono B1.size)
  have h_x_2 := h_x_1.below hb
  have h_y_2 := h_y_1.below hb
  have h_r_2 := h_r_1.later hb
  clear hb B1 h_x_1 h_y_1 h_r_1
  have h_s_2 := PRow.new 92 (w.alloc (.cells #[.slice a_x n_x c_x, .int .i64 m_x] 92)) #[.slice a_y n_y c_y, .int .i64 m_y]
  simp only [World.size_alloc] at h_s_2
  by_cases hm : m_x = m_y
  case neg =>
    have e1 : (m_x == m_y) = false := by simpa using hm
    have HM := Lib.hid hm
    clear hm
    have k_r_0 := h_r_2.cell 0 _ rfl
    have k_r_1 := h_r_2.cell 1 _ rfl
    have k_s_0 := h_s_2.cell 0 _ rfl
    have k_s_1 := h_s_2.cell 1 _ rfl
    go_wp2_with fail
    clear k_r_0 k_r_1 k_s_0 k_s_1
    generalize ((w.alloc (.cells #[.slice a_x n_x c_x, .int .i64 m_x] 92)).alloc (.cells #[.slice a_y n_y c_y, .int .i64 m_y] 92)) = w2 at *
    go_ret
    exact ⟨by rw [sameRw, decide_eq_false HM.out]; rfl, B2⟩
  have e1 : (m_x == m_y) = true := by simpa using hm
  have HM := Lib.hid hm
  clear hm
  have k_r_0 := h_r_2.cell 0 _ rfl
  have k_r_1 := h_r_2.cell 1 _ rfl
  have k_s_0 := h_s_2.cell 0 _ rfl
  have k_s_1 := h_s_2.cell 1 _ rfl
  go_wp2_with fail
  clear k_r_0 k_r_1 k_s_0 k_s_1
  generalize ((w.alloc (.cells #[.slice a_x n_x c_x, .int .i64 m_x] 92)).alloc (.cells #[.slice a_y n_y c_y, .int .i64 m_y] 92)) = w2 at *
  have c := equalI_any w2 h_x_2 h_y_2
  refine c.mono ?_
  rintro e w3 ⟨rfl, hb⟩
  clear c
  have B3 := B2.trans (hb.mono B2.size)
  have h_x_3 := h_x_2.below hb
  have h_y_3 := h_y_2.below hb
  have h_r_3 := h_r_2.later hb
  have h_s_3 := h_s_2.later hb
  clear hb B2 h_x_2 h_y_2 h_r_2 h_s_2
  go_wp2_with fail
  go_ret
  exact ⟨by rw [sameRw, decide_eq_true HM.out]; rfl, B3⟩

set_option maxRecDepth 100000 in
set_option maxHeartbeats 2000000 in
theorem equalRows_any (w : World) {a_x : Option Addr} {n_x c_x : Nat} {xs : List RwQ} (h_x : RdR w a_x n_x c_x xs) {a_y : Option Addr} {n_y c_y : Nat} {ys : List RwQ} (h_y : RdR w a_y n_y c_y ys) : Calls Try.prog 35 #[.slice a_x n_x c_x, .slice a_y n_y c_y, .func (.func 33) #[] #[]] w (fun e w' => e = .returned (.bool (decide (xs = ys))) ∧ Below w.heap.size w w') := by
  have hn := h_x.lt
  have hn' := h_y.lt
  have HL := Lib.hid h_x.len
  have HL' := Lib.hid h_y.len
  have HXX := Lib.hid h_x
  have HYY := Lib.hid h_y
  obtain ⟨r, hr⟩ : ∃ r, decide (xs = ys) = r := ⟨_, rfl⟩
  rw [hr]
  have HR := Lib.hid hr
  clear hr h_x h_y
  go_enter Try.func35, Try.ntmps35
  by_cases hnn : n_x = n_y
  case neg =>
    have HF := Lib.hid (show r = false by rw [← HR.out]; exact decide_eq_false (fun e => hnn (by rw [← HL.out, ← HL'.out, e])))
    have e1 : (((n_x : Nat) : Int) != ((n_y : Nat) : Int)) = true := by simp; omega
    have e2 : (((n_x : Nat) : Int) == ((n_y : Nat) : Int)) = false := by simp; omega
    go_wp2_with fail
    go_ret
    exact ⟨by rw [HF.out]; rfl, Below.refl _ _⟩
  subst hnn
  go_wp2_with fail
  go_loopw [17] (fun j wr => ∃ i : Nat, i ≤ n_x ∧ j = .int .i64 (i : Nat) ∧ Below w.heap.size w wr ∧ Hid (∀ k, k < i → xs[k]? = ys[k]?)) (fun j _ => n_x - (intOf j).toNat)
  case atStart => exact ⟨0, Nat.zero_le _, rfl, Below.refl _ _, Lib.hid fun k hk => absurd hk (by omega)⟩
  case round =>
    rename World => wr
    obtain ⟨i, hi, rfl, BT, hS⟩ := hrel
    by_cases hlt : i < n_x
    case neg =>
      obtain rfl : n_x = i := by omega
      have HF := Lib.hid (show r = true by
        rw [← HR.out]
        refine decide_eq_true (List.ext_getElem? fun k => ?_)
        by_cases hk : k < n_x
        · exact hS.out k hk
        · rw [List.getElem?_eq_none (by rw [HL.out]; omega), List.getElem?_eq_none (by rw [HL'.out]; omega)])
      go_wp2_with fail
      go_ret
      exact ⟨by rw [HF.out]; rfl, BT⟩
    obtain ⟨x, hx⟩ : ∃ x, xs[i]? = some x := ⟨_, List.getElem?_eq_getElem (by rw [HL.out]; exact hlt)⟩
    obtain ⟨y, hy⟩ : ∃ y, ys[i]? = some y := ⟨_, List.getElem?_eq_getElem (by rw [HL'.out]; exact hlt)⟩
    obtain ⟨bx, ox, rfl, hcc⟩ := (HXX.out.below rowE_lasts BT).addr (by omega)
    obtain ⟨by_, oy, rfl, hcd⟩ := (HYY.out.below rowE_lasts BT).addr (by omega)
    obtain ⟨u1, v1, kx0, kx1, rfl, -, a_x, m_x, d_x, rfl, h_x⟩ := hcc i x hx
    obtain ⟨u2, v2, ky0, ky1, rfl, -, a_y, m_y, d_y, rfl, h_y⟩ := hcd i y hy
    have HX := Lib.hid hx
    have HY := Lib.hid hy
    clear hcc hcd hx hy
    have B300 := BT
    have h_x_300 := h_x
    have h_y_300 := h_y
    clear BT h_x h_y
    have ky0b := cell_below (below_al wr (.cells #[.slice a_x m_x d_x, .int .i64 x.many] 92)) ky0
    have ky1b := cell_below (below_al wr (.cells #[.slice a_x m_x d_x, .int .i64 x.many] 92)) ky1
    clear ky0 ky1
    have hb := below_al wr (.cells #[.slice a_x m_x d_x, .int .i64 x.many] 92)
    have B301 := B300.trans (hb.mono B300.size)
    have h_x_301 := h_x_300.below hb
    have h_y_301 := h_y_300.below hb
    clear hb B300 h_x_300 h_y_300
    have h_r_301 := PRow.new 92 wr #[.slice a_x m_x d_x, .int .i64 x.many]
    have hb := below_al (wr.alloc (.cells #[.slice a_x m_x d_x, .int .i64 x.many] 92)) (.cells #[.slice a_y m_y d_y, .int .i64 y.many] 92)
    have B302 := B301.trans (hb.mono B301.size)
    have h_x_302 := h_x_301.below hb
    have h_y_302 := h_y_301.below hb
    have h_r_302 := h_r_301.later hb
    clear hb B301 h_x_301 h_y_301 h_r_301
    have h_t_302 := PRow.new 92 (wr.alloc (.cells #[.slice a_x m_x d_x, .int .i64 x.many] 92)) #[.slice a_y m_y d_y, .int .i64 y.many]
    simp only [World.size_alloc] at h_t_302
    have k_r_0 := h_r_302.cell 0 _ rfl
    have k_r_1 := h_r_302.cell 1 _ rfl
    have k_t_0 := h_t_302.cell 0 _ rfl
    have k_t_1 := h_t_302.cell 1 _ rfl
    go_wp2_with first | refine wpList_store_new rfl 92 _ _ rfl atRow _ _ _ rfl rfl rfl rfl (row_one _ _ _ _) ?_
    clear k_r_0 k_r_1 k_t_0 k_t_1
    generalize ((wr.alloc (.cells #[.slice a_x m_x d_x, .int .i64 x.many] 92)).alloc (.cells #[.slice a_y m_y d_y, .int .i64 y.many] 92)) = w302 at *
    have c := sameRow_any w302 h_x_302 x.many h_y_302 y.many
    rw [show sameRw ⟨x.ms, x.many⟩ ⟨y.ms, y.many⟩ = decide (x = y) from sameRw_iff x y] at c
    refine c.mono ?_
    rintro e w303 ⟨rfl, hb⟩
    clear c
    have B303 := B302.trans (hb.mono B302.size)
    have h_x_303 := h_x_302.below hb
    have h_y_303 := h_y_302.below hb
    have h_r_303 := h_r_302.later hb
    have h_t_303 := h_t_302.later hb
    clear hb B302 h_x_302 h_y_302 h_r_302 h_t_302
    by_cases e : x = y
    case pos =>
      have e1 : decide (x = y) = true := decide_eq_true e
      rw [e1]
      have HS : Hid (∀ k, k < i + 1 → xs[k]? = ys[k]?) := Lib.hid fun k hk => by
        by_cases hki : k < i
        · exact hS.out k hki
        · obtain rfl : k = i := by omega
          rw [HX.out, HY.out, e]
      clear e e1
      go_wp2_with fail
      go_roundw
      case rel => exact ⟨i + 1, by omega, by go_num, B303, HS⟩
      case measure => simp [intOf]; omega
    case neg =>
      have e1 : decide (x = y) = false := decide_eq_false e
      rw [e1]
      have HF := Lib.hid (show r = false by rw [← HR.out]; exact decide_eq_false (fun h => e (by have := HX.out; rw [h, HY.out] at this; exact (Option.some.inj this).symm)))
      clear e e1
      go_wp2_with fail
      go_ret
      exact ⟨by rw [HF.out]; rfl, B303⟩

end Go.Proofs.Ythpjnbnheagpiaa
