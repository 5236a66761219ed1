/- Cmp in the document's answer. -/
import Derived.Test.YtdaajeklnhbhjaaGreatDoorRatH
import Derived.Deep.RegionHeld3
namespace Go.Proofs.YtdaajeklnhbhjaaGreatDoor
open Go.RowKit Go.Suf
set_option linter.unusedVariables false
set_option linter.unusedSimpArgs false

def RetIEB (w : World) (r : Int × Int) : Ending → World → Prop := fun e w' => e = .returned (.tuple #[.int .i64 r.1, .int .i64 r.2]) ∧ Below w.heap.size w w'

theorem keep_two {w1 w2 w3 : World} {x y : Nat} {u0 u1 u2 v0 v1 v2 : Value} (h : Below w1.heap.size w1 w2 ∧ w2.cell? ⟨x, 0, none⟩ = some u0 ∧ w2.cell? ⟨x, 1, none⟩ = some u1 ∧ w2.cell? ⟨x, 2, none⟩ = some u2 ∧ w2.cell? ⟨y, 0, none⟩ = some v0 ∧ w2.cell? ⟨y, 1, none⟩ = some v1 ∧ w2.cell? ⟨y, 2, none⟩ = some v2)
    (hb : Below w2.heap.size w2 w3) (hx : x < w1.heap.size) (hy : y < w1.heap.size) : Below w1.heap.size w1 w3 ∧ w3.cell? ⟨x, 0, none⟩ = some u0 ∧ w3.cell? ⟨x, 1, none⟩ = some u1 ∧ w3.cell? ⟨x, 2, none⟩ = some u2 ∧ w3.cell? ⟨y, 0, none⟩ = some v0 ∧ w3.cell? ⟨y, 1, none⟩ = some v1 ∧ w3.cell? ⟨y, 2, none⟩ = some v2 := by
  obtain ⟨h0, h1, h2, h3, h4, h5, h6⟩ := h
  have := h0.size
  exact ⟨h0.trans (hb.mono h0.size), cell_later hb h1 (by omega), cell_later hb h2 (by omega), cell_later hb h3 (by omega), cell_later hb h4 (by omega), cell_later hb h5 (by omega), cell_later hb h6 (by omega)⟩

theorem two_drew {w1 w2 : World} {x y : Nat} {u0 u1 u2 v0 v1 v2 : Value} (h : Below w1.heap.size w1 w2 ∧ w2.cell? ⟨x, 0, none⟩ = some u0 ∧ w2.cell? ⟨x, 1, none⟩ = some u1 ∧ w2.cell? ⟨x, 2, none⟩ = some u2 ∧ w2.cell? ⟨y, 0, none⟩ = some v0 ∧ w2.cell? ⟨y, 1, none⟩ = some v1 ∧ w2.cell? ⟨y, 2, none⟩ = some v2) :
    Below w1.heap.size w1 w2.drew ∧ w2.drew.cell? ⟨x, 0, none⟩ = some u0 ∧ w2.drew.cell? ⟨x, 1, none⟩ = some u1 ∧ w2.drew.cell? ⟨x, 2, none⟩ = some u2 ∧ w2.drew.cell? ⟨y, 0, none⟩ = some v0 ∧ w2.drew.cell? ⟨y, 1, none⟩ = some v1 ∧ w2.drew.cell? ⟨y, 2, none⟩ = some v2 := by
  obtain ⟨h0, h1, h2, h3, h4, h5, h6⟩ := h
  simp only [World.cell?_drew]
  exact ⟨h0.drew, h1, h2, h3, h4, h5, h6⟩

/-- The four ways of a comparison of valid numbers. -/
theorem cmp_ways (p q : Rat) : (sideQ p < sideQ q ∧ cmpQ p q = (-1, 0)) ∨ (sideQ q < sideQ p ∧ cmpQ p q = (1, 0)) ∨ (sideQ p = 0 ∧ sideQ q = 0 ∧ cmpQ p q = (0, 0)) ∨ (sideQ p = sideQ q ∧ sideQ p ≠ 0) := by
  rcases sideQ_three p with hp | hp | hp <;> rcases sideQ_three q with hq | hq | hq
  · exact .inr (.inr (.inr ⟨by rw [hp, hq], by rw [hp]; decide⟩))
  · refine .inl ⟨by rw [hp, hq]; decide, ?_⟩
    rw [cmpQ, if_neg (by rw [hp, hq]; simp), cmpR_side (.inl (by rw [hp, hq]; decide)), hp, hq]; rfl
  · refine .inl ⟨by rw [hp, hq]; decide, ?_⟩
    rw [cmpQ, if_neg (by rw [hp, hq]; simp), cmpR_side (.inl (by rw [hp, hq]; decide)), hp, hq]; rfl
  · refine .inr (.inl ⟨by rw [hp, hq]; decide, ?_⟩)
    rw [cmpQ, if_neg (by rw [hp, hq]; simp), cmpR_side (.inl (by rw [hp, hq]; decide)), hp, hq]; rfl
  · refine .inr (.inr (.inl ⟨hp, hq, ?_⟩))
    rw [cmpQ, if_neg (by rw [hp]; simp), cmpR_side (.inr hp), hp, hq]; rfl
  · refine .inl ⟨by rw [hp, hq]; decide, ?_⟩
    rw [cmpQ, if_neg (by rw [hp, hq]; simp), cmpR_side (.inl (by rw [hp, hq]; decide)), hp, hq]; rfl
  · refine .inr (.inl ⟨by rw [hp, hq]; decide, ?_⟩)
    rw [cmpQ, if_neg (by rw [hp, hq]; simp), cmpR_side (.inl (by rw [hp, hq]; decide)), hp, hq]; rfl
  · refine .inr (.inl ⟨by rw [hp, hq]; decide, ?_⟩)
    rw [cmpQ, if_neg (by rw [hp, hq]; simp), cmpR_side (.inl (by rw [hp, hq]; decide)), hp, hq]; rfl
  · exact .inr (.inr (.inr ⟨by rw [hp, hq], by rw [hp]; decide⟩))

theorem cmp_far {p q : Rat} (h : sideQ p = sideQ q ∧ sideQ p ≠ 0) (hf : ¬ (p.num.natAbs * q.den < pw 96 ∧ q.num.natAbs * p.den < pw 96)) : cmpQ p q = (0, 30) := by
  rw [cmpQ, if_pos ⟨h.1, h.2, hf⟩]

theorem cmp_near {p q : Rat} (h : sideQ p = sideQ q) (hf : p.num.natAbs * q.den < pw 96 ∧ q.num.natAbs * p.den < pw 96) : cmpQ p q = (sideQ p * cmpN (p.num.natAbs * q.den) (q.num.natAbs * p.den), 0) := by
  rw [cmpQ, if_neg (fun h => h.2.2 hf), cmpR_cross h]

theorem side_wrap {s c : Int} (h : s = -1 ∨ s = 0 ∨ s = 1) (h2 : c = -1 ∨ c = 0 ∨ c = 1) : wrap64 (s * c) = s * c := by
  rcases h with rfl | rfl | rfl <;> rcases h2 with rfl | rfl | rfl <;> simp [wrap64]

theorem cmpN_three (a b : Nat) : cmpN a b = -1 ∨ cmpN a b = 0 ∨ cmpN a b = 1 := by
  unfold cmpN
  split
  · simp
  · split <;> simp

set_option maxRecDepth 100000 in
set_option maxHeartbeats 4000000 in
theorem refRatCmp_any (w : World) {g1 g2 : Bool} {a b a' b' : Option Addr} {n m c d n' m' c' d' : Nat} {xs ys xs' ys' : List Nat}
    (h1 : Rd .u32 w a n c xs) (h2 : Rd .u32 w b m d ys) (h3 : Rd .u32 w a' n' c' xs') (h4 : Rd .u32 w b' m' d' ys') :
    Calls Tryz.prog 17 #[ratV g1 a n c b m d, ratV g2 a' n' c' b' m' d'] w (RetIEB w (cmpV ⟨g1, xs, ys⟩ ⟨g2, xs', ys'⟩)) := by
  obtain ⟨r, hr⟩ : ∃ r, r = cmpV ⟨g1, xs, ys⟩ ⟨g2, xs', ys'⟩ := ⟨_, rfl⟩
  rw [← hr]
  obtain ⟨L1, L2⟩ := two_boxes w #[.bool g1, .slice a n c, .slice b m d] #[.bool g2, .slice a' n' c', .slice b' m' d']
  have k0 := L1.cell 0 _ rfl
  have k1 := L1.cell 1 _ rfl
  have k2 := L1.cell 2 _ rfl
  have k3 := L2.cell 0 _ rfl
  have k4 := L2.cell 1 _ rfl
  have k5 := L2.cell 2 _ rfl
  by_cases hg : chkV ⟨g1, xs, ys⟩ = 0 ∧ chkV ⟨g2, xs', ys'⟩ = 0
  case neg =>
    have e := Lib.hid (show r = (0, 8) by rw [hr, cmpV, if_neg hg])
    have C := Lib.hid (show bothOk ⟨g1, xs, ys⟩ ⟨g2, xs', ys'⟩ = false by unfold bothOk; exact decide_eq_false hg)
    clear hr hg
    go_enter Tryz.func17, Tryz.ntmps17
    go_wp2_with fail
    have cc := refRatBoth_any (g1 := g1) (g2 := g2) _ (h1.below L1.below) (h2.below L1.below) (h3.below L1.below) (h4.below L1.below)
    rw [C.out] at cc
    refine cc.mono ?_
    rintro e1 w1 ⟨rfl, hb⟩
    clear cc
    go_wp2_with fail
    go_ret2
    exact ⟨by rw [e.out]; rfl, L1.below.trans (hb.mono L1.below.size)⟩
  case pos =>
  have C := Lib.hid (show bothOk ⟨g1, xs, ys⟩ ⟨g2, xs', ys'⟩ = true by unfold bothOk; exact decide_eq_true hg)
  have hr' : r = cmpQ (toQ ⟨g1, xs, ys⟩) (toQ ⟨g2, xs', ys'⟩) := by rw [hr, cmpV, if_pos hg]
  obtain ⟨p, e1, f1⟩ := chkV_get (x := ⟨g1, xs, ys⟩) h1.bd h2.bd hg.1
  obtain ⟨q, e2, f2⟩ := chkV_get (x := ⟨g2, xs', ys'⟩) h3.bd h4.bd hg.2
  rw [e1, e2, toQ_ofQ, toQ_ofQ] at hr'
  have hsd1 : sideV ⟨g1, xs, ys⟩ = sideQ p := by rw [e1, sideV_ofQ]
  have hsd2 : sideV ⟨g2, xs', ys'⟩ = sideQ q := by rw [e2, sideV_ofQ]
  have ex : xs = limbs p.num.natAbs ∧ ys = limbs p.den := by
    unfold ofQ at e1
    injection e1 with e1 e3 e4
    exact ⟨e3, e4⟩
  have ex' : xs' = limbs q.num.natAbs ∧ ys' = limbs q.den := by
    unfold ofQ at e2
    injection e2 with e2 e3 e4
    exact ⟨e3, e4⟩
  have HR := Lib.hid hr'
  have EX := Lib.hid ex
  have EX' := Lib.hid ex'
  have F1 := Lib.hid f1
  have F2 := Lib.hid f2
  obtain ⟨s, hs⟩ : ∃ s, s = sideQ p := ⟨_, rfl⟩
  obtain ⟨t, ht⟩ : ∃ t, t = sideQ q := ⟨_, rfl⟩
  have HS := Lib.hid hs
  have HT := Lib.hid ht
  have SD1 := Lib.hid (hsd1.trans hs.symm)
  have SD2 := Lib.hid (hsd2.trans ht.symm)
  clear hr hr' e1 e2 f1 f2 ex ex' hsd1 hsd2 hg hs ht
  go_enter Tryz.func17, Tryz.ntmps17
  go_wp2_with fail
  have cc := refRatBoth_any (g1 := g1) (g2 := g2) _ (h1.below L1.below) (h2.below L1.below) (h3.below L1.below) (h4.below L1.below)
  rw [C.out] at cc
  refine cc.mono ?_
  rintro e1 w1 ⟨rfl, hb⟩
  clear cc
  have L3 := L1.later hb
  have L4 := L2.later hb
  have r1 := fun w' (hw : Below w1.heap.size w1 w') => (h1.below L3.below).below hw
  have r2 := fun w' (hw : Below w1.heap.size w1 w') => (h2.below L3.below).below hw
  have r3 := fun w' (hw : Below w1.heap.size w1 w') => (h3.below L3.below).below hw
  have r4 := fun w' (hw : Below w1.heap.size w1 w') => (h4.below L3.below).below hw
  have hHeld : (fun w' => Below w1.heap.size w1 w' ∧ w'.cell? ⟨w.heap.size, 0, none⟩ = some (.bool g1) ∧ w'.cell? ⟨w.heap.size, 1, none⟩ = some (.slice a n c) ∧ w'.cell? ⟨w.heap.size, 2, none⟩ = some (.slice b m d) ∧ w'.cell? ⟨w.heap.size + 1, 0, none⟩ = some (.bool g2) ∧ w'.cell? ⟨w.heap.size + 1, 1, none⟩ = some (.slice a' n' c') ∧ w'.cell? ⟨w.heap.size + 1, 2, none⟩ = some (.slice b' m' d')) w1 := ⟨Below.refl _ _, L3.cell 0 _ rfl, L3.cell 1 _ rfl, L3.cell 2 _ rfl, L4.cell 0 _ rfl, L4.cell 1 _ rfl, L4.cell 2 _ rfl⟩
  dsimp only at hHeld
  have sd1 := fun w' (hw : Below w1.heap.size w1 w') => refSide_any (neg := g1) w' (r1 w' hw) (r2 w' hw)
  have sd2 := fun w' (hw : Below w1.heap.size w1 w') => refSide_any (neg := g2) w' (r3 w' hw) (r4 w' hw)
  rw [SD1.out] at sd1
  rw [SD2.out] at sd2
  have lt1 := L3.lt
  have lt2 := L4.lt
  clear k0 k1 k2 k3 k4 k5 L1 L2 L4 hb h1 h2 h3 h4
  go_wp2_with fail
  have ways := cmp_ways p q
  rw [← HS.out, ← HT.out, ← HR.out] at ways
  have WS := Lib.hid ways
  clear ways
  by_cases w1c : s < t
  · have d1 : decide (s < t) = true := decide_eq_true w1c
    have e := Lib.hid (show r = (-1, 0) by rcases WS.out with h | h | h | h <;> first | exact h.2 | (exfalso; omega))
    clear w1c
    refine wp_region_held_drew (S := (fun w' => Below w1.heap.size w1 w' ∧ w'.cell? ⟨w.heap.size, 0, none⟩ = some (.bool g1) ∧ w'.cell? ⟨w.heap.size, 1, none⟩ = some (.slice a n c) ∧ w'.cell? ⟨w.heap.size, 2, none⟩ = some (.slice b m d) ∧ w'.cell? ⟨w.heap.size + 1, 0, none⟩ = some (.bool g2) ∧ w'.cell? ⟨w.heap.size + 1, 1, none⟩ = some (.slice a' n' c') ∧ w'.cell? ⟨w.heap.size + 1, 2, none⟩ = some (.slice b' m' d'))) (by kernel_rfl) ?_ (fun hHeld => ?_)
    · exact two_drew hHeld
    refine wpAnyH_take (i := 0) (oi := ?oir1_0) (v := ?vr1_0) ?hir1_0 (by kernel_rfl) (by kernel_rfl) (by kernel_rfl) ?hqr1_0 ?hyr1_0 (by assumption) ?restr1_0
    case hir1_0 => simp only [List.getElem?_toArray, List.getElem?_cons_succ, List.getElem?_cons_zero]; rfl
    case hqr1_0 => exact fun _ _ _ h => h
    case hyr1_0 => (refine Or.inl ⟨by rfl, ?_⟩; intro w hSw; (try dsimp only at hSw); go_simp; all_goals with_reducible rfl)
    try simp only [Act.put, List.setIfInBounds_toArray, List.set_cons_zero, List.set_cons_succ]
    refine wpAnyH_take (i := 2) (oi := ?oir1_2) (v := ?vr1_2) ?hir1_2 (by kernel_rfl) (by kernel_rfl) (by kernel_rfl) ?hqr1_2 ?hyr1_2 (by assumption) ?restr1_2
    case hir1_2 => simp only [List.getElem?_toArray, List.getElem?_cons_succ, List.getElem?_cons_zero]; rfl
    case hqr1_2 => exact fun _ _ _ h => h
    case hyr1_2 => (refine Or.inl ⟨by rfl, ?_⟩; intro w hSw; (try dsimp only at hSw); go_simp; all_goals with_reducible rfl)
    try simp only [Act.put, List.setIfInBounds_toArray, List.set_cons_zero, List.set_cons_succ]
    refine wpAnyH_ready (rs := [1]) (by kernel_rfl) (by simp) ?_
    refine AllReadyH.cons (o := ?or1_1) ?hor1_1 (fun K hK => ?kr1_1) AllReadyH.nil
    case hor1_1 => simp only [List.getElem?_toArray, List.getElem?_cons_succ, List.getElem?_cons_zero]; rfl
    go_simp
    (with_reducible refine (sd1 _ hHeld.1).mono ?_); rintro e2 w2 ⟨rfl, hb2⟩
    go_wp2_with fail
    refine hK.out _ _ ?_ (fun hHeld => ?_)
    · exact keep_two hHeld hb2 (by omega) (by omega)
    clear hK K
    try simp only [Act.put, List.setIfInBounds_toArray, List.set_cons_zero, List.set_cons_succ]
    refine wpAnyH_ready (rs := [3]) (by kernel_rfl) (by simp) ?_
    refine AllReadyH.cons (o := ?or1_3) ?hor1_3 (fun K hK => ?kr1_3) AllReadyH.nil
    case hor1_3 => simp only [List.getElem?_toArray, List.getElem?_cons_succ, List.getElem?_cons_zero]; rfl
    go_simp
    (with_reducible refine (sd2 _ hHeld.1).mono ?_); rintro e2 w2 ⟨rfl, hb2⟩
    go_wp2_with fail
    refine hK.out _ _ ?_ (fun hHeld => ?_)
    · exact keep_two hHeld hb2 (by omega) (by omega)
    clear hK K
    try simp only [Act.put, List.setIfInBounds_toArray, List.set_cons_zero, List.set_cons_succ]
    refine wpAnyH_take (i := 4) (oi := ?oir1_4) (v := ?vr1_4) ?hir1_4 (by kernel_rfl) (by kernel_rfl) (by kernel_rfl) ?hqr1_4 ?hyr1_4 (by assumption) ?restr1_4
    case hir1_4 => simp only [List.getElem?_toArray, List.getElem?_cons_succ, List.getElem?_cons_zero]; rfl
    case hqr1_4 => exact fun _ _ _ h => h
    case hyr1_4 => (refine Or.inl ⟨by rfl, ?_⟩; intro w hSw; (try dsimp only at hSw); go_simp; all_goals with_reducible rfl)
    try simp only [Act.put, List.setIfInBounds_toArray, List.set_cons_zero, List.set_cons_succ]
    refine wpAnyH_done (by kernel_rfl) ?_ _
    go_wp2_with fail
    go_ret2
    exact ⟨by rw [e.out]; rfl, L3.below.trans (hHeld.1.mono L3.below.size)⟩
  have d1 : decide (s < t) = false := decide_eq_false w1c
  refine wp_region_held_drew (S := (fun w' => Below w1.heap.size w1 w' ∧ w'.cell? ⟨w.heap.size, 0, none⟩ = some (.bool g1) ∧ w'.cell? ⟨w.heap.size, 1, none⟩ = some (.slice a n c) ∧ w'.cell? ⟨w.heap.size, 2, none⟩ = some (.slice b m d) ∧ w'.cell? ⟨w.heap.size + 1, 0, none⟩ = some (.bool g2) ∧ w'.cell? ⟨w.heap.size + 1, 1, none⟩ = some (.slice a' n' c') ∧ w'.cell? ⟨w.heap.size + 1, 2, none⟩ = some (.slice b' m' d'))) (by kernel_rfl) ?_ (fun hHeld => ?_)
  · exact two_drew hHeld
  refine wpAnyH_take (i := 0) (oi := ?oir2_0) (v := ?vr2_0) ?hir2_0 (by kernel_rfl) (by kernel_rfl) (by kernel_rfl) ?hqr2_0 ?hyr2_0 (by assumption) ?restr2_0
  case hir2_0 => simp only [List.getElem?_toArray, List.getElem?_cons_succ, List.getElem?_cons_zero]; rfl
  case hqr2_0 => exact fun _ _ _ h => h
  case hyr2_0 => (refine Or.inl ⟨by rfl, ?_⟩; intro w hSw; (try dsimp only at hSw); go_simp; all_goals with_reducible rfl)
  try simp only [Act.put, List.setIfInBounds_toArray, List.set_cons_zero, List.set_cons_succ]
  refine wpAnyH_take (i := 2) (oi := ?oir2_2) (v := ?vr2_2) ?hir2_2 (by kernel_rfl) (by kernel_rfl) (by kernel_rfl) ?hqr2_2 ?hyr2_2 (by assumption) ?restr2_2
  case hir2_2 => simp only [List.getElem?_toArray, List.getElem?_cons_succ, List.getElem?_cons_zero]; rfl
  case hqr2_2 => exact fun _ _ _ h => h
  case hyr2_2 => (refine Or.inl ⟨by rfl, ?_⟩; intro w hSw; (try dsimp only at hSw); go_simp; all_goals with_reducible rfl)
  try simp only [Act.put, List.setIfInBounds_toArray, List.set_cons_zero, List.set_cons_succ]
  refine wpAnyH_ready (rs := [1]) (by kernel_rfl) (by simp) ?_
  refine AllReadyH.cons (o := ?or2_1) ?hor2_1 (fun K hK => ?kr2_1) AllReadyH.nil
  case hor2_1 => simp only [List.getElem?_toArray, List.getElem?_cons_succ, List.getElem?_cons_zero]; rfl
  go_simp
  (with_reducible refine (sd1 _ hHeld.1).mono ?_); rintro e2 w2 ⟨rfl, hb2⟩
  go_wp2_with fail
  refine hK.out _ _ ?_ (fun hHeld => ?_)
  · exact keep_two hHeld hb2 (by omega) (by omega)
  clear hK K
  try simp only [Act.put, List.setIfInBounds_toArray, List.set_cons_zero, List.set_cons_succ]
  refine wpAnyH_ready (rs := [3]) (by kernel_rfl) (by simp) ?_
  refine AllReadyH.cons (o := ?or2_3) ?hor2_3 (fun K hK => ?kr2_3) AllReadyH.nil
  case hor2_3 => simp only [List.getElem?_toArray, List.getElem?_cons_succ, List.getElem?_cons_zero]; rfl
  go_simp
  (with_reducible refine (sd2 _ hHeld.1).mono ?_); rintro e2 w2 ⟨rfl, hb2⟩
  go_wp2_with fail
  refine hK.out _ _ ?_ (fun hHeld => ?_)
  · exact keep_two hHeld hb2 (by omega) (by omega)
  clear hK K
  try simp only [Act.put, List.setIfInBounds_toArray, List.set_cons_zero, List.set_cons_succ]
  refine wpAnyH_take (i := 4) (oi := ?oir2_4) (v := ?vr2_4) ?hir2_4 (by kernel_rfl) (by kernel_rfl) (by kernel_rfl) ?hqr2_4 ?hyr2_4 (by assumption) ?restr2_4
  case hir2_4 => simp only [List.getElem?_toArray, List.getElem?_cons_succ, List.getElem?_cons_zero]; rfl
  case hqr2_4 => exact fun _ _ _ h => h
  case hyr2_4 => (refine Or.inl ⟨by rfl, ?_⟩; intro w hSw; (try dsimp only at hSw); go_simp; all_goals with_reducible rfl)
  try simp only [Act.put, List.setIfInBounds_toArray, List.set_cons_zero, List.set_cons_succ]
  refine wpAnyH_done (by kernel_rfl) ?_ _
  go_wp2_with fail
  by_cases w2c : t < s
  · have d2 : decide (t < s) = true := decide_eq_true w2c
    have e := Lib.hid (show r = (1, 0) by rcases WS.out with h | h | h | h <;> first | exact h.2 | (exfalso; omega))
    clear w2c
    refine wp_region_held_drew (S := (fun w' => Below w1.heap.size w1 w' ∧ w'.cell? ⟨w.heap.size, 0, none⟩ = some (.bool g1) ∧ w'.cell? ⟨w.heap.size, 1, none⟩ = some (.slice a n c) ∧ w'.cell? ⟨w.heap.size, 2, none⟩ = some (.slice b m d) ∧ w'.cell? ⟨w.heap.size + 1, 0, none⟩ = some (.bool g2) ∧ w'.cell? ⟨w.heap.size + 1, 1, none⟩ = some (.slice a' n' c') ∧ w'.cell? ⟨w.heap.size + 1, 2, none⟩ = some (.slice b' m' d'))) (by kernel_rfl) ?_ (fun hHeld => ?_)
    · exact two_drew hHeld
    refine wpAnyH_take (i := 0) (oi := ?oir3_0) (v := ?vr3_0) ?hir3_0 (by kernel_rfl) (by kernel_rfl) (by kernel_rfl) ?hqr3_0 ?hyr3_0 (by assumption) ?restr3_0
    case hir3_0 => simp only [List.getElem?_toArray, List.getElem?_cons_succ, List.getElem?_cons_zero]; rfl
    case hqr3_0 => exact fun _ _ _ h => h
    case hyr3_0 => (refine Or.inl ⟨by rfl, ?_⟩; intro w hSw; (try dsimp only at hSw); go_simp; all_goals with_reducible rfl)
    try simp only [Act.put, List.setIfInBounds_toArray, List.set_cons_zero, List.set_cons_succ]
    refine wpAnyH_take (i := 2) (oi := ?oir3_2) (v := ?vr3_2) ?hir3_2 (by kernel_rfl) (by kernel_rfl) (by kernel_rfl) ?hqr3_2 ?hyr3_2 (by assumption) ?restr3_2
    case hir3_2 => simp only [List.getElem?_toArray, List.getElem?_cons_succ, List.getElem?_cons_zero]; rfl
    case hqr3_2 => exact fun _ _ _ h => h
    case hyr3_2 => (refine Or.inl ⟨by rfl, ?_⟩; intro w hSw; (try dsimp only at hSw); go_simp; all_goals with_reducible rfl)
    try simp only [Act.put, List.setIfInBounds_toArray, List.set_cons_zero, List.set_cons_succ]
    refine wpAnyH_ready (rs := [1]) (by kernel_rfl) (by simp) ?_
    refine AllReadyH.cons (o := ?or3_1) ?hor3_1 (fun K hK => ?kr3_1) AllReadyH.nil
    case hor3_1 => simp only [List.getElem?_toArray, List.getElem?_cons_succ, List.getElem?_cons_zero]; rfl
    go_simp
    (with_reducible refine (sd1 _ hHeld.1).mono ?_); rintro e2 w2 ⟨rfl, hb2⟩
    go_wp2_with fail
    refine hK.out _ _ ?_ (fun hHeld => ?_)
    · exact keep_two hHeld hb2 (by omega) (by omega)
    clear hK K
    try simp only [Act.put, List.setIfInBounds_toArray, List.set_cons_zero, List.set_cons_succ]
    refine wpAnyH_ready (rs := [3]) (by kernel_rfl) (by simp) ?_
    refine AllReadyH.cons (o := ?or3_3) ?hor3_3 (fun K hK => ?kr3_3) AllReadyH.nil
    case hor3_3 => simp only [List.getElem?_toArray, List.getElem?_cons_succ, List.getElem?_cons_zero]; rfl
    go_simp
    (with_reducible refine (sd2 _ hHeld.1).mono ?_); rintro e2 w2 ⟨rfl, hb2⟩
    go_wp2_with fail
    refine hK.out _ _ ?_ (fun hHeld => ?_)
    · exact keep_two hHeld hb2 (by omega) (by omega)
    clear hK K
    try simp only [Act.put, List.setIfInBounds_toArray, List.set_cons_zero, List.set_cons_succ]
    refine wpAnyH_take (i := 4) (oi := ?oir3_4) (v := ?vr3_4) ?hir3_4 (by kernel_rfl) (by kernel_rfl) (by kernel_rfl) ?hqr3_4 ?hyr3_4 (by assumption) ?restr3_4
    case hir3_4 => simp only [List.getElem?_toArray, List.getElem?_cons_succ, List.getElem?_cons_zero]; rfl
    case hqr3_4 => exact fun _ _ _ h => h
    case hyr3_4 => (refine Or.inl ⟨by rfl, ?_⟩; intro w hSw; (try dsimp only at hSw); go_simp; all_goals with_reducible rfl)
    try simp only [Act.put, List.setIfInBounds_toArray, List.set_cons_zero, List.set_cons_succ]
    refine wpAnyH_done (by kernel_rfl) ?_ _
    go_wp2_with fail
    go_ret2
    exact ⟨by rw [e.out]; rfl, L3.below.trans (hHeld.1.mono L3.below.size)⟩
  have d2 : decide (t < s) = false := decide_eq_false w2c
  refine wp_region_held_drew (S := (fun w' => Below w1.heap.size w1 w' ∧ w'.cell? ⟨w.heap.size, 0, none⟩ = some (.bool g1) ∧ w'.cell? ⟨w.heap.size, 1, none⟩ = some (.slice a n c) ∧ w'.cell? ⟨w.heap.size, 2, none⟩ = some (.slice b m d) ∧ w'.cell? ⟨w.heap.size + 1, 0, none⟩ = some (.bool g2) ∧ w'.cell? ⟨w.heap.size + 1, 1, none⟩ = some (.slice a' n' c') ∧ w'.cell? ⟨w.heap.size + 1, 2, none⟩ = some (.slice b' m' d'))) (by kernel_rfl) ?_ (fun hHeld => ?_)
  · exact two_drew hHeld
  refine wpAnyH_take (i := 0) (oi := ?oir4_0) (v := ?vr4_0) ?hir4_0 (by kernel_rfl) (by kernel_rfl) (by kernel_rfl) ?hqr4_0 ?hyr4_0 (by assumption) ?restr4_0
  case hir4_0 => simp only [List.getElem?_toArray, List.getElem?_cons_succ, List.getElem?_cons_zero]; rfl
  case hqr4_0 => exact fun _ _ _ h => h
  case hyr4_0 => (refine Or.inl ⟨by rfl, ?_⟩; intro w hSw; (try dsimp only at hSw); go_simp; all_goals with_reducible rfl)
  try simp only [Act.put, List.setIfInBounds_toArray, List.set_cons_zero, List.set_cons_succ]
  refine wpAnyH_take (i := 2) (oi := ?oir4_2) (v := ?vr4_2) ?hir4_2 (by kernel_rfl) (by kernel_rfl) (by kernel_rfl) ?hqr4_2 ?hyr4_2 (by assumption) ?restr4_2
  case hir4_2 => simp only [List.getElem?_toArray, List.getElem?_cons_succ, List.getElem?_cons_zero]; rfl
  case hqr4_2 => exact fun _ _ _ h => h
  case hyr4_2 => (refine Or.inl ⟨by rfl, ?_⟩; intro w hSw; (try dsimp only at hSw); go_simp; all_goals with_reducible rfl)
  try simp only [Act.put, List.setIfInBounds_toArray, List.set_cons_zero, List.set_cons_succ]
  refine wpAnyH_ready (rs := [1]) (by kernel_rfl) (by simp) ?_
  refine AllReadyH.cons (o := ?or4_1) ?hor4_1 (fun K hK => ?kr4_1) AllReadyH.nil
  case hor4_1 => simp only [List.getElem?_toArray, List.getElem?_cons_succ, List.getElem?_cons_zero]; rfl
  go_simp
  (with_reducible refine (sd1 _ hHeld.1).mono ?_); rintro e2 w2 ⟨rfl, hb2⟩
  go_wp2_with fail
  refine hK.out _ _ ?_ (fun hHeld => ?_)
  · exact keep_two hHeld hb2 (by omega) (by omega)
  clear hK K
  try simp only [Act.put, List.setIfInBounds_toArray, List.set_cons_zero, List.set_cons_succ]
  refine wpAnyH_ready (rs := [3]) (by kernel_rfl) (by simp) ?_
  refine AllReadyH.cons (o := ?or4_3) ?hor4_3 (fun K hK => ?kr4_3) AllReadyH.nil
  case hor4_3 => simp only [List.getElem?_toArray, List.getElem?_cons_succ, List.getElem?_cons_zero]; rfl
  go_simp
  (with_reducible refine (sd2 _ hHeld.1).mono ?_); rintro e2 w2 ⟨rfl, hb2⟩
  go_wp2_with fail
  refine hK.out _ _ ?_ (fun hHeld => ?_)
  · exact keep_two hHeld hb2 (by omega) (by omega)
  clear hK K
  try simp only [Act.put, List.setIfInBounds_toArray, List.set_cons_zero, List.set_cons_succ]
  refine wpAnyH_take (i := 4) (oi := ?oir4_4) (v := ?vr4_4) ?hir4_4 (by kernel_rfl) (by kernel_rfl) (by kernel_rfl) ?hqr4_4 ?hyr4_4 (by assumption) ?restr4_4
  case hir4_4 => simp only [List.getElem?_toArray, List.getElem?_cons_succ, List.getElem?_cons_zero]; rfl
  case hqr4_4 => exact fun _ _ _ h => h
  case hyr4_4 => (refine Or.inl ⟨by rfl, ?_⟩; intro w hSw; (try dsimp only at hSw); go_simp; all_goals with_reducible rfl)
  try simp only [Act.put, List.setIfInBounds_toArray, List.set_cons_zero, List.set_cons_succ]
  refine wpAnyH_done (by kernel_rfl) ?_ _
  have st := Lib.hid (show s = t by omega)
  clear w1c w2c
  obtain ⟨hB, k0, k1, k2, k3, k4, k5⟩ := hHeld
  have sz2 := hB.size
  go_wp2_with fail
  refine (sd1 _ hB).mono ?_
  rintro e2 w3 ⟨rfl, hb3⟩
  have sz3 := hb3.size
  have hB := hB.trans (hb3.mono hB.size)
  have z0 := L3.later hB
  by_cases s0 : s = 0
  · subst s0
    have e := Lib.hid (show r = (0, 0) by have := st.out; rcases WS.out with h | h | h | h <;> first | exact h.2.2 | (exfalso; omega))
    go_wp2_with fail
    go_ret2
    exact ⟨by rw [e.out]; rfl, L3.below.trans (hB.mono L3.below.size)⟩
  have s0' : (s == 0) = false := beq_eq_false_iff_ne.2 s0
  have SZ := Lib.hid s0
  clear s0
  have k0 := cell_later hb3 k0 (by omega)
  have k1 := cell_later hb3 k1 (by omega)
  have k2 := cell_later hb3 k2 (by omega)
  have k3 := cell_later hb3 k3 (by omega)
  have k4 := cell_later hb3 k4 (by omega)
  have k5 := cell_later hb3 k5 (by omega)
  have x1 := (r1 _ hB)
  have x2 := (r2 _ hB)
  have x3 := (r3 _ hB)
  have x4 := (r4 _ hB)
  rw [EX.out.1] at x1
  rw [EX.out.2] at x2
  rw [EX'.out.1] at x3
  rw [EX'.out.2] at x4
  have SQ := Lib.hid (show sideQ p = sideQ q ∧ sideQ p ≠ 0 from ⟨by rw [← HS.out, ← HT.out]; exact st.out, by rw [← HS.out]; exact SZ.out⟩)
  go_wp2_with fail
  obtain ⟨M, hM⟩ : ∃ M, M = mulC (limbs p.num.natAbs) (limbs q.den) := ⟨_, rfl⟩
  have cc := refMul_any _ x1 x4
  rw [← hM] at cc
  refine cc.mono ?_
  rintro e1 w4 ⟨a1, n1, c1, rfl, y1, b1⟩
  have sz4 := b1.size
  have HM := Lib.hid hM
  have hB := hB.trans (b1.mono hB.size)
  have k0 := cell_later b1 k0 (by omega)
  have k1 := cell_later b1 k1 (by omega)
  have k2 := cell_later b1 k2 (by omega)
  have k3 := cell_later b1 k3 (by omega)
  have k4 := cell_later b1 k4 (by omega)
  have k5 := cell_later b1 k5 (by omega)
  have x2 := x2.below b1
  have x3 := x3.below b1
  clear cc hM x1 x4
  go_wp2_with fail
  obtain ⟨M', hM⟩ : ∃ M, M = mulC (limbs q.num.natAbs) (limbs p.den) := ⟨_, rfl⟩
  have cc := refMul_any _ x3 x2
  rw [← hM] at cc
  refine cc.mono ?_
  rintro e1 w5 ⟨a2, n2, c2, rfl, y2, b2⟩
  have sz5 := b2.size
  have HM' := Lib.hid hM
  have hB := hB.trans (b2.mono hB.size)
  have y1 := y1.below b2
  have k0 := cell_later b2 k0 (by omega)
  have k1 := cell_later b2 k1 (by omega)
  have k2 := cell_later b2 k2 (by omega)
  clear cc hM x2 x3 k3 k4 k5
  by_cases m1 : p.num.natAbs * q.den < pw 96
  case neg =>
    have e := Lib.hid (show r = (0, 30) by rw [HR.out]; exact cmp_far SQ.out (fun h => m1 h.1))
    have E1 : M.2 = 30 := by rw [HM.out, mul_limbs F1.out.1 F2.out.2, fit_great m1]
    rw [E1] at *
    go_wp2_with fail
    go_ret2
    exact ⟨by rw [e.out]; rfl, L3.below.trans (hB.mono L3.below.size)⟩
  by_cases m2 : q.num.natAbs * p.den < pw 96
  case neg =>
    have e := Lib.hid (show r = (0, 30) by rw [HR.out]; exact cmp_far SQ.out (fun h => m2 h.2))
    have E1 : M.2 = 0 := by rw [HM.out, mul_limbs F1.out.1 F2.out.2, fit_limbs m1]
    have E2 : M'.2 = 30 := by rw [HM'.out, mul_limbs F2.out.1 F1.out.2, fit_great m2]
    rw [E1, E2] at *
    go_wp2_with fail
    go_ret2
    exact ⟨by rw [e.out]; rfl, L3.below.trans (hB.mono L3.below.size)⟩
  have e := Lib.hid (show r = (s * cmpN (p.num.natAbs * q.den) (q.num.natAbs * p.den), 0) by rw [HR.out, HS.out]; exact cmp_near SQ.out.1 ⟨m1, m2⟩)
  have E1 : M = (limbs (p.num.natAbs * q.den), 0) := by rw [HM.out, mul_limbs F1.out.1 F2.out.2, fit_limbs m1]
  have E2 : M' = (limbs (q.num.natAbs * p.den), 0) := by rw [HM'.out, mul_limbs F2.out.1 F1.out.2, fit_limbs m2]
  subst E1 E2
  dsimp only at y1 y2
  have C3 := Lib.hid (cmpN_three (p.num.natAbs * q.den) (q.num.natAbs * p.den))
  have S3 := Lib.hid (show s = -1 ∨ s = 0 ∨ s = 1 by rw [HS.out]; exact sideQ_three p)
  have MB := Lib.hid (show p.num.natAbs * q.den < pw 96 ∧ q.num.natAbs * p.den < pw 96 from ⟨m1, m2⟩)
  clear m1 m2
  go_wp2_with fail
  have cc := refCmp_any _ y1 y2
  rw [cmp_ok MB.out.1 MB.out.2] at cc
  obtain ⟨cv, hcv⟩ : ∃ cv, cv = cmpN (p.num.natAbs * q.den) (q.num.natAbs * p.den) := ⟨_, rfl⟩
  rw [← hcv] at cc
  have HC := Lib.hid hcv
  refine cc.mono ?_
  rintro e1 w6 ⟨rfl, nq, rfl⟩
  have hb6 : Below w5.heap.size w5 (w5.drewN nq) := below_drewN (Below.refl _ _) nq
  have hB := hB.trans (hb6.mono hB.size)
  have k0 := cell_later hb6 k0 (by omega)
  have k1 := cell_later hb6 k1 (by omega)
  have k2 := cell_later hb6 k2 (by omega)
  clear cc hcv y1 y2
  generalize w5.drewN nq = w6 at *
  go_wp2_with fail
  refine (sd1 _ hB).mono ?_
  rintro e2 w7 ⟨rfl, hb7⟩
  have WR : wrap64 (s * cv) = s * cv := side_wrap S3.out (by rw [HC.out]; exact C3.out)
  have hB := hB.trans (hb7.mono hB.size)
  go_wp2_with fail
  go_ret2
  exact ⟨by rw [e.out, ← HC.out]; first | rfl | (rw [WR]; rfl), L3.below.trans (hB.mono L3.below.size)⟩

end Go.Proofs.YtdaajeklnhbhjaaGreatDoor
