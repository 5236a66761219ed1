/- Rational numbers: crossed, Cmp. Printed by gen_ratl.py. -/
import Derived.Test.YtdaajeklnhbhjaaDoorRatK
import Derived.Deep.CutRange
import Derived.Deep.RegionHeld3
namespace Go.Proofs.YtdaajeklnhbhjaaDoor
open Go.RowKit Go.Suf
set_option linter.unusedVariables false
set_option linter.unusedSimpArgs false

/-- The cross products. -/
def crossV (A B : Nat) : List Nat × List Nat × Int := if A < pw 96 then (if B < pw 96 then (limbs A, limbs B, 0) else (limbs A, [], 30)) else ([], [], 30)

set_option maxHeartbeats 1000000 in
theorem crossed_any (w : World) (g1 g2 : Bool) {a b a' b' : Option Addr} {n m c d n' m' c' d' : Nat} {N1 D1 N2 D2 : Nat}
    (h1 : Rd .u32 w a n c (limbs N1)) (h2 : Rd .u32 w b m d (limbs D1)) (h3 : Rd .u32 w a' n' c' (limbs N2)) (h4 : Rd .u32 w b' m' d' (limbs D2))
    (l1 : N1 < pw 96) (l2 : D1 < pw 96) (l3 : N2 < pw 96) (l4 : D2 < pw 96) :
    Calls Tryd.prog 42 #[pairV g1 a n c b m d g2 a' n' c' b' m' d'] w (RetNNE w (crossV (N1 * D2) (N2 * D1))) := by
  obtain ⟨r, hr⟩ : ∃ r, r = crossV (N1 * D2) (N2 * D1) := ⟨_, rfl⟩
  rw [← hr]
  have H0 := Has.new w #[.bool g1, .slice a n c, .slice b m d, .bool g2, .slice a' n' c', .slice b' m' d'] 49
  have r1 := h1.below H0.below
  have r2 := h2.below H0.below
  have r3 := h3.below H0.below
  have r4 := h4.below H0.below
  have k1 := H0.cell 1 _ rfl
  have k5 := H0.cell 5 _ rfl
  by_cases e1 : N1 * D2 < pw 96
  · have E1 := Lib.hid e1
    by_cases e2 : N2 * D1 < pw 96
    · have hres := Lib.hid (show r = (limbs (N1 * D2), limbs (N2 * D1), 0) by rw [hr, crossV, if_pos e1, if_pos e2])
      have E2 := Lib.hid e2
      clear hr e1 e2
      go_enter Tryd.func42, Tryd.ntmps42
      go_wp2_with fail
      have cc := Mul_any _ r1 r4
      rw [mul_limbs l1 l4, fit_limbs E1.out] at cc
      refine cc.mono ?_
      rintro e2 w1 ⟨ax, nx, cx, rfl, hx, hb⟩
      clear cc
      have H2 := H0.later hb
      have r2 := r2.below hb
      have r3 := r3.below hb
      have k4 := H2.cell 4 _ rfl
      have k2 := H2.cell 2 _ rfl
      clear k1 k5 hb r1 r4
      go_wp2_with fail
      have cc := Mul_any _ r3 r2
      rw [mul_limbs l3 l2, fit_limbs E2.out] at cc
      refine cc.mono ?_
      rintro e2 w2 ⟨ay, ny, cy, rfl, hy, hb⟩
      clear cc
      have H3 := H2.later hb
      have hx := hx.below hb
      go_wp2_with fail
      go_ret3
      exact ⟨ax, nx, cx, ay, ny, cy, by rw [hres.out]; rfl, by rw [hres.out]; exact hx, by rw [hres.out]; exact hy, H3.below⟩
    · have hres := Lib.hid (show r = (limbs (N1 * D2), [], 30) by rw [hr, crossV, if_pos e1, if_neg e2])
      have E2 := Lib.hid e2
      clear hr e1 e2
      go_enter Tryd.func42, Tryd.ntmps42
      go_wp2_with fail
      have cc := Mul_any _ r1 r4
      rw [mul_limbs l1 l4, fit_limbs E1.out] at cc
      refine cc.mono ?_
      rintro e2 w1 ⟨ax, nx, cx, rfl, hx, hb⟩
      clear cc
      have H2 := H0.later hb
      have r2 := r2.below hb
      have r3 := r3.below hb
      have k4 := H2.cell 4 _ rfl
      have k2 := H2.cell 2 _ rfl
      clear k1 k5 hb r1 r4
      go_wp2_with fail
      have cc := Mul_any _ r3 r2
      rw [mul_limbs l3 l2, fit_great E2.out] at cc
      refine cc.mono ?_
      rintro e2 w2 ⟨ay, ny, cy, rfl, hy, hb⟩
      clear cc
      have H3 := H2.later hb
      have hx := hx.below hb
      go_wp2_with fail
      go_ret3
      exact ⟨ax, nx, cx, ay, ny, cy, by rw [hres.out]; rfl, by rw [hres.out]; exact hx, by rw [hres.out]; exact hy, H3.below⟩
  · have hres := Lib.hid (show r = ([], [], 30) by rw [hr, crossV, if_neg e1])
    have E1 := Lib.hid e1
    clear hr e1
    go_enter Tryd.func42, Tryd.ntmps42
    go_wp2_with fail
    have cc := Mul_any _ r1 r4
    rw [mul_limbs l1 l4, fit_great E1.out] at cc
    refine cc.mono ?_
    rintro e2 w1 ⟨ax, nx, cx, rfl, hx, hb⟩
    clear cc
    have H2 := H0.later hb
    go_wp2_with fail
    go_ret3
    exact ⟨none, 0, 0, none, 0, 0, by rw [hres.out]; rfl, by rw [hres.out]; exact Rd.nil _ _, by rw [hres.out]; exact Rd.nil _ _, H2.below⟩

theorem keep_two_row {w1 w2 : World} {x y g : Nat} {u0 u1 u2 v0 v1 v2 : Value} {cs : Array Value} (h : Below w1.heap.size w1 w2 ∧ w2.cell? ⟨x, 0, none⟩ = some u0 ∧ w2.cell? ⟨x, 1, none⟩ = some u1 ∧ w2.cell? ⟨x, 2, none⟩ = some u2 ∧ w2.cell? ⟨y, 0, none⟩ = some v0 ∧ w2.cell? ⟨y, 1, none⟩ = some v1 ∧ w2.cell? ⟨y, 2, none⟩ = some v2)
    (hg : w1.heap.size ≤ g) (hx : x < w1.heap.size) (hy : y < w1.heap.size) : Below w1.heap.size w1 (w2.setRow g cs) ∧ (w2.setRow g cs).cell? ⟨x, 0, none⟩ = some u0 ∧ (w2.setRow g cs).cell? ⟨x, 1, none⟩ = some u1 ∧ (w2.setRow g cs).cell? ⟨x, 2, none⟩ = some u2 ∧ (w2.setRow g cs).cell? ⟨y, 0, none⟩ = some v0 ∧ (w2.setRow g cs).cell? ⟨y, 1, none⟩ = some v1 ∧ (w2.setRow g cs).cell? ⟨y, 2, none⟩ = some v2 := by
  obtain ⟨h0, h1, h2, h3, h4, h5, h6⟩ := h
  exact ⟨below_row h0 hg _, cell_row h1 (by omega), cell_row h2 (by omega), cell_row h3 (by omega), cell_row h4 (by omega), cell_row h5 (by omega), cell_row h6 (by omega)⟩

set_option maxRecDepth 100000 in
set_option maxHeartbeats 4000000 in
theorem ratCmp_any (w : World) {g1 g2 : Bool} {a b a' b' : Option Addr} {n m c d n' m' c' d' : Nat} {xs ys xs' ys' : List Nat}
    (h1 : Rd .u32 w a n c xs) (h2 : Rd .u32 w b m d ys) (h3 : Rd .u32 w a' n' c' xs') (h4 : Rd .u32 w b' m' d' ys') :
    Calls Tryd.prog 19 #[ratV g1 a n c b m d, ratV g2 a' n' c' b' m' d'] w (RetIEB w (cmpV ⟨g1, xs, ys⟩ ⟨g2, xs', ys'⟩)) := by
  obtain ⟨r, hr⟩ : ∃ r, r = cmpV ⟨g1, xs, ys⟩ ⟨g2, xs', ys'⟩ := ⟨_, rfl⟩
  rw [← hr]
  obtain ⟨L1, L2⟩ := two_boxes w #[.bool g1, .slice a n c, .slice b m d] #[.bool g2, .slice a' n' c', .slice b' m' d']
  have k0 := L1.cell 0 _ rfl
  have k1 := L1.cell 1 _ rfl
  have k2 := L1.cell 2 _ rfl
  by_cases hg1 : chkV ⟨g1, xs, ys⟩ = 0
  case neg =>
    have e := Lib.hid (show r = (0, 8) by rw [hr, cmpV, if_neg (fun h => hg1 h.1)])
    have C1 := Lib.hid ((chkV_two _).resolve_left hg1)
    clear hr hg1
    go_enter Tryd.func19, Tryd.ntmps19
    go_wp2_with fail
    have cc := ratCheck_any (neg := g1) _ (h1.below L1.below) (h2.below L1.below)
    rw [C1.out] at cc
    refine cc.mono ?_
    rintro e1 w1 ⟨rfl, hb⟩
    clear cc
    go_wp2_with fail
    go_ret2
    exact ⟨by rw [e.out]; rfl, L1.below.trans (hb.mono L1.below.size)⟩
  case pos =>
  have C1 := Lib.hid hg1
  by_cases hg2 : chkV ⟨g2, xs', ys'⟩ = 0
  case neg =>
    have e := Lib.hid (show r = (0, 8) by rw [hr, cmpV, if_neg (fun h => hg2 h.2)])
    have C2 := Lib.hid ((chkV_two _).resolve_left hg2)
    clear hr hg2 hg1
    go_enter Tryd.func19, Tryd.ntmps19
    go_wp2_with fail
    have cc := ratCheck_any (neg := g1) _ (h1.below L1.below) (h2.below L1.below)
    rw [C1.out] at cc
    refine cc.mono ?_
    rintro e1 w0 ⟨rfl, hb⟩
    clear cc k0 k1 k2
    have L1 := L1.later hb
    have L2 := L2.later hb
    have k3 := L2.cell 0 _ rfl
    have k4 := L2.cell 1 _ rfl
    have k5 := L2.cell 2 _ rfl
    clear hb
    go_wp2_with fail
    have cc := ratCheck_any (neg := g2) _ (h3.below L1.below) (h4.below L1.below)
    rw [C2.out] at cc
    refine cc.mono ?_
    rintro e1 w1 ⟨rfl, hb⟩
    clear cc
    go_wp2_with fail
    go_ret2
    exact ⟨by rw [e.out]; rfl, L1.below.trans (hb.mono L1.below.size)⟩
  case pos =>
  have C2 := Lib.hid hg2
  have hr' : r = cmpQ (toQ ⟨g1, xs, ys⟩) (toQ ⟨g2, xs', ys'⟩) := by rw [hr, cmpV, if_pos ⟨hg1, hg2⟩]
  obtain ⟨p, e1, f1⟩ := chkV_get (x := ⟨g1, xs, ys⟩) h1.bd h2.bd hg1
  obtain ⟨q, e2, f2⟩ := chkV_get (x := ⟨g2, xs', ys'⟩) h3.bd h4.bd hg2
  rw [e1, e2, toQ_ofQ, toQ_ofQ] at hr'
  have hsd1 : sideV ⟨g1, xs, ys⟩ = sideQ p := by rw [e1, sideV_ofQ]
  have hsd2 : sideV ⟨g2, xs', ys'⟩ = sideQ q := by rw [e2, sideV_ofQ]
  have ex : xs = limbs p.num.natAbs ∧ ys = limbs p.den := by
    unfold ofQ at e1
    injection e1 with e1 e3 e4
    exact ⟨e3, e4⟩
  have ex' : xs' = limbs q.num.natAbs ∧ ys' = limbs q.den := by
    unfold ofQ at e2
    injection e2 with e2 e3 e4
    exact ⟨e3, e4⟩
  have HR := Lib.hid hr'
  have EX := Lib.hid ex
  have EX' := Lib.hid ex'
  have F1 := Lib.hid f1
  have F2 := Lib.hid f2
  obtain ⟨s, hs⟩ : ∃ s, s = sideQ p := ⟨_, rfl⟩
  obtain ⟨t, ht⟩ : ∃ t, t = sideQ q := ⟨_, rfl⟩
  have HS := Lib.hid hs
  have HT := Lib.hid ht
  have SD1 := Lib.hid (hsd1.trans hs.symm)
  have SD2 := Lib.hid (hsd2.trans ht.symm)
  clear hr hr' e1 e2 f1 f2 ex ex' hsd1 hsd2 hg1 hg2 hs ht
  go_enter Tryd.func19, Tryd.ntmps19
  go_wp2_with fail
  have cc := ratCheck_any (neg := g1) _ (h1.below L1.below) (h2.below L1.below)
  rw [C1.out] at cc
  refine cc.mono ?_
  rintro e1 w0 ⟨rfl, hb⟩
  clear cc k0 k1 k2
  have L1 := L1.later hb
  have L2 := L2.later hb
  have k3 := L2.cell 0 _ rfl
  have k4 := L2.cell 1 _ rfl
  have k5 := L2.cell 2 _ rfl
  clear hb
  go_wp2_with fail
  have cc := ratCheck_any (neg := g2) _ (h3.below L1.below) (h4.below L1.below)
  rw [C2.out] at cc
  refine cc.mono ?_
  rintro e1 w1 ⟨rfl, hb⟩
  clear cc k3 k4 k5
  have L3 := L1.later hb
  have L4 := L2.later hb
  have r1 := fun w' (hw : Below w1.heap.size w1 w') => (h1.below L3.below).below hw
  have r2 := fun w' (hw : Below w1.heap.size w1 w') => (h2.below L3.below).below hw
  have r3 := fun w' (hw : Below w1.heap.size w1 w') => (h3.below L3.below).below hw
  have r4 := fun w' (hw : Below w1.heap.size w1 w') => (h4.below L3.below).below hw
  have hHeld : (fun w' => Below w1.heap.size w1 w' ∧ w'.cell? ⟨w.heap.size, 0, none⟩ = some (.bool g1) ∧ w'.cell? ⟨w.heap.size, 1, none⟩ = some (.slice a n c) ∧ w'.cell? ⟨w.heap.size, 2, none⟩ = some (.slice b m d) ∧ w'.cell? ⟨w.heap.size + 1, 0, none⟩ = some (.bool g2) ∧ w'.cell? ⟨w.heap.size + 1, 1, none⟩ = some (.slice a' n' c') ∧ w'.cell? ⟨w.heap.size + 1, 2, none⟩ = some (.slice b' m' d')) w1 := ⟨Below.refl _ _, L3.cell 0 _ rfl, L3.cell 1 _ rfl, L3.cell 2 _ rfl, L4.cell 0 _ rfl, L4.cell 1 _ rfl, L4.cell 2 _ rfl⟩
  dsimp only at hHeld
  have sd1 := fun w' (hw : Below w1.heap.size w1 w') => ratSide_any (neg := g1) w' (r1 w' hw) (r2 w' hw)
  have sd2 := fun w' (hw : Below w1.heap.size w1 w') => ratSide_any (neg := g2) w' (r3 w' hw) (r4 w' hw)
  rw [SD1.out] at sd1
  rw [SD2.out] at sd2
  have lt1 := L3.lt
  have lt2 := L4.lt
  clear L1 L2 L4 hb h1 h2 h3 h4
  go_upto_region 3 with fail
  go_cut [6, 7, 8] from 22 to 28 (fun v6 v7 v8 wx => ∃ g, v6 = Value.pointer (some ⟨g, 0, none⟩) ∧ v7 = Value.int .i64 s ∧ v8 = Value.int .i64 t ∧ PRow 49 w1 wx g #[.bool g1, .slice a n c, .slice b m d, .bool g2, .slice a' n' c', .slice b' m' d'])
  case first =>
    refine wp_region_held_drew (S := (fun w' => Below w1.heap.size w1 w' ∧ w'.cell? ⟨w.heap.size, 0, none⟩ = some (.bool g1) ∧ w'.cell? ⟨w.heap.size, 1, none⟩ = some (.slice a n c) ∧ w'.cell? ⟨w.heap.size, 2, none⟩ = some (.slice b m d) ∧ w'.cell? ⟨w.heap.size + 1, 0, none⟩ = some (.bool g2) ∧ w'.cell? ⟨w.heap.size + 1, 1, none⟩ = some (.slice a' n' c') ∧ w'.cell? ⟨w.heap.size + 1, 2, none⟩ = some (.slice b' m' d'))) (by kernel_rfl) ?_ (fun hHeld => ?_)
    · exact two_drew hHeld
    refine wpAnyH_take (i := 0) (oi := ?oir1_0) (v := ?vr1_0) ?hir1_0 (by kernel_rfl) (by kernel_rfl) (by kernel_rfl) ?hqr1_0 ?hyr1_0 (by assumption) ?restr1_0
    case hir1_0 => simp only [List.getElem?_toArray, List.getElem?_cons_succ, List.getElem?_cons_zero]; rfl
    case hqr1_0 => exact fun _ _ _ h => h
    case hyr1_0 => (refine Or.inl ⟨by rfl, ?_⟩; intro w hSw; (try dsimp only at hSw); go_simp; all_goals with_reducible rfl)
    try simp only [Act.put, List.setIfInBounds_toArray, List.set_cons_zero, List.set_cons_succ]
    refine wpAnyH_take (i := 1) (oi := ?oir1_1) (v := ?vr1_1) ?hir1_1 (by kernel_rfl) (by kernel_rfl) (by kernel_rfl) ?hqr1_1 ?hyr1_1 (by assumption) ?restr1_1
    case hir1_1 => simp only [List.getElem?_toArray, List.getElem?_cons_succ, List.getElem?_cons_zero]; rfl
    case hqr1_1 => exact fun _ _ _ h => h
    case hyr1_1 => (refine Or.inl ⟨by rfl, ?_⟩; intro w hSw; (try dsimp only at hSw); go_simp; all_goals with_reducible rfl)
    try simp only [Act.put, List.setIfInBounds_toArray, List.set_cons_zero, List.set_cons_succ]
    refine wpAnyH_take (i := 2) (oi := ?oir1_2) (v := ?vr1_2) ?hir1_2 (by kernel_rfl) (by kernel_rfl) (by kernel_rfl) ?hqr1_2 ?hyr1_2 (by assumption) ?restr1_2
    case hir1_2 => simp only [List.getElem?_toArray, List.getElem?_cons_succ, List.getElem?_cons_zero]; rfl
    case hqr1_2 => exact fun _ _ _ h => h
    case hyr1_2 => (refine Or.inl ⟨by rfl, ?_⟩; intro w hSw; (try dsimp only at hSw); go_simp; all_goals with_reducible rfl)
    try simp only [Act.put, List.setIfInBounds_toArray, List.set_cons_zero, List.set_cons_succ]
    refine wpAnyH_take (i := 3) (oi := ?oir1_3) (v := ?vr1_3) ?hir1_3 (by kernel_rfl) (by kernel_rfl) (by kernel_rfl) ?hqr1_3 ?hyr1_3 (by assumption) ?restr1_3
    case hir1_3 => simp only [List.getElem?_toArray, List.getElem?_cons_succ, List.getElem?_cons_zero]; rfl
    case hqr1_3 => exact fun _ _ _ h => h
    case hyr1_3 => (refine Or.inl ⟨by rfl, ?_⟩; intro w hSw; (try dsimp only at hSw); go_simp; all_goals with_reducible rfl)
    try simp only [Act.put, List.setIfInBounds_toArray, List.set_cons_zero, List.set_cons_succ]
    refine wpAnyH_take (i := 5) (oi := ?oir1_5) (v := ?vr1_5) ?hir1_5 (by kernel_rfl) (by kernel_rfl) (by kernel_rfl) ?hqr1_5 ?hyr1_5 (by assumption) ?restr1_5
    case hir1_5 => simp only [List.getElem?_toArray, List.getElem?_cons_succ, List.getElem?_cons_zero]; rfl
    case hqr1_5 => exact fun _ _ _ h => h
    case hyr1_5 => (refine Or.inl ⟨by rfl, ?_⟩; intro w hSw; (try dsimp only at hSw); go_simp; all_goals with_reducible rfl)
    try simp only [Act.put, List.setIfInBounds_toArray, List.set_cons_zero, List.set_cons_succ]
    refine wpAnyH_ready (rs := [4, 7]) (by kernel_rfl) (by simp) ?_
    refine (AllReadyH.cons (o := ?ob13_4) ?hob13_4 (fun K hK => ?kb13_4) (AllReadyH.cons (o := ?ob13_7) ?hob13_7 (fun K hK => ?kb13_7) AllReadyH.nil))
    case hob13_4 => simp only [List.getElem?_toArray, List.getElem?_cons_succ, List.getElem?_cons_zero]; rfl
    case hob13_7 => simp only [List.getElem?_toArray, List.getElem?_cons_succ, List.getElem?_cons_zero]; rfl
    case kb13_4 =>
      go_simp
      (with_reducible refine (sd1 _ hHeld.1).mono ?_); rintro e2 w2 ⟨rfl, hb2⟩
      go_wp2_with fail
      refine hK.out _ _ ?_ (fun hHeld => ?_)
      · exact keep_two hHeld hb2 (by omega) (by omega)
      clear hK K
      try simp only [Act.put, List.setIfInBounds_toArray, List.set_cons_zero, List.set_cons_succ]
      refine wpAnyH_ready (rs := [6, 7]) (by kernel_rfl) (by simp) ?_
      refine (AllReadyH.cons (o := ?ob8_6) ?hob8_6 (fun K hK => ?kb8_6) (AllReadyH.cons (o := ?ob8_7) ?hob8_7 (fun K hK => ?kb8_7) AllReadyH.nil))
      case hob8_6 => simp only [List.getElem?_toArray, List.getElem?_cons_succ, List.getElem?_cons_zero]; rfl
      case hob8_7 => simp only [List.getElem?_toArray, List.getElem?_cons_succ, List.getElem?_cons_zero]; rfl
      case kb8_6 =>
        go_simp
        (with_reducible refine (sd2 _ hHeld.1).mono ?_); rintro e2 w2 ⟨rfl, hb2⟩
        go_wp2_with fail
        refine hK.out _ _ ?_ (fun hHeld => ?_)
        · exact keep_two hHeld hb2 (by omega) (by omega)
        clear hK K
        try simp only [Act.put, List.setIfInBounds_toArray, List.set_cons_zero, List.set_cons_succ]
        refine wpAnyH_ready (rs := [7]) (by kernel_rfl) (by simp) ?_
        refine (AllReadyH.cons (o := ?ob4_7) ?hob4_7 (fun K hK => ?kb4_7) AllReadyH.nil)
        case hob4_7 => simp only [List.getElem?_toArray, List.getElem?_cons_succ, List.getElem?_cons_zero]; rfl
        case kb4_7 =>
          go_simp
          have hSZ := hHeld.1.size
          refine hK.out _ _ ?_ (fun hHeld => ?_)
          · exact keep_two hHeld (below_al _ _) (by omega) (by omega)
          clear hK K
          try simp only [Act.put, List.setIfInBounds_toArray, List.set_cons_zero, List.set_cons_succ]
          have RA : PRow 49 w1 _ _ _ := (PRow.new 49 w2 #[.bool false, .slice none 0 0, .slice none 0 0, .bool false, .slice none 0 0, .slice none 0 0]).rebase hHeld.1 (by first | exact Nat.le_refl _ | exact hSZ)
          refine wpAnyH_ready (rs := [8]) (by kernel_rfl) (by simp) ?_
          refine (AllReadyH.cons (o := ?ob3_8) ?hob3_8 (fun K hK => ?kb3_8) AllReadyH.nil)
          case hob3_8 => simp only [List.getElem?_toArray, List.getElem?_cons_succ, List.getElem?_cons_zero]; rfl
          case kb3_8 =>
            rw [if_pos (by rfl)]
            refine op_store_whole 49 _ _ rfl atPair _ _ _ RA.row rfl rfl rfl rfl (pair_one _ _ _ _ _ _ _ _ _ _ _ _ _ _) ?_
            refine hK.out _ _ ?_ (fun hHeld => ?_)
            · exact keep_two_row hHeld RA.lo (by omega) (by omega)
            clear hK K
            try simp only [Act.put, List.setIfInBounds_toArray, List.set_cons_zero, List.set_cons_succ]
            refine wpAnyH_take (i := 9) (oi := ?oir2_9) (v := ?vr2_9) ?hir2_9 (by kernel_rfl) (by kernel_rfl) (by kernel_rfl) ?hqr2_9 ?hyr2_9 (by assumption) ?restr2_9
            case hir2_9 => simp only [List.getElem?_toArray, List.getElem?_cons_succ, List.getElem?_cons_zero]; rfl
            case hqr2_9 => exact fun _ _ _ h => h
            case hyr2_9 => (refine Or.inl ⟨by rfl, ?_⟩; intro w hSw; (try dsimp only at hSw); go_simp; all_goals with_reducible rfl)
            try simp only [Act.put, List.setIfInBounds_toArray, List.set_cons_zero, List.set_cons_succ]
            refine wpAnyH_take (i := 10) (oi := ?oir2_10) (v := ?vr2_10) ?hir2_10 (by kernel_rfl) (by kernel_rfl) (by kernel_rfl) ?hqr2_10 ?hyr2_10 (by assumption) ?restr2_10
            case hir2_10 => simp only [List.getElem?_toArray, List.getElem?_cons_succ, List.getElem?_cons_zero]; rfl
            case hqr2_10 => exact fun _ _ _ h => h
            case hyr2_10 => (refine Or.inl ⟨by rfl, ?_⟩; intro w hSw; (try dsimp only at hSw); go_simp; all_goals with_reducible rfl)
            try simp only [Act.put, List.setIfInBounds_toArray, List.set_cons_zero, List.set_cons_succ]
            refine wpAnyH_done (by kernel_rfl) ?_ _
            go_wp2_with fail
            go_meet
            exact ⟨_, rfl, rfl, rfl, RA.put _⟩
      case kb8_7 =>
        go_simp
        have hSZ := hHeld.1.size
        refine hK.out _ _ ?_ (fun hHeld => ?_)
        · exact keep_two hHeld (below_al _ _) (by omega) (by omega)
        clear hK K
        try simp only [Act.put, List.setIfInBounds_toArray, List.set_cons_zero, List.set_cons_succ]
        have RA : PRow 49 w1 _ _ _ := (PRow.new 49 w2 #[.bool false, .slice none 0 0, .slice none 0 0, .bool false, .slice none 0 0, .slice none 0 0]).rebase hHeld.1 (by first | exact Nat.le_refl _ | exact hSZ)
        refine wpAnyH_ready (rs := [6]) (by kernel_rfl) (by simp) ?_
        refine (AllReadyH.cons (o := ?ob7_6) ?hob7_6 (fun K hK => ?kb7_6) AllReadyH.nil)
        case hob7_6 => simp only [List.getElem?_toArray, List.getElem?_cons_succ, List.getElem?_cons_zero]; rfl
        case kb7_6 =>
          go_simp
          (with_reducible refine (sd2 _ hHeld.1).mono ?_); rintro e2 w2 ⟨rfl, hb2⟩
          go_wp2_with fail
          refine hK.out _ _ ?_ (fun hHeld => ?_)
          · exact keep_two hHeld hb2 (by omega) (by omega)
          clear hK K
          try simp only [Act.put, List.setIfInBounds_toArray, List.set_cons_zero, List.set_cons_succ]
          have RA := RA.later hb2
          refine wpAnyH_ready (rs := [8]) (by kernel_rfl) (by simp) ?_
          refine (AllReadyH.cons (o := ?ob6_8) ?hob6_8 (fun K hK => ?kb6_8) AllReadyH.nil)
          case hob6_8 => simp only [List.getElem?_toArray, List.getElem?_cons_succ, List.getElem?_cons_zero]; rfl
          case kb6_8 =>
            rw [if_pos (by rfl)]
            refine op_store_whole 49 _ _ rfl atPair _ _ _ RA.row rfl rfl rfl rfl (pair_one _ _ _ _ _ _ _ _ _ _ _ _ _ _) ?_
            refine hK.out _ _ ?_ (fun hHeld => ?_)
            · exact keep_two_row hHeld RA.lo (by omega) (by omega)
            clear hK K
            try simp only [Act.put, List.setIfInBounds_toArray, List.set_cons_zero, List.set_cons_succ]
            refine wpAnyH_take (i := 9) (oi := ?oir5_9) (v := ?vr5_9) ?hir5_9 (by kernel_rfl) (by kernel_rfl) (by kernel_rfl) ?hqr5_9 ?hyr5_9 (by assumption) ?restr5_9
            case hir5_9 => simp only [List.getElem?_toArray, List.getElem?_cons_succ, List.getElem?_cons_zero]; rfl
            case hqr5_9 => exact fun _ _ _ h => h
            case hyr5_9 => (refine Or.inl ⟨by rfl, ?_⟩; intro w hSw; (try dsimp only at hSw); go_simp; all_goals with_reducible rfl)
            try simp only [Act.put, List.setIfInBounds_toArray, List.set_cons_zero, List.set_cons_succ]
            refine wpAnyH_take (i := 10) (oi := ?oir5_10) (v := ?vr5_10) ?hir5_10 (by kernel_rfl) (by kernel_rfl) (by kernel_rfl) ?hqr5_10 ?hyr5_10 (by assumption) ?restr5_10
            case hir5_10 => simp only [List.getElem?_toArray, List.getElem?_cons_succ, List.getElem?_cons_zero]; rfl
            case hqr5_10 => exact fun _ _ _ h => h
            case hyr5_10 => (refine Or.inl ⟨by rfl, ?_⟩; intro w hSw; (try dsimp only at hSw); go_simp; all_goals with_reducible rfl)
            try simp only [Act.put, List.setIfInBounds_toArray, List.set_cons_zero, List.set_cons_succ]
            refine wpAnyH_done (by kernel_rfl) ?_ _
            go_wp2_with fail
            go_meet
            exact ⟨_, rfl, rfl, rfl, RA.put _⟩
    case kb13_7 =>
      go_simp
      have hSZ := hHeld.1.size
      refine hK.out _ _ ?_ (fun hHeld => ?_)
      · exact keep_two hHeld (below_al _ _) (by omega) (by omega)
      clear hK K
      try simp only [Act.put, List.setIfInBounds_toArray, List.set_cons_zero, List.set_cons_succ]
      have RA : PRow 49 w1 _ _ _ := (PRow.new 49 w1.drew #[.bool false, .slice none 0 0, .slice none 0 0, .bool false, .slice none 0 0, .slice none 0 0]).rebase hHeld.1 (by first | exact Nat.le_refl _ | exact hSZ)
      refine wpAnyH_ready (rs := [4]) (by kernel_rfl) (by simp) ?_
      refine (AllReadyH.cons (o := ?ob12_4) ?hob12_4 (fun K hK => ?kb12_4) AllReadyH.nil)
      case hob12_4 => simp only [List.getElem?_toArray, List.getElem?_cons_succ, List.getElem?_cons_zero]; rfl
      case kb12_4 =>
        go_simp
        (with_reducible refine (sd1 _ hHeld.1).mono ?_); rintro e2 w2 ⟨rfl, hb2⟩
        go_wp2_with fail
        refine hK.out _ _ ?_ (fun hHeld => ?_)
        · exact keep_two hHeld hb2 (by omega) (by omega)
        clear hK K
        try simp only [Act.put, List.setIfInBounds_toArray, List.set_cons_zero, List.set_cons_succ]
        have RA := RA.later hb2
        refine wpAnyH_ready (rs := [6]) (by kernel_rfl) (by simp) ?_
        refine (AllReadyH.cons (o := ?ob11_6) ?hob11_6 (fun K hK => ?kb11_6) AllReadyH.nil)
        case hob11_6 => simp only [List.getElem?_toArray, List.getElem?_cons_succ, List.getElem?_cons_zero]; rfl
        case kb11_6 =>
          go_simp
          (with_reducible refine (sd2 _ hHeld.1).mono ?_); rintro e2 w2 ⟨rfl, hb2⟩
          go_wp2_with fail
          refine hK.out _ _ ?_ (fun hHeld => ?_)
          · exact keep_two hHeld hb2 (by omega) (by omega)
          clear hK K
          try simp only [Act.put, List.setIfInBounds_toArray, List.set_cons_zero, List.set_cons_succ]
          have RA := RA.later hb2
          refine wpAnyH_ready (rs := [8]) (by kernel_rfl) (by simp) ?_
          refine (AllReadyH.cons (o := ?ob10_8) ?hob10_8 (fun K hK => ?kb10_8) AllReadyH.nil)
          case hob10_8 => simp only [List.getElem?_toArray, List.getElem?_cons_succ, List.getElem?_cons_zero]; rfl
          case kb10_8 =>
            rw [if_pos (by rfl)]
            refine op_store_whole 49 _ _ rfl atPair _ _ _ RA.row rfl rfl rfl rfl (pair_one _ _ _ _ _ _ _ _ _ _ _ _ _ _) ?_
            refine hK.out _ _ ?_ (fun hHeld => ?_)
            · exact keep_two_row hHeld RA.lo (by omega) (by omega)
            clear hK K
            try simp only [Act.put, List.setIfInBounds_toArray, List.set_cons_zero, List.set_cons_succ]
            refine wpAnyH_take (i := 9) (oi := ?oir9_9) (v := ?vr9_9) ?hir9_9 (by kernel_rfl) (by kernel_rfl) (by kernel_rfl) ?hqr9_9 ?hyr9_9 (by assumption) ?restr9_9
            case hir9_9 => simp only [List.getElem?_toArray, List.getElem?_cons_succ, List.getElem?_cons_zero]; rfl
            case hqr9_9 => exact fun _ _ _ h => h
            case hyr9_9 => (refine Or.inl ⟨by rfl, ?_⟩; intro w hSw; (try dsimp only at hSw); go_simp; all_goals with_reducible rfl)
            try simp only [Act.put, List.setIfInBounds_toArray, List.set_cons_zero, List.set_cons_succ]
            refine wpAnyH_take (i := 10) (oi := ?oir9_10) (v := ?vr9_10) ?hir9_10 (by kernel_rfl) (by kernel_rfl) (by kernel_rfl) ?hqr9_10 ?hyr9_10 (by assumption) ?restr9_10
            case hir9_10 => simp only [List.getElem?_toArray, List.getElem?_cons_succ, List.getElem?_cons_zero]; rfl
            case hqr9_10 => exact fun _ _ _ h => h
            case hyr9_10 => (refine Or.inl ⟨by rfl, ?_⟩; intro w hSw; (try dsimp only at hSw); go_simp; all_goals with_reducible rfl)
            try simp only [Act.put, List.setIfInBounds_toArray, List.set_cons_zero, List.set_cons_succ]
            refine wpAnyH_done (by kernel_rfl) ?_ _
            go_wp2_with fail
            go_meet
            exact ⟨_, rfl, rfl, rfl, RA.put _⟩
  case rest =>
  obtain ⟨g, rfl, rfl, rfl, RG⟩ := hcut
  have LB := L3.below.trans (RG.below.mono L3.below.size)
  have y1 := r1 _ RG.below
  have y2 := r2 _ RG.below
  have y3 := r3 _ RG.below
  have y4 := r4 _ RG.below
  rw [EX.out.1] at y1
  rw [EX.out.2] at y2
  rw [EX'.out.1] at y3
  rw [EX'.out.2] at y4
  have ways := cmp_ways p q
  rw [← HS.out, ← HT.out, ← HR.out] at ways
  have WS := Lib.hid ways
  clear ways sd1 sd2 hHeld r1 r2 r3 r4 lt1 lt2
  have s3 := sideQ_three p
  have t3 := sideQ_three q
  rw [← HS.out] at s3
  rw [← HT.out] at t3
  by_cases st : s ≠ t ∨ s = 0
  · have e := Lib.hid (show r = (max (-1) (min 1 (s - t)), 0) by
      rcases WS.out with h | h | h | h
      · rw [h.2]; congr 1; omega
      · rw [h.2]; congr 1; omega
      · rw [h.2.2]; congr 1; omega
      · exfalso; omega)
    have nine : (s = -1 ∧ t = 0) ∨ (s = -1 ∧ t = 1) ∨ (s = 0 ∧ t = -1) ∨ (s = 0 ∧ t = 0) ∨ (s = 0 ∧ t = 1) ∨ (s = 1 ∧ t = -1) ∨ (s = 1 ∧ t = 0) := by omega
    clear st s3 t3 WS HS HT SD1 SD2
    rcases nine with ⟨rfl, rfl⟩ | ⟨rfl, rfl⟩ | ⟨rfl, rfl⟩ | ⟨rfl, rfl⟩ | ⟨rfl, rfl⟩ | ⟨rfl, rfl⟩ | ⟨rfl, rfl⟩
    all_goals
      go_wp2_with fail
      go_ret2
      exact ⟨by rw [e.out]; rfl, LB⟩
  obtain rfl : s = t := by omega
  have s0 : s ≠ 0 := by omega
  have d1 : (s != s) = false := by simp
  have d2 : (s == 0) = false := beq_eq_false_iff_ne.2 s0
  have k0 := RG.cell 0 _ rfl
  have k1 := RG.cell 1 _ rfl
  have k2 := RG.cell 2 _ rfl
  have k3 := RG.cell 3 _ rfl
  have k4 := RG.cell 4 _ rfl
  have k5 := RG.cell 5 _ rfl
  have SS := Lib.hid (show sideQ p = sideQ q ∧ sideQ p ≠ 0 from ⟨HS.out.symm.trans HT.out, by rw [← HS.out]; exact s0⟩)
  have S3 := Lib.hid s3
  clear st s3 t3 s0
  go_wp2_with fail
  have cc := crossed_any wc g1 g2 y1 y2 y3 y4 F1.out.1 F1.out.2 F2.out.1 F2.out.2
  by_cases near : p.num.natAbs * q.den < pw 96 ∧ q.num.natAbs * p.den < pw 96
  · have e := Lib.hid (show r = (s * cmpN (p.num.natAbs * q.den) (q.num.natAbs * p.den), 0) by rw [HR.out, cmp_near SS.out.1 near, HS.out])
    have NR := Lib.hid near
    rw [crossV, if_pos near.1, if_pos near.2] at cc
    clear near
    refine cc.mono ?_
    rintro e2 w3 ⟨ax, nx, cx, ay, ny, cy, rfl, hx, hy, hb⟩
    clear cc k0 k1 k2 k3 k4 k5
    have LB := LB.trans (hb.mono LB.size)
    go_wp2_with fail
    have cc := Cmp_any w3 hx hy
    rw [cmp_ok NR.out.1 NR.out.2] at cc
    obtain ⟨v, hv⟩ : ∃ v, v = cmpN (p.num.natAbs * q.den) (q.num.natAbs * p.den) := ⟨_, rfl⟩
    have v3 := cmpN_three (p.num.natAbs * q.den) (q.num.natAbs * p.den)
    rw [← hv] at v3 cc
    have e := Lib.hid (show r = (s * v, 0) by rw [e.out, hv])
    have WR := Lib.hid (side_wrap S3.out v3)
    refine cc.mono ?_
    rintro e2 w4 ⟨rfl, nq, rfl⟩
    clear cc hv v3
    have LB := LB.trans ((below_drewN (Below.refl w3.heap.size w3) nq).mono LB.size)
    generalize w3.drewN nq = w4 at *
    go_wp2_with fail
    go_ret2
    exact ⟨by rw [e.out]; first | rfl | (rw [WR.out]; rfl), LB⟩
  · have e := Lib.hid (show r = (0, 30) by rw [HR.out, cmp_far SS.out near])
    have cx : ∃ u v, crossV (p.num.natAbs * q.den) (q.num.natAbs * p.den) = (u, v, 30) := by
      unfold crossV
      split
      · split
        · rename_i u v; exact absurd ⟨u, v⟩ near
        · exact ⟨_, _, rfl⟩
      · exact ⟨_, _, rfl⟩
    obtain ⟨u, v, hc⟩ := cx
    rw [hc] at cc
    clear near hc
    refine cc.mono ?_
    rintro e2 w3 ⟨ax, nx, cx, ay, ny, cy, rfl, hx, hy, hb⟩
    clear cc
    go_wp2_with fail
    go_ret2
    exact ⟨by rw [e.out]; rfl, LB.trans (hb.mono LB.size)⟩

end Go.Proofs.YtdaajeklnhbhjaaDoor
