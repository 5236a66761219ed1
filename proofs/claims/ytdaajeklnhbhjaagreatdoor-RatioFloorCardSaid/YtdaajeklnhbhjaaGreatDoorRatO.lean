/- Rational numbers: Twin, turned, Neg and the reference's Neg. Condition of Twin: not too long. Printed by gen_rato.py. -/
import Derived.Test.YtdaajeklnhbhjaaGreatDoorRatH
import Derived.Test.YtdaajeklnhbhjaaGreatDoorPRow
import Derived.Deep.CutRange
import Derived.Deep.RegionHeld3
namespace Go.Proofs.YtdaajeklnhbhjaaGreatDoor
open Go.RowKit Go.Suf
set_option linter.unusedVariables false
set_option linter.unusedSimpArgs false

set_option maxRecDepth 100000 in
set_option maxHeartbeats 2000000 in
theorem ratTwin_any (w : World) {g : Bool} {a b : Option Addr} {n m c d : Nat} {xs ys : List Nat} (h1 : Rd .u32 w a n c xs) (h2 : Rd .u32 w b m d ys) (l1 : n ≤ 1099511627776) (l2 : m ≤ 1099511627776) :
    Calls Tryz.prog 26 #[ratV g a n c b m d] w (RetQ w ⟨g, xs, ys⟩) := by
  have H0 := Has.new w #[.bool g, .slice a n c, .slice b m d] 24
  have R0 := Row.second w (.cells #[.bool g, .slice a n c, .slice b m d] 24) #[.bool false, .slice none 0 0, .slice none 0 0]
  have H1 := H0.later R0.below
  go_enter Tryz.func26, Tryz.ntmps26
  go_wp2_with fail
  have hb := (Below.refl ((w.alloc (.cells #[.bool g, .slice a n c, .slice b m d] 24)).alloc (.cells #[.bool false, .slice none 0 0, .slice none 0 0] 24)).heap.size ((w.alloc (.cells #[.bool g, .slice a n c, .slice b m d] 24)).alloc (.cells #[.bool false, .slice none 0 0, .slice none 0 0] 24))).drew
  have R0 := R0.later hb
  have H1 := H1.later hb
  clear hb 
  refine wp_region_held_drew (S := (fun w' => w'.cell? ⟨w.heap.size, 0, none⟩ = some (.bool g) ∧ w'.cell? ⟨w.heap.size, 1, none⟩ = some (.slice a n c) ∧ w'.cell? ⟨w.heap.size, 2, none⟩ = some (.slice b m d) ∧ True)) (by kernel_rfl) ?_ (fun hHeld => ?_)
  · exact ⟨H1.cell 0 _ rfl, H1.cell 1 _ rfl, H1.cell 2 _ rfl, trivial⟩
  generalize World.drew ((w.alloc (.cells #[.bool g, .slice a n c, .slice b m d] 24)).alloc (.cells #[.bool false, .slice none 0 0, .slice none 0 0] 24)) = w1 at *
  refine wpAnyH_take (i := 0) (oi := ?oir1_0) (v := ?vr1_0) ?hir1_0 (by kernel_rfl) (by kernel_rfl) (by kernel_rfl) ?hqr1_0 ?hyr1_0 (by assumption) ?restr1_0
  case hir1_0 => simp only [List.getElem?_toArray, List.getElem?_cons_succ, List.getElem?_cons_zero]; rfl
  case hqr1_0 => exact fun _ _ _ h => h
  case hyr1_0 => (refine Or.inl ⟨by rfl, ?_⟩; intro w hSw; (try dsimp only at hSw); go_simp; all_goals with_reducible rfl)
  try simp only [Act.put, List.setIfInBounds_toArray, List.set_cons_zero, List.set_cons_succ]
  refine wpAnyH_take (i := 1) (oi := ?oir1_1) (v := ?vr1_1) ?hir1_1 (by kernel_rfl) (by kernel_rfl) (by kernel_rfl) ?hqr1_1 ?hyr1_1 (by assumption) ?restr1_1
  case hir1_1 => simp only [List.getElem?_toArray, List.getElem?_cons_succ, List.getElem?_cons_zero]; rfl
  case hqr1_1 => exact fun _ _ _ h => h
  case hyr1_1 => (refine Or.inl ⟨by rfl, ?_⟩; intro w hSw; (try dsimp only at hSw); go_simp; all_goals with_reducible rfl)
  try simp only [Act.put, List.setIfInBounds_toArray, List.set_cons_zero, List.set_cons_succ]
  refine wpAnyH_take (i := 2) (oi := ?oir1_2) (v := ?vr1_2) ?hir1_2 (by kernel_rfl) (by kernel_rfl) (by kernel_rfl) ?hqr1_2 ?hyr1_2 (by assumption) ?restr1_2
  case hir1_2 => simp only [List.getElem?_toArray, List.getElem?_cons_succ, List.getElem?_cons_zero]; rfl
  case hqr1_2 => exact fun _ _ _ h => h
  case hyr1_2 => (refine Or.inl ⟨by rfl, ?_⟩; intro w hSw; (try dsimp only at hSw); go_simp; all_goals with_reducible rfl)
  try simp only [Act.put, List.setIfInBounds_toArray, List.set_cons_zero, List.set_cons_succ]
  refine wpAnyH_take (i := 3) (oi := ?oir1_3) (v := ?vr1_3) ?hir1_3 (by kernel_rfl) (by kernel_rfl) (by kernel_rfl) ?hqr1_3 ?hyr1_3 (by assumption) ?restr1_3
  case hir1_3 => simp only [List.getElem?_toArray, List.getElem?_cons_succ, List.getElem?_cons_zero]; rfl
  case hqr1_3 => exact fun _ _ _ h => h
  case hyr1_3 => (refine Or.inl ⟨by rfl, ?_⟩; intro w hSw; (try dsimp only at hSw); go_simp; all_goals with_reducible rfl)
  try simp only [Act.put, List.setIfInBounds_toArray, List.set_cons_zero, List.set_cons_succ]
  refine wpAnyH_take (i := 5) (oi := ?oir1_5) (v := ?vr1_5) ?hir1_5 (by kernel_rfl) (by kernel_rfl) (by kernel_rfl) ?hqr1_5 ?hyr1_5 (by assumption) ?restr1_5
  case hir1_5 => simp only [List.getElem?_toArray, List.getElem?_cons_succ, List.getElem?_cons_zero]; rfl
  case hqr1_5 => exact fun _ _ _ h => h
  case hyr1_5 => (refine Or.inl ⟨by rfl, ?_⟩; intro w hSw; (try dsimp only at hSw); go_simp; all_goals with_reducible rfl)
  try simp only [Act.put, List.setIfInBounds_toArray, List.set_cons_zero, List.set_cons_succ]
  refine wpAnyH_take (i := 6) (oi := ?oir1_6) (v := ?vr1_6) ?hir1_6 (by kernel_rfl) (by kernel_rfl) (by kernel_rfl) ?hqr1_6 ?hyr1_6 (by assumption) ?restr1_6
  case hir1_6 => simp only [List.getElem?_toArray, List.getElem?_cons_succ, List.getElem?_cons_zero]; rfl
  case hqr1_6 => exact fun _ _ _ h => h
  case hyr1_6 => (refine Or.inl ⟨by rfl, ?_⟩; intro w hSw; (try dsimp only at hSw); go_simp; all_goals with_reducible rfl)
  try simp only [Act.put, List.setIfInBounds_toArray, List.set_cons_zero, List.set_cons_succ]
  refine wpAnyH_ready (rs := [4]) (by kernel_rfl) (by simp) ?_
  refine AllReadyH.cons (o := ?or2_4) ?hor2_4 (fun K hK => ?kr2_4) AllReadyH.nil
  case hor2_4 => simp only [List.getElem?_toArray, List.getElem?_cons_succ, List.getElem?_cons_zero]; rfl
  go_simp
  refine (Clone_any w1 (h1.below H1.below) l1).mono ?_
  rintro e1 w2 ⟨ax, nx, cx, rfl, hx, hb⟩
  have R1 := R0.later hb
  have H2 := H1.later hb
  clear hb
  go_wp2_with fail
  clear hHeld
  refine hK.out _ _ ?_ (fun hHeld => ?_)
  · exact ⟨H2.cell 0 _ rfl, H2.cell 1 _ rfl, H2.cell 2 _ rfl, trivial⟩
  clear hK K
  try simp only [Act.put, List.setIfInBounds_toArray, List.set_cons_zero, List.set_cons_succ]
  refine wpAnyH_ready (rs := [7]) (by kernel_rfl) (by simp) ?_
  refine AllReadyH.cons (o := ?or3_7) ?hor3_7 (fun K hK => ?kr3_7) AllReadyH.nil
  case hor3_7 => simp only [List.getElem?_toArray, List.getElem?_cons_succ, List.getElem?_cons_zero]; rfl
  go_simp
  refine (Clone_any w2 (h2.below H2.below) l2).mono ?_
  rintro e1 w3 ⟨ay, ny, cy, rfl, hy, hb⟩
  have R2 := R1.later hb
  have HL := H2.later hb
  have hx := hx.below hb
  clear hb
  go_wp2_with fail
  clear hHeld
  refine hK.out _ _ ?_ (fun hHeld => ?_)
  · exact ⟨HL.cell 0 _ rfl, HL.cell 1 _ rfl, HL.cell 2 _ rfl, trivial⟩
  clear hK K
  try simp only [Act.put, List.setIfInBounds_toArray, List.set_cons_zero, List.set_cons_succ]
  refine wpAnyH_take (i := 8) (oi := ?oir4_8) (v := ?vr4_8) ?hir4_8 (by kernel_rfl) (by kernel_rfl) (by kernel_rfl) ?hqr4_8 ?hyr4_8 (by assumption) ?restr4_8
  case hir4_8 => simp only [List.getElem?_toArray, List.getElem?_cons_succ, List.getElem?_cons_zero]; rfl
  case hqr4_8 => exact fun _ _ _ h => h
  case hyr4_8 => (refine Or.inl ⟨by rfl, ?_⟩; intro w hSw; (try dsimp only at hSw); go_simp; all_goals with_reducible rfl)
  try simp only [Act.put, List.setIfInBounds_toArray, List.set_cons_zero, List.set_cons_succ]
  have row := R2.row
  have HB := Lib.hid (fun cs => H0.below.trans ((below_row R2.below R2.lo cs).mono (by rw [World.size_alloc]; omega)))
  have fin := Lib.hid (fun cs => (⟨rd_rowset hx row (rat_noint _ _ _ _ _ _ _) cs, rd_rowset hy row (rat_noint _ _ _ _ _ _ _) cs⟩ : _ ∧ _))
  clear hx hy
  refine wpAnyH_ready (rs := [9]) (by kernel_rfl) (by simp) ?_
  refine (AllReadyH.cons (o := ?ob5_9) ?hob5_9 (fun K hK => ?kb5_9) AllReadyH.nil)
  case hob5_9 => simp only [List.getElem?_toArray, List.getElem?_cons_succ, List.getElem?_cons_zero]; rfl
  case kb5_9 =>
    rw [if_pos (by rfl)]
    refine op_store_whole 24 _ _ rfl atRat _ _ _ row rfl rfl rfl rfl (rat_one _ _ _ _ _ _ _) ?_
    refine hK.out _ _ ?_ (fun hHeld => ?_)
    · exact ⟨cell_row (HL.cell 0 _ rfl) (by omega), cell_row (HL.cell 1 _ rfl) (by omega), cell_row (HL.cell 2 _ rfl) (by omega), trivial⟩
    clear hK K
    try simp only [Act.put, List.setIfInBounds_toArray, List.set_cons_zero, List.set_cons_succ]
    refine wpAnyH_done (by kernel_rfl) ?_ _
    go_wp2_with fail
    refine bodyPost_ret (results_cell_row rfl _ _ _ _ _ _ _ rfl (setRow_heap _ _ _ _ _ _ row) Tryz.underlying24 rfl (by kernel_rfl)) rfl ?_
    exact ⟨_, _, _, _, _, _, rfl, (fin.out _).1, (fin.out _).2, HB.out _⟩

theorem PRow.putOther {t : TypeId} {w w1 : World} {k j : Nat} {cs : Array Value} (h : PRow t w w1 k cs) (hj : w.heap.size ≤ j) (hne : k ≠ j) (cs' : Array Value) : PRow t w (w1.setRow j cs') k cs :=
  ⟨below_row h.below hj _, by rw [setRow_other _ _ _ _ hne]; exact h.row, h.lo, by rw [setRow_size]; exact h.lt⟩

def turnV (x : QV) : QV := ⟨!x.neg && decide (0 < x.num.length), x.num, x.den⟩
def negC (x : QV) : QV × Int := if chkV x = 0 then (turnV x, 0) else (zeroV, 8)

set_option maxRecDepth 100000 in
set_option maxHeartbeats 2000000 in
theorem turned_any (w : World) {g : Bool} {a b : Option Addr} {n m c d : Nat} {xs ys : List Nat} (h1 : Rd .u32 w a n c xs) (h2 : Rd .u32 w b m d ys) (l1 : n ≤ 1099511627776) (l2 : m ≤ 1099511627776) :
    Calls Tryz.prog 48 #[ratV g a n c b m d] w (RetQ w (turnV ⟨g, xs, ys⟩)) := by
  obtain ⟨r, hr⟩ : ∃ r, r = turnV ⟨g, xs, ys⟩ := ⟨_, rfl⟩
  rw [← hr]
  have PA := (PRow.new 24 w #[.bool g, .slice a n c, .slice b m d]).later (below_al _ (.cells #[.bool false, .slice none 0 0, .slice none 0 0] 24))
  have PB := (PRow.new 24 (w.alloc (.cells #[.bool g, .slice a n c, .slice b m d] 24)) #[.bool false, .slice none 0 0, .slice none 0 0]).rebase PA.below (by rw [World.size_alloc]; omega)
  simp only [World.size_alloc] at PB
  have k0 := PA.cell 0 _ rfl
  have k1 := PA.cell 1 _ rfl
  have k2 := PA.cell 2 _ rfl
  cases g
  case true =>
    go_enter Tryz.func48, Tryz.ntmps48
    go_wp2_with fail
    refine (ratTwin_any _ (h1.below PA.below) (h2.below PA.below) l1 l2).mono ?_
    rintro e1 w1 ⟨ax, nx, cx, ay, ny, cy, rfl, hx, hy, hb⟩
    have PA := PA.later hb
    have PB := PB.later hb
    have L1 : xs.length = nx := hx.len
    have hx := rd_rowset hx PA.row (rat_noint _ _ _ _ _ _ _) #[.bool true, .slice ax nx cx, .slice ay ny cy]
    have hy := rd_rowset hy PA.row (rat_noint _ _ _ _ _ _ _) #[.bool true, .slice ax nx cx, .slice ay ny cy]
    have PB := PB.putOther PA.lo (by omega) #[.bool true, .slice ax nx cx, .slice ay ny cy]
    have PC := PA.put #[.bool true, .slice ax nx cx, .slice ay ny cy]
    have hx := rd_setcell hx (i := 0) PC.row (rat_noint _ _ _ _ _ _ _) (.bool false)
    have hy := rd_setcell hy (i := 0) PC.row (rat_noint _ _ _ _ _ _ _) (.bool false)
    have PB := PB.other (p := ⟨w.heap.size, 0, none⟩) (by show w.heap.size + 1 ≠ w.heap.size; omega) PC.lo (.bool false)
    have PD := PC.set 0 (.bool false)
    have row := PB.row
    have HB := Lib.hid (fun cs => below_row PB.below PB.lo cs)
    have fin := Lib.hid (fun cs => (⟨rd_rowset hx row (rat_noint _ _ _ _ _ _ _) cs, rd_rowset hy row (rat_noint _ _ _ _ _ _ _) cs⟩ : _ ∧ _))
    have rowA := PA.row
    have q0 := PC.cell 0 _ rfl
    have q1 := PC.cell 1 _ rfl
    have q2 := PC.cell 2 _ rfl
    have f0 := PC.free 0
    have p0 := PD.cell 0 _ rfl
    have p1 := PD.cell 1 _ rfl
    have p2 := PD.cell 2 _ rfl
    have hres := Lib.hid (show r = ⟨false, xs, ys⟩ by rw [hr]; rfl)
    clear hb hx hy hr PA PB PC PD k0 k1 k2 L1
    go_wp2_with first | refine wpList_store_whole rfl 24 _ _ rfl atRat _ _ _ rowA rfl rfl rfl rfl (rat_one _ _ _ _ _ _ _) ?_ | refine wpList_store_whole rfl 24 _ _ rfl atRat _ _ _ row rfl rfl rfl rfl (rat_one _ _ _ _ _ _ _) ?_
    refine bodyPost_ret (results_cell_row rfl _ _ _ _ _ _ _ rfl (setRow_heap _ _ _ _ _ _ row) Tryz.underlying24 rfl (by kernel_rfl)) rfl ?_
    refine ⟨ax, nx, cx, ay, ny, cy, by rw [hres.out]; (try rfl), ?_, ?_, HB.out _⟩
    · rw [hres.out]; exact (fin.out _).1
    · rw [hres.out]; exact (fin.out _).2
  case false =>
  obtain ⟨bv, hbv⟩ : ∃ bv, bv = decide (0 < xs.length) := ⟨_, rfl⟩
  go_enter Tryz.func48, Tryz.ntmps48
  go_wp2_with fail
  refine (ratTwin_any _ (h1.below PA.below) (h2.below PA.below) l1 l2).mono ?_
  rintro e1 w1 ⟨ax, nx, cx, ay, ny, cy, rfl, hx, hy, hb⟩
  have PA := PA.later hb
  have PB := PB.later hb
  have L1 : xs.length = nx := hx.len
  have hx := rd_rowset hx PA.row (rat_noint _ _ _ _ _ _ _) #[.bool false, .slice ax nx cx, .slice ay ny cy]
  have hy := rd_rowset hy PA.row (rat_noint _ _ _ _ _ _ _) #[.bool false, .slice ax nx cx, .slice ay ny cy]
  have PB := PB.putOther PA.lo (by omega) #[.bool false, .slice ax nx cx, .slice ay ny cy]
  have PC := PA.put #[.bool false, .slice ax nx cx, .slice ay ny cy]
  have hx := rd_setcell hx (i := 0) PC.row (rat_noint _ _ _ _ _ _ _) (.bool bv)
  have hy := rd_setcell hy (i := 0) PC.row (rat_noint _ _ _ _ _ _ _) (.bool bv)
  have PB := PB.other (p := ⟨w.heap.size, 0, none⟩) (by show w.heap.size + 1 ≠ w.heap.size; omega) PC.lo (.bool bv)
  have PD := PC.set 0 (.bool bv)
  have row := PB.row
  have HB := Lib.hid (fun cs => below_row PB.below PB.lo cs)
  have fin := Lib.hid (fun cs => (⟨rd_rowset hx row (rat_noint _ _ _ _ _ _ _) cs, rd_rowset hy row (rat_noint _ _ _ _ _ _ _) cs⟩ : _ ∧ _))
  have rowA := PA.row
  have q0 := PC.cell 0 _ rfl
  have q1 := PC.cell 1 _ rfl
  have q2 := PC.cell 2 _ rfl
  have f0 := PC.free 0
  have p0 := PD.cell 0 _ rfl
  have p1 := PD.cell 1 _ rfl
  have p2 := PD.cell 2 _ rfl
  have hres := Lib.hid (show r = ⟨bv, xs, ys⟩ by rw [hr, hbv]; rfl)
  have dv : decide ((0 : Int) < (nx : Int)) = bv := by
    rw [hbv, ← L1]
    exact decide_eq_decide.2 ⟨fun h => by omega, fun h => by omega⟩
  have dv2 : decide (0 < nx) = bv := by rw [hbv, ← L1]
  clear hbv
  clear hb hx hy hr PA PB PC PD k0 k1 k2 L1
  go_wp2_with first | refine wpList_store_whole rfl 24 _ _ rfl atRat _ _ _ rowA rfl rfl rfl rfl (rat_one _ _ _ _ _ _ _) ?_ | refine wpList_store_whole rfl 24 _ _ rfl atRat _ _ _ row rfl rfl rfl rfl (rat_one _ _ _ _ _ _ _) ?_
  refine bodyPost_ret (results_cell_row rfl _ _ _ _ _ _ _ rfl (setRow_heap _ _ _ _ _ _ row) Tryz.underlying24 rfl (by kernel_rfl)) rfl ?_
  refine ⟨ax, nx, cx, ay, ny, cy, by rw [hres.out]; (try rfl), ?_, ?_, HB.out _⟩
  · rw [hres.out]; exact (fin.out _).1
  · rw [hres.out]; exact (fin.out _).2

set_option maxRecDepth 100000 in
set_option maxHeartbeats 2000000 in
theorem ratNeg_any (w : World) {g : Bool} {a b : Option Addr} {n m c d : Nat} {xs ys : List Nat} (h1 : Rd .u32 w a n c xs) (h2 : Rd .u32 w b m d ys) :
    Calls Tryz.prog 14 #[ratV g a n c b m d] w (RetQE w (negC ⟨g, xs, ys⟩)) := by
  obtain ⟨r, hr⟩ : ∃ r, r = negC ⟨g, xs, ys⟩ := ⟨_, rfl⟩
  rw [← hr]
  have H0 := Has.new w #[.bool g, .slice a n c, .slice b m d] 24
  have R0 := Row.second w (.cells #[.bool g, .slice a n c, .slice b m d] 24) #[.bool false, .slice none 0 0, .slice none 0 0]
  have H1 := H0.later R0.below
  have k0 := H1.cell 0 _ rfl
  have k1 := H1.cell 1 _ rfl
  have k2 := H1.cell 2 _ rfl
  by_cases hc : chkV ⟨g, xs, ys⟩ = 0
  case neg =>
    have hres := Lib.hid (show r = (zeroV, 8) by rw [hr, negC, if_neg hc])
    have C := Lib.hid ((chkV_two _).resolve_left hc)
    clear hr hc
    go_enter Tryz.func14, Tryz.ntmps14
    go_wp2_with fail
    have cc := ratCheck_any (neg := g) _ (h1.below H1.below) (h2.below H1.below)
    rw [C.out] at cc
    refine cc.mono ?_
    rintro e1 w1 ⟨rfl, hb⟩
    clear cc
    have R1 := R0.later hb
    have row := R1.row
    clear hb k0 k1 k2
    go_wp2_with (refine wpList_store_whole rfl 24 _ _ rfl atRat _ _ _ row rfl rfl rfl rfl (rat_one _ _ _ _ _ _ _) ?_)
    refine bodyPost_ret (results_cell_two rfl _ _ _ _ _ _ _ rfl (setRow_heap _ _ _ _ _ _ row) Tryz.underlying24 rfl (by kernel_rfl) _ rfl) rfl ?_
    refine ⟨none, 0, 0, none, 0, 0, by rw [hres.out]; rfl, ?_, ?_, H0.below.trans ((below_row R1.below R1.lo _).mono (by rw [World.size_alloc]; omega))⟩
    · rw [hres.out]; exact Rd.nil _ _
    · rw [hres.out]; exact Rd.nil _ _
  have parts := chkV_parts (x := ⟨g, xs, ys⟩) h1.bd h2.bd hc
  have n96 : n ≤ 96 := by rw [← h1.len, show xs = limbs (val xs) from parts.1]; exact limbs_len_le parts.2.2.1
  have m96 : m ≤ 96 := by rw [← h2.len, show ys = limbs (val ys) from parts.2.1]; exact limbs_len_le parts.2.2.2.1
  have C := Lib.hid hc
  have hres := Lib.hid (show r = (turnV ⟨g, xs, ys⟩, 0) by rw [hr, negC, if_pos hc])
  clear hr hc parts
  go_enter Tryz.func14, Tryz.ntmps14
  go_wp2_with fail
  have cc := ratCheck_any (neg := g) _ (h1.below H1.below) (h2.below H1.below)
  rw [C.out] at cc
  refine cc.mono ?_
  rintro e1 w1 ⟨rfl, hb⟩
  clear cc
  have R1 := R0.later hb
  have H2 := H1.later hb
  have k0 := H2.cell 0 _ rfl
  have k1 := H2.cell 1 _ rfl
  have k2 := H2.cell 2 _ rfl
  clear hb
  go_wp2_with fail
  refine (turned_any _ (h1.below H2.below) (h2.below H2.below) (by omega) (by omega)).mono ?_
  rintro e1 w2 ⟨ax, nx, cx, ay, ny, cy, rfl, hx, hy, hb⟩
  have R2 := R1.later hb
  have row := R2.row
  have HB := Lib.hid (fun cs => H0.below.trans ((below_row R2.below R2.lo cs).mono (by rw [World.size_alloc]; omega)))
  have fin := Lib.hid (fun cs => (⟨rd_rowset hx row (rat_noint _ _ _ _ _ _ _) cs, rd_rowset hy row (rat_noint _ _ _ _ _ _ _) cs⟩ : _ ∧ _))
  clear hb hx hy
  go_wp2_with (refine wpList_store_whole rfl 24 _ _ rfl atRat _ _ _ row rfl rfl rfl rfl (rat_one _ _ _ _ _ _ _) ?_)
  refine bodyPost_ret (results_cell_two rfl _ _ _ _ _ _ _ rfl (setRow_heap _ _ _ _ _ _ row) Tryz.underlying24 rfl (by kernel_rfl) _ rfl) rfl ?_
  refine ⟨ax, nx, cx, ay, ny, cy, by rw [hres.out]; (try rfl), ?_, ?_, HB.out _⟩
  · rw [hres.out]; exact (fin.out _).1
  · rw [hres.out]; exact (fin.out _).2

set_option maxRecDepth 100000 in
set_option maxHeartbeats 2000000 in
theorem refNeg_any (w : World) {g : Bool} {a b : Option Addr} {n m c d : Nat} {xs ys : List Nat} (h1 : Rd .u32 w a n c xs) (h2 : Rd .u32 w b m d ys) :
    Calls Tryz.prog 15 #[ratV g a n c b m d] w (RetQE w (negC ⟨g, xs, ys⟩)) := by
  obtain ⟨r, hr⟩ : ∃ r, r = negC ⟨g, xs, ys⟩ := ⟨_, rfl⟩
  rw [← hr]
  have H0 := Has.new w #[.bool g, .slice a n c, .slice b m d] 24
  have R0 := Row.second w (.cells #[.bool g, .slice a n c, .slice b m d] 24) #[.bool false, .slice none 0 0, .slice none 0 0]
  have H1 := H0.later R0.below
  have k0 := H1.cell 0 _ rfl
  have k1 := H1.cell 1 _ rfl
  have k2 := H1.cell 2 _ rfl
  by_cases hc : chkV ⟨g, xs, ys⟩ = 0
  case neg =>
    have hres := Lib.hid (show r = (zeroV, 8) by rw [hr, negC, if_neg hc])
    have C := Lib.hid ((chkV_two _).resolve_left hc)
    clear hr hc
    go_enter Tryz.func15, Tryz.ntmps15
    go_wp2_with fail
    have cc := refRatCheck_any (neg := g) _ (h1.below H1.below) (h2.below H1.below)
    rw [C.out] at cc
    refine cc.mono ?_
    rintro e1 w1 ⟨rfl, hb⟩
    clear cc
    have R1 := R0.later hb
    have row := R1.row
    clear hb k0 k1 k2
    go_wp2_with (refine wpList_store_whole rfl 24 _ _ rfl atRat _ _ _ row rfl rfl rfl rfl (rat_one _ _ _ _ _ _ _) ?_)
    refine bodyPost_ret (results_cell_two rfl _ _ _ _ _ _ _ rfl (setRow_heap _ _ _ _ _ _ row) Tryz.underlying24 rfl (by kernel_rfl) _ rfl) rfl ?_
    refine ⟨none, 0, 0, none, 0, 0, by rw [hres.out]; rfl, ?_, ?_, H0.below.trans ((below_row R1.below R1.lo _).mono (by rw [World.size_alloc]; omega))⟩
    · rw [hres.out]; exact Rd.nil _ _
    · rw [hres.out]; exact Rd.nil _ _
  have parts := chkV_parts (x := ⟨g, xs, ys⟩) h1.bd h2.bd hc
  have n96 : n ≤ 96 := by rw [← h1.len, show xs = limbs (val xs) from parts.1]; exact limbs_len_le parts.2.2.1
  have m96 : m ≤ 96 := by rw [← h2.len, show ys = limbs (val ys) from parts.2.1]; exact limbs_len_le parts.2.2.2.1
  have C := Lib.hid hc
  have T1 := Lib.hid (show limbs (val xs) = xs from parts.1.symm)
  have T2 := Lib.hid (show limbs (val ys) = ys from parts.2.1.symm)
  have L1 : xs.length = n := h1.len
  cases g
  case true =>
    have hres := Lib.hid (show r = (⟨false, xs, ys⟩, 0) by rw [hr, negC, if_pos hc]; rfl)
    clear hr hc parts L1
    go_enter Tryz.func15, Tryz.ntmps15
    go_wp2_with fail
    have cc := refRatCheck_any (neg := true) _ (h1.below H1.below) (h2.below H1.below)
    rw [C.out] at cc
    refine cc.mono ?_
    rintro e1 w1 ⟨rfl, hb⟩
    clear cc
    have R0 := R0.later hb
    have H1 := H1.later hb
    clear hb k0 k1 k2
    go_wp2_with fail
    have hb := (Below.refl (w1).heap.size (w1)).drew
    have R0 := R0.later hb
    have H1 := H1.later hb
    clear hb 
    refine wp_region_held_drew (S := (fun w' => w'.cell? ⟨w.heap.size, 0, none⟩ = some (.bool true) ∧ w'.cell? ⟨w.heap.size, 1, none⟩ = some (.slice a n c) ∧ w'.cell? ⟨w.heap.size, 2, none⟩ = some (.slice b m d) ∧ True)) (by kernel_rfl) ?_ (fun hHeld => ?_)
    · exact ⟨H1.cell 0 _ rfl, H1.cell 1 _ rfl, H1.cell 2 _ rfl, trivial⟩
    generalize World.drew (w1) = w2 at *
    refine wpAnyH_take (i := 0) (oi := ?oir6_0) (v := ?vr6_0) ?hir6_0 (by kernel_rfl) (by kernel_rfl) (by kernel_rfl) ?hqr6_0 ?hyr6_0 (by assumption) ?restr6_0
    case hir6_0 => simp only [List.getElem?_toArray, List.getElem?_cons_succ, List.getElem?_cons_zero]; rfl
    case hqr6_0 => exact fun _ _ _ h => h
    case hyr6_0 => (refine Or.inl ⟨by rfl, ?_⟩; intro w hSw; (try dsimp only at hSw); go_simp; all_goals with_reducible rfl)
    try simp only [Act.put, List.setIfInBounds_toArray, List.set_cons_zero, List.set_cons_succ]
    refine wpAnyH_take (i := 1) (oi := ?oir6_1) (v := ?vr6_1) ?hir6_1 (by kernel_rfl) (by kernel_rfl) (by kernel_rfl) ?hqr6_1 ?hyr6_1 (by assumption) ?restr6_1
    case hir6_1 => simp only [List.getElem?_toArray, List.getElem?_cons_succ, List.getElem?_cons_zero]; rfl
    case hqr6_1 => exact fun _ _ _ h => h
    case hyr6_1 => (refine Or.inl ⟨by rfl, ?_⟩; intro w hSw; (try dsimp only at hSw); go_simp; all_goals with_reducible rfl)
    try simp only [Act.put, List.setIfInBounds_toArray, List.set_cons_zero, List.set_cons_succ]
    refine wpAnyH_take (i := 2) (oi := ?oir6_2) (v := ?vr6_2) ?hir6_2 (by kernel_rfl) (by kernel_rfl) (by kernel_rfl) ?hqr6_2 ?hyr6_2 (by assumption) ?restr6_2
    case hir6_2 => simp only [List.getElem?_toArray, List.getElem?_cons_succ, List.getElem?_cons_zero]; rfl
    case hqr6_2 => exact fun _ _ _ h => h
    case hyr6_2 => (refine Or.inl ⟨by rfl, ?_⟩; intro w hSw; (try dsimp only at hSw); go_simp; all_goals with_reducible rfl)
    try simp only [Act.put, List.setIfInBounds_toArray, List.set_cons_zero, List.set_cons_succ]
    refine wpAnyH_take (i := 3) (oi := ?oir6_3) (v := ?vr6_3) ?hir6_3 (by kernel_rfl) (by kernel_rfl) (by kernel_rfl) ?hqr6_3 ?hyr6_3 (by assumption) ?restr6_3
    case hir6_3 => simp only [List.getElem?_toArray, List.getElem?_cons_succ, List.getElem?_cons_zero]; rfl
    case hqr6_3 => exact fun _ _ _ h => h
    case hyr6_3 => (refine Or.inl ⟨by rfl, ?_⟩; intro w hSw; (try dsimp only at hSw); go_simp; all_goals with_reducible rfl)
    try simp only [Act.put, List.setIfInBounds_toArray, List.set_cons_zero, List.set_cons_succ]
    refine wpAnyH_take (i := 4) (oi := ?oir6_4) (v := undef) ?hir6_4 (by kernel_rfl) (by kernel_rfl) (by kernel_rfl) ?hqr6_4 ?hyr6_4 (by assumption) ?restr6_4
    case hir6_4 => simp only [List.getElem?_toArray, List.getElem?_cons_succ, List.getElem?_cons_zero]; rfl
    case hqr6_4 => exact fun _ _ _ h => h
    case hyr6_4 => exact Or.inr ⟨by rfl, rfl⟩
    try simp only [Act.put, List.setIfInBounds_toArray, List.set_cons_zero, List.set_cons_succ]
    refine wpAnyH_take (i := 5) (oi := ?oir6_5) (v := undef) ?hir6_5 (by kernel_rfl) (by kernel_rfl) (by kernel_rfl) ?hqr6_5 ?hyr6_5 (by assumption) ?restr6_5
    case hir6_5 => simp only [List.getElem?_toArray, List.getElem?_cons_succ, List.getElem?_cons_zero]; rfl
    case hqr6_5 => exact fun _ _ _ h => h
    case hyr6_5 => exact Or.inr ⟨by rfl, rfl⟩
    try simp only [Act.put, List.setIfInBounds_toArray, List.set_cons_zero, List.set_cons_succ]
    refine wpAnyH_take (i := 6) (oi := ?oir6_6) (v := undef) ?hir6_6 (by kernel_rfl) (by kernel_rfl) (by kernel_rfl) ?hqr6_6 ?hyr6_6 (by assumption) ?restr6_6
    case hir6_6 => simp only [List.getElem?_toArray, List.getElem?_cons_succ, List.getElem?_cons_zero]; rfl
    case hqr6_6 => exact fun _ _ _ h => h
    case hyr6_6 => exact Or.inr ⟨by rfl, rfl⟩
    try simp only [Act.put, List.setIfInBounds_toArray, List.set_cons_zero, List.set_cons_succ]
    refine wpAnyH_take (i := 7) (oi := ?oir6_7) (v := undef) ?hir6_7 (by kernel_rfl) (by kernel_rfl) (by kernel_rfl) ?hqr6_7 ?hyr6_7 (by assumption) ?restr6_7
    case hir6_7 => simp only [List.getElem?_toArray, List.getElem?_cons_succ, List.getElem?_cons_zero]; rfl
    case hqr6_7 => exact fun _ _ _ h => h
    case hyr6_7 => exact Or.inr ⟨by rfl, rfl⟩
    try simp only [Act.put, List.setIfInBounds_toArray, List.set_cons_zero, List.set_cons_succ]
    refine wpAnyH_take (i := 8) (oi := ?oir6_8) (v := ?vr6_8) ?hir6_8 (by kernel_rfl) (by kernel_rfl) (by kernel_rfl) ?hqr6_8 ?hyr6_8 (by assumption) ?restr6_8
    case hir6_8 => simp only [List.getElem?_toArray, List.getElem?_cons_succ, List.getElem?_cons_zero]; rfl
    case hqr6_8 => exact fun _ _ _ h => h
    case hyr6_8 => (refine Or.inl ⟨by rfl, ?_⟩; intro w hSw; (try dsimp only at hSw); go_simp; all_goals with_reducible rfl)
    try simp only [Act.put, List.setIfInBounds_toArray, List.set_cons_zero, List.set_cons_succ]
    refine wpAnyH_take (i := 9) (oi := ?oir7_9) (v := ?vr7_9) ?hir7_9 (by kernel_rfl) (by kernel_rfl) (by kernel_rfl) ?hqr7_9 ?hyr7_9 (by assumption) ?restr7_9
    case hir7_9 => simp only [List.getElem?_toArray, List.getElem?_cons_succ, List.getElem?_cons_zero]; rfl
    case hqr7_9 => exact fun _ _ _ h => h
    case hyr7_9 => (refine Or.inl ⟨by rfl, ?_⟩; intro w hSw; (try dsimp only at hSw); go_simp; all_goals with_reducible rfl)
    try simp only [Act.put, List.setIfInBounds_toArray, List.set_cons_zero, List.set_cons_succ]
    refine wpAnyH_take (i := 10) (oi := ?oir7_10) (v := ?vr7_10) ?hir7_10 (by kernel_rfl) (by kernel_rfl) (by kernel_rfl) ?hqr7_10 ?hyr7_10 (by assumption) ?restr7_10
    case hir7_10 => simp only [List.getElem?_toArray, List.getElem?_cons_succ, List.getElem?_cons_zero]; rfl
    case hqr7_10 => exact fun _ _ _ h => h
    case hyr7_10 => (refine Or.inl ⟨by rfl, ?_⟩; intro w hSw; (try dsimp only at hSw); go_simp; all_goals with_reducible rfl)
    try simp only [Act.put, List.setIfInBounds_toArray, List.set_cons_zero, List.set_cons_succ]
    refine wpAnyH_take (i := 12) (oi := ?oir7_12) (v := ?vr7_12) ?hir7_12 (by kernel_rfl) (by kernel_rfl) (by kernel_rfl) ?hqr7_12 ?hyr7_12 (by assumption) ?restr7_12
    case hir7_12 => simp only [List.getElem?_toArray, List.getElem?_cons_succ, List.getElem?_cons_zero]; rfl
    case hqr7_12 => exact fun _ _ _ h => h
    case hyr7_12 => (refine Or.inl ⟨by rfl, ?_⟩; intro w hSw; (try dsimp only at hSw); go_simp; all_goals with_reducible rfl)
    try simp only [Act.put, List.setIfInBounds_toArray, List.set_cons_zero, List.set_cons_succ]
    refine wpAnyH_take (i := 13) (oi := ?oir7_13) (v := ?vr7_13) ?hir7_13 (by kernel_rfl) (by kernel_rfl) (by kernel_rfl) ?hqr7_13 ?hyr7_13 (by assumption) ?restr7_13
    case hir7_13 => simp only [List.getElem?_toArray, List.getElem?_cons_succ, List.getElem?_cons_zero]; rfl
    case hqr7_13 => exact fun _ _ _ h => h
    case hyr7_13 => (refine Or.inl ⟨by rfl, ?_⟩; intro w hSw; (try dsimp only at hSw); go_simp; all_goals with_reducible rfl)
    try simp only [Act.put, List.setIfInBounds_toArray, List.set_cons_zero, List.set_cons_succ]
    refine wpAnyH_ready (rs := [11]) (by kernel_rfl) (by simp) ?_
    refine AllReadyH.cons (o := ?or8_11) ?hor8_11 (fun K hK => ?kr8_11) AllReadyH.nil
    case hor8_11 => simp only [List.getElem?_toArray, List.getElem?_cons_succ, List.getElem?_cons_zero]; rfl
    go_simp
    have cc := refTrim_any w2 (h1.below H1.below) (by omega)
    rw [T1.out] at cc
    refine cc.mono ?_
    rintro e1 w3 ⟨ax, nx, cx, rfl, hx, hb⟩
    clear cc
    have R1 := R0.later hb
    have H2 := H1.later hb
    have hx := hx.rd
    clear hb
    go_wp2_with fail
    clear hHeld
    refine hK.out _ _ ?_ (fun hHeld => ?_)
    · exact ⟨H2.cell 0 _ rfl, H2.cell 1 _ rfl, H2.cell 2 _ rfl, trivial⟩
    clear hK K
    try simp only [Act.put, List.setIfInBounds_toArray, List.set_cons_zero, List.set_cons_succ]
    refine wpAnyH_ready (rs := [14]) (by kernel_rfl) (by simp) ?_
    refine AllReadyH.cons (o := ?or9_14) ?hor9_14 (fun K hK => ?kr9_14) AllReadyH.nil
    case hor9_14 => simp only [List.getElem?_toArray, List.getElem?_cons_succ, List.getElem?_cons_zero]; rfl
    go_simp
    have cc := refTrim_any w3 (h2.below H2.below) (by omega)
    rw [T2.out] at cc
    refine cc.mono ?_
    rintro e1 w4 ⟨ay, ny, cy, rfl, hy, hb⟩
    clear cc
    have R2 := R1.later hb
    have HL := H2.later hb
    have hx := hx.below hb
    have hy := hy.rd
    clear hb
    go_wp2_with fail
    clear hHeld
    refine hK.out _ _ ?_ (fun hHeld => ?_)
    · exact ⟨HL.cell 0 _ rfl, HL.cell 1 _ rfl, HL.cell 2 _ rfl, trivial⟩
    clear hK K
    try simp only [Act.put, List.setIfInBounds_toArray, List.set_cons_zero, List.set_cons_succ]
    refine wpAnyH_take (i := 15) (oi := ?oir10_15) (v := ?vr10_15) ?hir10_15 (by kernel_rfl) (by kernel_rfl) (by kernel_rfl) ?hqr10_15 ?hyr10_15 (by assumption) ?restr10_15
    case hir10_15 => simp only [List.getElem?_toArray, List.getElem?_cons_succ, List.getElem?_cons_zero]; rfl
    case hqr10_15 => exact fun _ _ _ h => h
    case hyr10_15 => (refine Or.inl ⟨by rfl, ?_⟩; intro w hSw; (try dsimp only at hSw); go_simp; all_goals with_reducible rfl)
    try simp only [Act.put, List.setIfInBounds_toArray, List.set_cons_zero, List.set_cons_succ]
    have row := R2.row
    have HB := Lib.hid (fun cs => H0.below.trans ((below_row R2.below R2.lo cs).mono (by rw [World.size_alloc]; omega)))
    have fin := Lib.hid (fun cs => (⟨rd_rowset hx row (rat_noint _ _ _ _ _ _ _) cs, rd_rowset hy row (rat_noint _ _ _ _ _ _ _) cs⟩ : _ ∧ _))
    clear hx hy
    refine wpAnyH_ready (rs := [16]) (by kernel_rfl) (by simp) ?_
    refine (AllReadyH.cons (o := ?ob12_16) ?hob12_16 (fun K hK => ?kb12_16) AllReadyH.nil)
    case hob12_16 => simp only [List.getElem?_toArray, List.getElem?_cons_succ, List.getElem?_cons_zero]; rfl
    case kb12_16 =>
      rw [if_pos (by rfl)]
      refine op_store_whole 24 _ _ rfl atRat _ _ _ row rfl rfl rfl rfl (rat_one _ _ _ _ _ _ _) ?_
      refine hK.out _ _ ?_ (fun hHeld => ?_)
      · exact ⟨cell_row (HL.cell 0 _ rfl) (by omega), cell_row (HL.cell 1 _ rfl) (by omega), cell_row (HL.cell 2 _ rfl) (by omega), trivial⟩
      clear hK K
      try simp only [Act.put, List.setIfInBounds_toArray, List.set_cons_zero, List.set_cons_succ]
      refine wpAnyH_take (i := 17) (oi := ?oir11_17) (v := ?vr11_17) ?hir11_17 (by kernel_rfl) (by kernel_rfl) (by kernel_rfl) ?hqr11_17 ?hyr11_17 (by assumption) ?restr11_17
      case hir11_17 => simp only [List.getElem?_toArray, List.getElem?_cons_succ, List.getElem?_cons_zero]; rfl
      case hqr11_17 => exact fun _ _ _ h => h
      case hyr11_17 => (refine Or.inl ⟨by rfl, ?_⟩; intro w hSw; (try dsimp only at hSw); go_simp; all_goals with_reducible rfl)
      try simp only [Act.put, List.setIfInBounds_toArray, List.set_cons_zero, List.set_cons_succ]
      refine wpAnyH_done (by kernel_rfl) ?_ _
      go_wp2_with fail
      refine bodyPost_ret (results_cell_two rfl _ _ _ _ _ _ _ rfl (setRow_heap _ _ _ _ _ _ row) Tryz.underlying24 rfl (by kernel_rfl) _ rfl) rfl ?_
      refine ⟨ax, nx, cx, ay, ny, cy, by rw [hres.out]; (try rfl), ?_, ?_, HB.out _⟩
      · rw [hres.out]; exact (fin.out _).1
      · rw [hres.out]; exact (fin.out _).2
  case false =>
  obtain ⟨bv, hbv⟩ : ∃ bv, bv = decide (0 < xs.length) := ⟨_, rfl⟩
  have hres := Lib.hid (show r = (⟨bv, xs, ys⟩, 0) by rw [hr, negC, if_pos hc, hbv]; rfl)
  have dv : decide ((0 : Int) < (n : Int)) = bv := by
    rw [hbv, L1]
    exact decide_eq_decide.2 ⟨fun h => by omega, fun h => by omega⟩
  have dv2 : decide (0 < n) = bv := by rw [hbv, L1]
  clear hr hc parts L1 hbv
  go_enter Tryz.func15, Tryz.ntmps15
  go_wp2_with fail
  have cc := refRatCheck_any (neg := false) _ (h1.below H1.below) (h2.below H1.below)
  rw [C.out] at cc
  refine cc.mono ?_
  rintro e1 w1 ⟨rfl, hb⟩
  clear cc
  have R0 := R0.later hb
  have H1 := H1.later hb
  clear hb k0 k1 k2
  go_wp2_with fail
  have hb := (Below.refl (w1).heap.size (w1)).drew
  have R0 := R0.later hb
  have H1 := H1.later hb
  clear hb 
  refine wp_region_held_drew (S := (fun w' => w'.cell? ⟨w.heap.size, 0, none⟩ = some (.bool false) ∧ w'.cell? ⟨w.heap.size, 1, none⟩ = some (.slice a n c) ∧ w'.cell? ⟨w.heap.size, 2, none⟩ = some (.slice b m d) ∧ True)) (by kernel_rfl) ?_ (fun hHeld => ?_)
  · exact ⟨H1.cell 0 _ rfl, H1.cell 1 _ rfl, H1.cell 2 _ rfl, trivial⟩
  generalize World.drew (w1) = w2 at *
  refine wpAnyH_take (i := 0) (oi := ?oir13_0) (v := ?vr13_0) ?hir13_0 (by kernel_rfl) (by kernel_rfl) (by kernel_rfl) ?hqr13_0 ?hyr13_0 (by assumption) ?restr13_0
  case hir13_0 => simp only [List.getElem?_toArray, List.getElem?_cons_succ, List.getElem?_cons_zero]; rfl
  case hqr13_0 => exact fun _ _ _ h => h
  case hyr13_0 => (refine Or.inl ⟨by rfl, ?_⟩; intro w hSw; (try dsimp only at hSw); go_simp; all_goals with_reducible rfl)
  try simp only [Act.put, List.setIfInBounds_toArray, List.set_cons_zero, List.set_cons_succ]
  refine wpAnyH_take (i := 1) (oi := ?oir13_1) (v := ?vr13_1) ?hir13_1 (by kernel_rfl) (by kernel_rfl) (by kernel_rfl) ?hqr13_1 ?hyr13_1 (by assumption) ?restr13_1
  case hir13_1 => simp only [List.getElem?_toArray, List.getElem?_cons_succ, List.getElem?_cons_zero]; rfl
  case hqr13_1 => exact fun _ _ _ h => h
  case hyr13_1 => (refine Or.inl ⟨by rfl, ?_⟩; intro w hSw; (try dsimp only at hSw); go_simp; all_goals with_reducible rfl)
  try simp only [Act.put, List.setIfInBounds_toArray, List.set_cons_zero, List.set_cons_succ]
  refine wpAnyH_take (i := 2) (oi := ?oir13_2) (v := ?vr13_2) ?hir13_2 (by kernel_rfl) (by kernel_rfl) (by kernel_rfl) ?hqr13_2 ?hyr13_2 (by assumption) ?restr13_2
  case hir13_2 => simp only [List.getElem?_toArray, List.getElem?_cons_succ, List.getElem?_cons_zero]; rfl
  case hqr13_2 => exact fun _ _ _ h => h
  case hyr13_2 => (refine Or.inl ⟨by rfl, ?_⟩; intro w hSw; (try dsimp only at hSw); go_simp; all_goals with_reducible rfl)
  try simp only [Act.put, List.setIfInBounds_toArray, List.set_cons_zero, List.set_cons_succ]
  refine wpAnyH_take (i := 3) (oi := ?oir13_3) (v := ?vr13_3) ?hir13_3 (by kernel_rfl) (by kernel_rfl) (by kernel_rfl) ?hqr13_3 ?hyr13_3 (by assumption) ?restr13_3
  case hir13_3 => simp only [List.getElem?_toArray, List.getElem?_cons_succ, List.getElem?_cons_zero]; rfl
  case hqr13_3 => exact fun _ _ _ h => h
  case hyr13_3 => (refine Or.inl ⟨by rfl, ?_⟩; intro w hSw; (try dsimp only at hSw); go_simp; all_goals with_reducible rfl)
  try simp only [Act.put, List.setIfInBounds_toArray, List.set_cons_zero, List.set_cons_succ]
  refine wpAnyH_take (i := 4) (oi := ?oir13_4) (v := ?vr13_4) ?hir13_4 (by kernel_rfl) (by kernel_rfl) (by kernel_rfl) ?hqr13_4 ?hyr13_4 (by assumption) ?restr13_4
  case hir13_4 => simp only [List.getElem?_toArray, List.getElem?_cons_succ, List.getElem?_cons_zero]; rfl
  case hqr13_4 => exact fun _ _ _ h => h
  case hyr13_4 => (refine Or.inl ⟨by rfl, ?_⟩; intro w hSw; (try dsimp only at hSw); go_simp; all_goals with_reducible rfl)
  try simp only [Act.put, List.setIfInBounds_toArray, List.set_cons_zero, List.set_cons_succ]
  refine wpAnyH_take (i := 5) (oi := ?oir13_5) (v := ?vr13_5) ?hir13_5 (by kernel_rfl) (by kernel_rfl) (by kernel_rfl) ?hqr13_5 ?hyr13_5 (by assumption) ?restr13_5
  case hir13_5 => simp only [List.getElem?_toArray, List.getElem?_cons_succ, List.getElem?_cons_zero]; rfl
  case hqr13_5 => exact fun _ _ _ h => h
  case hyr13_5 => (refine Or.inl ⟨by rfl, ?_⟩; intro w hSw; (try dsimp only at hSw); go_simp; all_goals with_reducible rfl)
  try simp only [Act.put, List.setIfInBounds_toArray, List.set_cons_zero, List.set_cons_succ]
  refine wpAnyH_take (i := 6) (oi := ?oir13_6) (v := ?vr13_6) ?hir13_6 (by kernel_rfl) (by kernel_rfl) (by kernel_rfl) ?hqr13_6 ?hyr13_6 (by assumption) ?restr13_6
  case hir13_6 => simp only [List.getElem?_toArray, List.getElem?_cons_succ, List.getElem?_cons_zero]; rfl
  case hqr13_6 => exact fun _ _ _ h => h
  case hyr13_6 => (refine Or.inl ⟨by rfl, ?_⟩; intro w hSw; (try dsimp only at hSw); go_simp; all_goals with_reducible rfl)
  try simp only [Act.put, List.setIfInBounds_toArray, List.set_cons_zero, List.set_cons_succ]
  refine wpAnyH_take (i := 7) (oi := ?oir13_7) (v := ?vr13_7) ?hir13_7 (by kernel_rfl) (by kernel_rfl) (by kernel_rfl) ?hqr13_7 ?hyr13_7 (by assumption) ?restr13_7
  case hir13_7 => simp only [List.getElem?_toArray, List.getElem?_cons_succ, List.getElem?_cons_zero]; rfl
  case hqr13_7 => exact fun _ _ _ h => h
  case hyr13_7 => (refine Or.inl ⟨by rfl, ?_⟩; intro w hSw; (try dsimp only at hSw); go_simp; all_goals with_reducible rfl)
  try simp only [Act.put, List.setIfInBounds_toArray, List.set_cons_zero, List.set_cons_succ]
  refine wpAnyH_take (i := 8) (oi := ?oir13_8) (v := ?vr13_8) ?hir13_8 (by kernel_rfl) (by kernel_rfl) (by kernel_rfl) ?hqr13_8 ?hyr13_8 (by assumption) ?restr13_8
  case hir13_8 => simp only [List.getElem?_toArray, List.getElem?_cons_succ, List.getElem?_cons_zero]; rfl
  case hqr13_8 => exact fun _ _ _ h => h
  case hyr13_8 => (refine Or.inl ⟨by rfl, ?_⟩; intro w hSw; (try dsimp only at hSw); go_simp; all_goals with_reducible rfl)
  try simp only [Act.put, List.setIfInBounds_toArray, List.set_cons_zero, List.set_cons_succ]
  refine wpAnyH_take (i := 9) (oi := ?oir14_9) (v := ?vr14_9) ?hir14_9 (by kernel_rfl) (by kernel_rfl) (by kernel_rfl) ?hqr14_9 ?hyr14_9 (by assumption) ?restr14_9
  case hir14_9 => simp only [List.getElem?_toArray, List.getElem?_cons_succ, List.getElem?_cons_zero]; rfl
  case hqr14_9 => exact fun _ _ _ h => h
  case hyr14_9 => (refine Or.inl ⟨by rfl, ?_⟩; intro w hSw; (try dsimp only at hSw); go_simp; all_goals with_reducible rfl)
  try simp only [Act.put, List.setIfInBounds_toArray, List.set_cons_zero, List.set_cons_succ]
  refine wpAnyH_take (i := 10) (oi := ?oir14_10) (v := ?vr14_10) ?hir14_10 (by kernel_rfl) (by kernel_rfl) (by kernel_rfl) ?hqr14_10 ?hyr14_10 (by assumption) ?restr14_10
  case hir14_10 => simp only [List.getElem?_toArray, List.getElem?_cons_succ, List.getElem?_cons_zero]; rfl
  case hqr14_10 => exact fun _ _ _ h => h
  case hyr14_10 => (refine Or.inl ⟨by rfl, ?_⟩; intro w hSw; (try dsimp only at hSw); go_simp; all_goals with_reducible rfl)
  try simp only [Act.put, List.setIfInBounds_toArray, List.set_cons_zero, List.set_cons_succ]
  refine wpAnyH_take (i := 12) (oi := ?oir14_12) (v := ?vr14_12) ?hir14_12 (by kernel_rfl) (by kernel_rfl) (by kernel_rfl) ?hqr14_12 ?hyr14_12 (by assumption) ?restr14_12
  case hir14_12 => simp only [List.getElem?_toArray, List.getElem?_cons_succ, List.getElem?_cons_zero]; rfl
  case hqr14_12 => exact fun _ _ _ h => h
  case hyr14_12 => (refine Or.inl ⟨by rfl, ?_⟩; intro w hSw; (try dsimp only at hSw); go_simp; all_goals with_reducible rfl)
  try simp only [Act.put, List.setIfInBounds_toArray, List.set_cons_zero, List.set_cons_succ]
  refine wpAnyH_take (i := 13) (oi := ?oir14_13) (v := ?vr14_13) ?hir14_13 (by kernel_rfl) (by kernel_rfl) (by kernel_rfl) ?hqr14_13 ?hyr14_13 (by assumption) ?restr14_13
  case hir14_13 => simp only [List.getElem?_toArray, List.getElem?_cons_succ, List.getElem?_cons_zero]; rfl
  case hqr14_13 => exact fun _ _ _ h => h
  case hyr14_13 => (refine Or.inl ⟨by rfl, ?_⟩; intro w hSw; (try dsimp only at hSw); go_simp; all_goals with_reducible rfl)
  try simp only [Act.put, List.setIfInBounds_toArray, List.set_cons_zero, List.set_cons_succ]
  refine wpAnyH_ready (rs := [11]) (by kernel_rfl) (by simp) ?_
  refine AllReadyH.cons (o := ?or15_11) ?hor15_11 (fun K hK => ?kr15_11) AllReadyH.nil
  case hor15_11 => simp only [List.getElem?_toArray, List.getElem?_cons_succ, List.getElem?_cons_zero]; rfl
  go_simp
  have cc := refTrim_any w2 (h1.below H1.below) (by omega)
  rw [T1.out] at cc
  refine cc.mono ?_
  rintro e1 w3 ⟨ax, nx, cx, rfl, hx, hb⟩
  clear cc
  have R1 := R0.later hb
  have H2 := H1.later hb
  have hx := hx.rd
  clear hb
  go_wp2_with fail
  clear hHeld
  refine hK.out _ _ ?_ (fun hHeld => ?_)
  · exact ⟨H2.cell 0 _ rfl, H2.cell 1 _ rfl, H2.cell 2 _ rfl, trivial⟩
  clear hK K
  try simp only [Act.put, List.setIfInBounds_toArray, List.set_cons_zero, List.set_cons_succ]
  refine wpAnyH_ready (rs := [14]) (by kernel_rfl) (by simp) ?_
  refine AllReadyH.cons (o := ?or16_14) ?hor16_14 (fun K hK => ?kr16_14) AllReadyH.nil
  case hor16_14 => simp only [List.getElem?_toArray, List.getElem?_cons_succ, List.getElem?_cons_zero]; rfl
  go_simp
  have cc := refTrim_any w3 (h2.below H2.below) (by omega)
  rw [T2.out] at cc
  refine cc.mono ?_
  rintro e1 w4 ⟨ay, ny, cy, rfl, hy, hb⟩
  clear cc
  have R2 := R1.later hb
  have HL := H2.later hb
  have hx := hx.below hb
  have hy := hy.rd
  clear hb
  go_wp2_with fail
  clear hHeld
  refine hK.out _ _ ?_ (fun hHeld => ?_)
  · exact ⟨HL.cell 0 _ rfl, HL.cell 1 _ rfl, HL.cell 2 _ rfl, trivial⟩
  clear hK K
  try simp only [Act.put, List.setIfInBounds_toArray, List.set_cons_zero, List.set_cons_succ]
  refine wpAnyH_take (i := 15) (oi := ?oir17_15) (v := ?vr17_15) ?hir17_15 (by kernel_rfl) (by kernel_rfl) (by kernel_rfl) ?hqr17_15 ?hyr17_15 (by assumption) ?restr17_15
  case hir17_15 => simp only [List.getElem?_toArray, List.getElem?_cons_succ, List.getElem?_cons_zero]; rfl
  case hqr17_15 => exact fun _ _ _ h => h
  case hyr17_15 => (refine Or.inl ⟨by rfl, ?_⟩; intro w hSw; (try dsimp only at hSw); go_simp; all_goals with_reducible rfl)
  try simp only [Act.put, List.setIfInBounds_toArray, List.set_cons_zero, List.set_cons_succ]
  have row := R2.row
  have HB := Lib.hid (fun cs => H0.below.trans ((below_row R2.below R2.lo cs).mono (by rw [World.size_alloc]; omega)))
  have fin := Lib.hid (fun cs => (⟨rd_rowset hx row (rat_noint _ _ _ _ _ _ _) cs, rd_rowset hy row (rat_noint _ _ _ _ _ _ _) cs⟩ : _ ∧ _))
  clear hx hy
  refine wpAnyH_ready (rs := [16]) (by kernel_rfl) (by simp) ?_
  refine (AllReadyH.cons (o := ?ob19_16) ?hob19_16 (fun K hK => ?kb19_16) AllReadyH.nil)
  case hob19_16 => simp only [List.getElem?_toArray, List.getElem?_cons_succ, List.getElem?_cons_zero]; rfl
  case kb19_16 =>
    rw [if_pos (by rfl)]
    refine op_store_whole 24 _ _ rfl atRat _ _ _ row rfl rfl rfl rfl (rat_one _ _ _ _ _ _ _) ?_
    refine hK.out _ _ ?_ (fun hHeld => ?_)
    · exact ⟨cell_row (HL.cell 0 _ rfl) (by omega), cell_row (HL.cell 1 _ rfl) (by omega), cell_row (HL.cell 2 _ rfl) (by omega), trivial⟩
    clear hK K
    try simp only [Act.put, List.setIfInBounds_toArray, List.set_cons_zero, List.set_cons_succ]
    refine wpAnyH_take (i := 17) (oi := ?oir18_17) (v := ?vr18_17) ?hir18_17 (by kernel_rfl) (by kernel_rfl) (by kernel_rfl) ?hqr18_17 ?hyr18_17 (by assumption) ?restr18_17
    case hir18_17 => simp only [List.getElem?_toArray, List.getElem?_cons_succ, List.getElem?_cons_zero]; rfl
    case hqr18_17 => exact fun _ _ _ h => h
    case hyr18_17 => (refine Or.inl ⟨by rfl, ?_⟩; intro w hSw; (try dsimp only at hSw); go_simp; all_goals with_reducible rfl)
    try simp only [Act.put, List.setIfInBounds_toArray, List.set_cons_zero, List.set_cons_succ]
    refine wpAnyH_done (by kernel_rfl) ?_ _
    go_wp2_with fail
    refine bodyPost_ret (results_cell_two rfl _ _ _ _ _ _ _ rfl (setRow_heap _ _ _ _ _ _ row) Tryz.underlying24 rfl (by kernel_rfl) _ rfl) rfl ?_
    refine ⟨ax, nx, cx, ay, ny, cy, by rw [hres.out]; (try rfl), ?_, ?_, HB.out _⟩
    · rw [hres.out]; exact (fin.out _).1
    · rw [hres.out]; exact (fin.out _).2

end Go.Proofs.YtdaajeklnhbhjaaGreatDoor
