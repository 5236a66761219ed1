/- Rational numbers: Twin, turned, Neg and the reference's Neg. Condition of Twin: not too long. Printed by gen_rato.py. -/
import Derived.Test.YtdaajeklnhbhjaaDoorRatK
import Derived.Deep.CutRange
import Derived.Deep.RegionHeld3
import Derived.Test.YtdaajeklnhbhjaaDoorRatD
namespace Go.Proofs.YtdaajeklnhbhjaaDoor
open Go.RowKit Go.Suf
set_option linter.unusedVariables false
set_option linter.unusedSimpArgs false

set_option maxRecDepth 100000 in
set_option maxHeartbeats 2000000 in
theorem ratTwin_any (w : World) {g : Bool} {a b : Option Addr} {n m c d : Nat} {xs ys : List Nat} (h1 : Rd .u32 w a n c xs) (h2 : Rd .u32 w b m d ys) (l1 : n ≤ 1099511627776) (l2 : m ≤ 1099511627776) :
    Calls Tryd.prog 59 #[ratV g a n c b m d] w (RetQ w ⟨g, xs, ys⟩) := by
  have H0 := Has.new w #[.bool g, .slice a n c, .slice b m d] 24
  have R0 := Row.second w (.cells #[.bool g, .slice a n c, .slice b m d] 24) #[.bool false, .slice none 0 0, .slice none 0 0]
  have H1 := H0.later R0.below
  go_enter Tryd.func59, Tryd.ntmps59
  go_wp2_with fail
  have hb := (Below.refl ((w.alloc (.cells #[.bool g, .slice a n c, .slice b m d] 24)).alloc (.cells #[.bool false, .slice none 0 0, .slice none 0 0] 24)).heap.size ((w.alloc (.cells #[.bool g, .slice a n c, .slice b m d] 24)).alloc (.cells #[.bool false, .slice none 0 0, .slice none 0 0] 24))).drew
  have R0 := R0.later hb
  have H1 := H1.later hb
  clear hb 
  refine wp_region_held_drew (S := (fun w' => w'.cell? ⟨w.heap.size, 0, none⟩ = some (.bool g) ∧ w'.cell? ⟨w.heap.size, 1, none⟩ = some (.slice a n c) ∧ w'.cell? ⟨w.heap.size, 2, none⟩ = some (.slice b m d) ∧ True)) (by kernel_rfl) ?_ (fun hHeld => ?_)
  · exact ⟨H1.cell 0 _ rfl, H1.cell 1 _ rfl, H1.cell 2 _ rfl, trivial⟩
  generalize World.drew ((w.alloc (.cells #[.bool g, .slice a n c, .slice b m d] 24)).alloc (.cells #[.bool false, .slice none 0 0, .slice none 0 0] 24)) = w1 at *
  refine wpAnyH_take (i := 0) (oi := ?oir1_0) (v := ?vr1_0) ?hir1_0 (by kernel_rfl) (by kernel_rfl) (by kernel_rfl) ?hqr1_0 ?hyr1_0 (by assumption) ?restr1_0
  case hir1_0 => simp only [List.getElem?_toArray, List.getElem?_cons_succ, List.getElem?_cons_zero]; rfl
  case hqr1_0 => exact fun _ _ _ h => h
  case hyr1_0 => (refine Or.inl ⟨by rfl, ?_⟩; intro w hSw; (try dsimp only at hSw); go_simp; all_goals with_reducible rfl)
  try simp only [Act.put, List.setIfInBounds_toArray, List.set_cons_zero, List.set_cons_succ]
  refine wpAnyH_take (i := 1) (oi := ?oir1_1) (v := ?vr1_1) ?hir1_1 (by kernel_rfl) (by kernel_rfl) (by kernel_rfl) ?hqr1_1 ?hyr1_1 (by assumption) ?restr1_1
  case hir1_1 => simp only [List.getElem?_toArray, List.getElem?_cons_succ, List.getElem?_cons_zero]; rfl
  case hqr1_1 => exact fun _ _ _ h => h
  case hyr1_1 => (refine Or.inl ⟨by rfl, ?_⟩; intro w hSw; (try dsimp only at hSw); go_simp; all_goals with_reducible rfl)
  try simp only [Act.put, List.setIfInBounds_toArray, List.set_cons_zero, List.set_cons_succ]
  refine wpAnyH_take (i := 2) (oi := ?oir1_2) (v := ?vr1_2) ?hir1_2 (by kernel_rfl) (by kernel_rfl) (by kernel_rfl) ?hqr1_2 ?hyr1_2 (by assumption) ?restr1_2
  case hir1_2 => simp only [List.getElem?_toArray, List.getElem?_cons_succ, List.getElem?_cons_zero]; rfl
  case hqr1_2 => exact fun _ _ _ h => h
  case hyr1_2 => (refine Or.inl ⟨by rfl, ?_⟩; intro w hSw; (try dsimp only at hSw); go_simp; all_goals with_reducible rfl)
  try simp only [Act.put, List.setIfInBounds_toArray, List.set_cons_zero, List.set_cons_succ]
  refine wpAnyH_take (i := 3) (oi := ?oir1_3) (v := ?vr1_3) ?hir1_3 (by kernel_rfl) (by kernel_rfl) (by kernel_rfl) ?hqr1_3 ?hyr1_3 (by assumption) ?restr1_3
  case hir1_3 => simp only [List.getElem?_toArray, List.getElem?_cons_succ, List.getElem?_cons_zero]; rfl
  case hqr1_3 => exact fun _ _ _ h => h
  case hyr1_3 => (refine Or.inl ⟨by rfl, ?_⟩; intro w hSw; (try dsimp only at hSw); go_simp; all_goals with_reducible rfl)
  try simp only [Act.put, List.setIfInBounds_toArray, List.set_cons_zero, List.set_cons_succ]
  refine wpAnyH_take (i := 5) (oi := ?oir1_5) (v := ?vr1_5) ?hir1_5 (by kernel_rfl) (by kernel_rfl) (by kernel_rfl) ?hqr1_5 ?hyr1_5 (by assumption) ?restr1_5
  case hir1_5 => simp only [List.getElem?_toArray, List.getElem?_cons_succ, List.getElem?_cons_zero]; rfl
  case hqr1_5 => exact fun _ _ _ h => h
  case hyr1_5 => (refine Or.inl ⟨by rfl, ?_⟩; intro w hSw; (try dsimp only at hSw); go_simp; all_goals with_reducible rfl)
  try simp only [Act.put, List.setIfInBounds_toArray, List.set_cons_zero, List.set_cons_succ]
  refine wpAnyH_take (i := 6) (oi := ?oir1_6) (v := ?vr1_6) ?hir1_6 (by kernel_rfl) (by kernel_rfl) (by kernel_rfl) ?hqr1_6 ?hyr1_6 (by assumption) ?restr1_6
  case hir1_6 => simp only [List.getElem?_toArray, List.getElem?_cons_succ, List.getElem?_cons_zero]; rfl
  case hqr1_6 => exact fun _ _ _ h => h
  case hyr1_6 => (refine Or.inl ⟨by rfl, ?_⟩; intro w hSw; (try dsimp only at hSw); go_simp; all_goals with_reducible rfl)
  try simp only [Act.put, List.setIfInBounds_toArray, List.set_cons_zero, List.set_cons_succ]
  refine wpAnyH_ready (rs := [4]) (by kernel_rfl) (by simp) ?_
  refine AllReadyH.cons (o := ?or2_4) ?hor2_4 (fun K hK => ?kr2_4) AllReadyH.nil
  case hor2_4 => simp only [List.getElem?_toArray, List.getElem?_cons_succ, List.getElem?_cons_zero]; rfl
  go_simp
  refine (Clone_any w1 (h1.below H1.below) l1).mono ?_
  rintro e1 w2 ⟨ax, nx, cx, rfl, hx, hb⟩
  have R1 := R0.later hb
  have H2 := H1.later hb
  clear hb
  go_wp2_with fail
  clear hHeld
  refine hK.out _ _ ?_ (fun hHeld => ?_)
  · exact ⟨H2.cell 0 _ rfl, H2.cell 1 _ rfl, H2.cell 2 _ rfl, trivial⟩
  clear hK K
  try simp only [Act.put, List.setIfInBounds_toArray, List.set_cons_zero, List.set_cons_succ]
  refine wpAnyH_ready (rs := [7]) (by kernel_rfl) (by simp) ?_
  refine AllReadyH.cons (o := ?or3_7) ?hor3_7 (fun K hK => ?kr3_7) AllReadyH.nil
  case hor3_7 => simp only [List.getElem?_toArray, List.getElem?_cons_succ, List.getElem?_cons_zero]; rfl
  go_simp
  refine (Clone_any w2 (h2.below H2.below) l2).mono ?_
  rintro e1 w3 ⟨ay, ny, cy, rfl, hy, hb⟩
  have R2 := R1.later hb
  have HL := H2.later hb
  have hx := hx.below hb
  clear hb
  go_wp2_with fail
  clear hHeld
  refine hK.out _ _ ?_ (fun hHeld => ?_)
  · exact ⟨HL.cell 0 _ rfl, HL.cell 1 _ rfl, HL.cell 2 _ rfl, trivial⟩
  clear hK K
  try simp only [Act.put, List.setIfInBounds_toArray, List.set_cons_zero, List.set_cons_succ]
  refine wpAnyH_take (i := 8) (oi := ?oir4_8) (v := ?vr4_8) ?hir4_8 (by kernel_rfl) (by kernel_rfl) (by kernel_rfl) ?hqr4_8 ?hyr4_8 (by assumption) ?restr4_8
  case hir4_8 => simp only [List.getElem?_toArray, List.getElem?_cons_succ, List.getElem?_cons_zero]; rfl
  case hqr4_8 => exact fun _ _ _ h => h
  case hyr4_8 => (refine Or.inl ⟨by rfl, ?_⟩; intro w hSw; (try dsimp only at hSw); go_simp; all_goals with_reducible rfl)
  try simp only [Act.put, List.setIfInBounds_toArray, List.set_cons_zero, List.set_cons_succ]
  have row := R2.row
  have HB := Lib.hid (fun cs => H0.below.trans ((below_row R2.below R2.lo cs).mono (by rw [World.size_alloc]; omega)))
  have fin := Lib.hid (fun cs => (⟨rd_rowset hx row (rat_noint _ _ _ _ _ _ _) cs, rd_rowset hy row (rat_noint _ _ _ _ _ _ _) cs⟩ : _ ∧ _))
  clear hx hy
  refine wpAnyH_ready (rs := [9]) (by kernel_rfl) (by simp) ?_
  refine (AllReadyH.cons (o := ?ob5_9) ?hob5_9 (fun K hK => ?kb5_9) AllReadyH.nil)
  case hob5_9 => simp only [List.getElem?_toArray, List.getElem?_cons_succ, List.getElem?_cons_zero]; rfl
  case kb5_9 =>
    rw [if_pos (by rfl)]
    refine op_store_whole 24 _ _ rfl atRat _ _ _ row rfl rfl rfl rfl (rat_one _ _ _ _ _ _ _) ?_
    refine hK.out _ _ ?_ (fun hHeld => ?_)
    · exact ⟨cell_row (HL.cell 0 _ rfl) (by omega), cell_row (HL.cell 1 _ rfl) (by omega), cell_row (HL.cell 2 _ rfl) (by omega), trivial⟩
    clear hK K
    try simp only [Act.put, List.setIfInBounds_toArray, List.set_cons_zero, List.set_cons_succ]
    refine wpAnyH_done (by kernel_rfl) ?_ _
    go_wp2_with fail
    refine bodyPost_ret (results_cell_row rfl _ _ _ _ _ _ _ rfl (setRow_heap _ _ _ _ _ _ row) Tryd.underlying24 rfl (by kernel_rfl)) rfl ?_
    exact ⟨_, _, _, _, _, _, rfl, (fin.out _).1, (fin.out _).2, HB.out _⟩

theorem PRow.putOther {t : TypeId} {w w1 : World} {k j : Nat} {cs : Array Value} (h : PRow t w w1 k cs) (hj : w.heap.size ≤ j) (hne : k ≠ j) (cs' : Array Value) : PRow t w (w1.setRow j cs') k cs :=
  ⟨below_row h.below hj _, by rw [setRow_other _ _ _ _ hne]; exact h.row, h.lo, by rw [setRow_size]; exact h.lt⟩

def turnV (x : QV) : QV := ⟨!x.neg && decide (0 < x.num.length), x.num, x.den⟩
def negC (x : QV) : QV × Int := if chkV x = 0 then (turnV x, 0) else (zeroV, 8)

set_option maxRecDepth 100000 in
set_option maxHeartbeats 2000000 in
theorem turned_any (w : World) {g : Bool} {a b : Option Addr} {n m c d : Nat} {xs ys : List Nat} (h1 : Rd .u32 w a n c xs) (h2 : Rd .u32 w b m d ys) (l1 : n ≤ 1099511627776) (l2 : m ≤ 1099511627776) :
    Calls Tryd.prog 44 #[ratV g a n c b m d] w (RetQ w (turnV ⟨g, xs, ys⟩)) := by
  obtain ⟨r, hr⟩ : ∃ r, r = turnV ⟨g, xs, ys⟩ := ⟨_, rfl⟩
  rw [← hr]
  have PA := (PRow.new 24 w #[.bool g, .slice a n c, .slice b m d]).later (below_al _ (.cells #[.bool false, .slice none 0 0, .slice none 0 0] 24))
  have PB := (PRow.new 24 (w.alloc (.cells #[.bool g, .slice a n c, .slice b m d] 24)) #[.bool false, .slice none 0 0, .slice none 0 0]).rebase PA.below (by rw [World.size_alloc]; omega)
  simp only [World.size_alloc] at PB
  have k0 := PA.cell 0 _ rfl
  have k1 := PA.cell 1 _ rfl
  have k2 := PA.cell 2 _ rfl
  cases g
  case true =>
    go_enter Tryd.func44, Tryd.ntmps44
    go_wp2_with fail
    refine (ratTwin_any _ (h1.below PA.below) (h2.below PA.below) l1 l2).mono ?_
    rintro e1 w1 ⟨ax, nx, cx, ay, ny, cy, rfl, hx, hy, hb⟩
    have PA := PA.later hb
    have PB := PB.later hb
    have L1 : xs.length = nx := hx.len
    have hx := rd_rowset hx PA.row (rat_noint _ _ _ _ _ _ _) #[.bool true, .slice ax nx cx, .slice ay ny cy]
    have hy := rd_rowset hy PA.row (rat_noint _ _ _ _ _ _ _) #[.bool true, .slice ax nx cx, .slice ay ny cy]
    have PB := PB.putOther PA.lo (by omega) #[.bool true, .slice ax nx cx, .slice ay ny cy]
    have PC := PA.put #[.bool true, .slice ax nx cx, .slice ay ny cy]
    have hx := rd_setcell hx (i := 0) PC.row (rat_noint _ _ _ _ _ _ _) (.bool false)
    have hy := rd_setcell hy (i := 0) PC.row (rat_noint _ _ _ _ _ _ _) (.bool false)
    have PB := PB.other (p := ⟨w.heap.size, 0, none⟩) (by show w.heap.size + 1 ≠ w.heap.size; omega) PC.lo (.bool false)
    have PD := PC.set 0 (.bool false)
    have row := PB.row
    have HB := Lib.hid (fun cs => below_row PB.below PB.lo cs)
    have fin := Lib.hid (fun cs => (⟨rd_rowset hx row (rat_noint _ _ _ _ _ _ _) cs, rd_rowset hy row (rat_noint _ _ _ _ _ _ _) cs⟩ : _ ∧ _))
    have rowA := PA.row
    have q0 := PC.cell 0 _ rfl
    have q1 := PC.cell 1 _ rfl
    have q2 := PC.cell 2 _ rfl
    have f0 := PC.free 0
    have p0 := PD.cell 0 _ rfl
    have p1 := PD.cell 1 _ rfl
    have p2 := PD.cell 2 _ rfl
    have hres := Lib.hid (show r = ⟨false, xs, ys⟩ by rw [hr]; rfl)
    clear hb hx hy hr PA PB PC PD k0 k1 k2 L1
    go_wp2_with first | refine wpList_store_whole rfl 24 _ _ rfl atRat _ _ _ rowA rfl rfl rfl rfl (rat_one _ _ _ _ _ _ _) ?_ | refine wpList_store_whole rfl 24 _ _ rfl atRat _ _ _ row rfl rfl rfl rfl (rat_one _ _ _ _ _ _ _) ?_
    refine bodyPost_ret (results_cell_row rfl _ _ _ _ _ _ _ rfl (setRow_heap _ _ _ _ _ _ row) Tryd.underlying24 rfl (by kernel_rfl)) rfl ?_
    refine ⟨ax, nx, cx, ay, ny, cy, by rw [hres.out]; (try rfl), ?_, ?_, HB.out _⟩
    · rw [hres.out]; exact (fin.out _).1
    · rw [hres.out]; exact (fin.out _).2
  case false =>
  obtain ⟨bv, hbv⟩ : ∃ bv, bv = decide (0 < xs.length) := ⟨_, rfl⟩
  go_enter Tryd.func44, Tryd.ntmps44
  go_wp2_with fail
  refine (ratTwin_any _ (h1.below PA.below) (h2.below PA.below) l1 l2).mono ?_
  rintro e1 w1 ⟨ax, nx, cx, ay, ny, cy, rfl, hx, hy, hb⟩
  have PA := PA.later hb
  have PB := PB.later hb
  have L1 : xs.length = nx := hx.len
  have hx := rd_rowset hx PA.row (rat_noint _ _ _ _ _ _ _) #[.bool false, .slice ax nx cx, .slice ay ny cy]
  have hy := rd_rowset hy PA.row (rat_noint _ _ _ _ _ _ _) #[.bool false, .slice ax nx cx, .slice ay ny cy]
  have PB := PB.putOther PA.lo (by omega) #[.bool false, .slice ax nx cx, .slice ay ny cy]
  have PC := PA.put #[.bool false, .slice ax nx cx, .slice ay ny cy]
  have hx := rd_setcell hx (i := 0) PC.row (rat_noint _ _ _ _ _ _ _) (.bool bv)
  have hy := rd_setcell hy (i := 0) PC.row (rat_noint _ _ _ _ _ _ _) (.bool bv)
  have PB := PB.other (p := ⟨w.heap.size, 0, none⟩) (by show w.heap.size + 1 ≠ w.heap.size; omega) PC.lo (.bool bv)
  have PD := PC.set 0 (.bool bv)
  have row := PB.row
  have HB := Lib.hid (fun cs => below_row PB.below PB.lo cs)
  have fin := Lib.hid (fun cs => (⟨rd_rowset hx row (rat_noint _ _ _ _ _ _ _) cs, rd_rowset hy row (rat_noint _ _ _ _ _ _ _) cs⟩ : _ ∧ _))
  have rowA := PA.row
  have q0 := PC.cell 0 _ rfl
  have q1 := PC.cell 1 _ rfl
  have q2 := PC.cell 2 _ rfl
  have f0 := PC.free 0
  have p0 := PD.cell 0 _ rfl
  have p1 := PD.cell 1 _ rfl
  have p2 := PD.cell 2 _ rfl
  have hres := Lib.hid (show r = ⟨bv, xs, ys⟩ by rw [hr, hbv]; rfl)
  have dv : decide ((0 : Int) < (nx : Int)) = bv := by
    rw [hbv, ← L1]
    exact decide_eq_decide.2 ⟨fun h => by omega, fun h => by omega⟩
  have dv2 : decide (0 < nx) = bv := by rw [hbv, ← L1]
  clear hbv
  clear hb hx hy hr PA PB PC PD k0 k1 k2 L1
  go_wp2_with first | refine wpList_store_whole rfl 24 _ _ rfl atRat _ _ _ rowA rfl rfl rfl rfl (rat_one _ _ _ _ _ _ _) ?_ | refine wpList_store_whole rfl 24 _ _ rfl atRat _ _ _ row rfl rfl rfl rfl (rat_one _ _ _ _ _ _ _) ?_
  refine bodyPost_ret (results_cell_row rfl _ _ _ _ _ _ _ rfl (setRow_heap _ _ _ _ _ _ row) Tryd.underlying24 rfl (by kernel_rfl)) rfl ?_
  refine ⟨ax, nx, cx, ay, ny, cy, by rw [hres.out]; (try rfl), ?_, ?_, HB.out _⟩
  · rw [hres.out]; exact (fin.out _).1
  · rw [hres.out]; exact (fin.out _).2

set_option maxRecDepth 100000 in
set_option maxHeartbeats 2000000 in
theorem ratNeg_any (w : World) {g : Bool} {a b : Option Addr} {n m c d : Nat} {xs ys : List Nat} (h1 : Rd .u32 w a n c xs) (h2 : Rd .u32 w b m d ys) :
    Calls Tryd.prog 20 #[ratV g a n c b m d] w (RetQE w (negC ⟨g, xs, ys⟩)) := by
  obtain ⟨r, hr⟩ : ∃ r, r = negC ⟨g, xs, ys⟩ := ⟨_, rfl⟩
  rw [← hr]
  have H0 := Has.new w #[.bool g, .slice a n c, .slice b m d] 24
  have R0 := Row.second w (.cells #[.bool g, .slice a n c, .slice b m d] 24) #[.bool false, .slice none 0 0, .slice none 0 0]
  have H1 := H0.later R0.below
  have k0 := H1.cell 0 _ rfl
  have k1 := H1.cell 1 _ rfl
  have k2 := H1.cell 2 _ rfl
  by_cases hc : chkV ⟨g, xs, ys⟩ = 0
  case neg =>
    have hres := Lib.hid (show r = (zeroV, 8) by rw [hr, negC, if_neg hc])
    have C := Lib.hid ((chkV_two _).resolve_left hc)
    clear hr hc
    go_enter Tryd.func20, Tryd.ntmps20
    go_wp2_with fail
    have cc := ratCheck_any (neg := g) _ (h1.below H1.below) (h2.below H1.below)
    rw [C.out] at cc
    refine cc.mono ?_
    rintro e1 w1 ⟨rfl, hb⟩
    clear cc
    have R1 := R0.later hb
    have row := R1.row
    clear hb k0 k1 k2
    go_wp2_with (refine wpList_store_whole rfl 24 _ _ rfl atRat _ _ _ row rfl rfl rfl rfl (rat_one _ _ _ _ _ _ _) ?_)
    refine bodyPost_ret (results_cell_two rfl _ _ _ _ _ _ _ rfl (setRow_heap _ _ _ _ _ _ row) Tryd.underlying24 rfl (by kernel_rfl) _ rfl) rfl ?_
    refine ⟨none, 0, 0, none, 0, 0, by rw [hres.out]; rfl, ?_, ?_, H0.below.trans ((below_row R1.below R1.lo _).mono (by rw [World.size_alloc]; omega))⟩
    · rw [hres.out]; exact Rd.nil _ _
    · rw [hres.out]; exact Rd.nil _ _
  have parts := chkV_parts (x := ⟨g, xs, ys⟩) h1.bd h2.bd hc
  have n96 : n ≤ 96 := by rw [← h1.len, show xs = limbs (val xs) from parts.1]; exact limbs_len_le parts.2.2.1
  have m96 : m ≤ 96 := by rw [← h2.len, show ys = limbs (val ys) from parts.2.1]; exact limbs_len_le parts.2.2.2.1
  have C := Lib.hid hc
  have hres := Lib.hid (show r = (turnV ⟨g, xs, ys⟩, 0) by rw [hr, negC, if_pos hc])
  clear hr hc parts
  go_enter Tryd.func20, Tryd.ntmps20
  go_wp2_with fail
  have cc := ratCheck_any (neg := g) _ (h1.below H1.below) (h2.below H1.below)
  rw [C.out] at cc
  refine cc.mono ?_
  rintro e1 w1 ⟨rfl, hb⟩
  clear cc
  have R1 := R0.later hb
  have H2 := H1.later hb
  have k0 := H2.cell 0 _ rfl
  have k1 := H2.cell 1 _ rfl
  have k2 := H2.cell 2 _ rfl
  clear hb
  go_wp2_with fail
  refine (turned_any _ (h1.below H2.below) (h2.below H2.below) (by omega) (by omega)).mono ?_
  rintro e1 w2 ⟨ax, nx, cx, ay, ny, cy, rfl, hx, hy, hb⟩
  have R2 := R1.later hb
  have row := R2.row
  have HB := Lib.hid (fun cs => H0.below.trans ((below_row R2.below R2.lo cs).mono (by rw [World.size_alloc]; omega)))
  have fin := Lib.hid (fun cs => (⟨rd_rowset hx row (rat_noint _ _ _ _ _ _ _) cs, rd_rowset hy row (rat_noint _ _ _ _ _ _ _) cs⟩ : _ ∧ _))
  clear hb hx hy
  go_wp2_with (refine wpList_store_whole rfl 24 _ _ rfl atRat _ _ _ row rfl rfl rfl rfl (rat_one _ _ _ _ _ _ _) ?_)
  refine bodyPost_ret (results_cell_two rfl _ _ _ _ _ _ _ rfl (setRow_heap _ _ _ _ _ _ row) Tryd.underlying24 rfl (by kernel_rfl) _ rfl) rfl ?_
  refine ⟨ax, nx, cx, ay, ny, cy, by rw [hres.out]; (try rfl), ?_, ?_, HB.out _⟩
  · rw [hres.out]; exact (fin.out _).1
  · rw [hres.out]; exact (fin.out _).2

end Go.Proofs.YtdaajeklnhbhjaaDoor
/- The gate at the sum and at the difference (program). -/
namespace Go.Proofs.YtdaajeklnhbhjaaDoor
open Go.RowKit Go.Suf
set_option linter.unusedVariables false
set_option linter.unusedSimpArgs false

set_option maxRecDepth 100000 in
set_option maxHeartbeats 1000000 in
theorem does_sum (w : World) (r : QV × Int) {g1 g2 : Bool} {a b a' b' : Option Addr} {n m c d n' m' c' d' : Nat} {xs ys xs' ys' : List Nat}
    (h1 : Rd .u32 w a n c xs) (h2 : Rd .u32 w b m d ys) (h3 : Rd .u32 w a' n' c' xs') (h4 : Rd .u32 w b' m' d' ys')
    (hF : chkV ⟨g1, xs, ys⟩ = 0 → chkV ⟨g2, xs', ys'⟩ = 0 → ∀ w', Below w.heap.size w w' → Calls Tryd.prog 32 #[pairV g1 a n c b m d g2 a' n' c' b' m' d'] w' (RetQE w' r)) :
    Calls Tryd.prog 23 #[pairV g1 a n c b m d g2 a' n' c' b' m' d', .func (.func 32) #[pairV g1 a n c b m d g2 a' n' c' b' m' d'] #[]] w
      (RetQE w (if chkV ⟨g1, xs, ys⟩ = 0 ∧ chkV ⟨g2, xs', ys'⟩ = 0 then r else (zeroV, 8))) := by
  obtain ⟨q, hq⟩ : ∃ q, q = (if chkV ⟨g1, xs, ys⟩ = 0 ∧ chkV ⟨g2, xs', ys'⟩ = 0 then r else (zeroV, 8)) := ⟨_, rfl⟩
  rw [← hq]
  have H0 := Has.new w #[.bool g1, .slice a n c, .slice b m d, .bool g2, .slice a' n' c', .slice b' m' d'] 49
  have R0 := Row.second w (.cells #[.bool g1, .slice a n c, .slice b m d, .bool g2, .slice a' n' c', .slice b' m' d'] 49) #[.bool false, .slice none 0 0, .slice none 0 0]
  have H1 := H0.later R0.below
  have k0 := H1.cell 0 _ rfl
  have k1 := H1.cell 1 _ rfl
  have k2 := H1.cell 2 _ rfl
  have HF := Lib.hid hF
  clear hF
  by_cases c1 : chkV ⟨g1, xs, ys⟩ = 0
  · by_cases c2 : chkV ⟨g2, xs', ys'⟩ = 0
    · have hres := Lib.hid (show q = r by rw [hq, if_pos ⟨c1, c2⟩])
      have C1 := Lib.hid c1
      have C2 := Lib.hid c2
      clear hq c1 c2
      go_enter Tryd.func23, Tryd.ntmps23
      go_wp2_with fail
      have cc := ratCheck_any (neg := g1) _ (h1.below H1.below) (h2.below H1.below)
      rw [C1.out] at cc
      refine cc.mono ?_
      rintro e1 w1 ⟨rfl, hb⟩
      clear cc
      have R1 := R0.later hb
      have H2 := H1.later hb
      have k3 := H2.cell 3 _ rfl
      have k4 := H2.cell 4 _ rfl
      have k5 := H2.cell 5 _ rfl
      clear k0 k1 k2 hb
      go_wp2_with fail
      have cc := ratCheck_any (neg := g2) _ (h3.below H2.below) (h4.below H2.below)
      rw [C2.out] at cc
      refine cc.mono ?_
      rintro e1 w2 ⟨rfl, hb⟩
      clear cc
      have R2 := R1.later hb
      have H3 := H2.later hb
      clear k3 k4 k5 hb
      go_wp2_with fail
      refine (HF.out C1.out C2.out _ H3.below).mono ?_
      rintro e2 w3 ⟨ap, np, cp, aq, nq, cq, rfl, hp, hq, hb⟩
      have R3 := R2.later hb
      have row := R3.row
      have HB := Lib.hid (fun cs => H0.below.trans ((below_row R3.below R3.lo cs).mono (by rw [World.size_alloc]; omega)))
      have fin := Lib.hid (fun cs => (⟨rd_rowset hp row (rat_noint _ _ _ _ _ _ _) cs, rd_rowset hq row (rat_noint _ _ _ _ _ _ _) cs⟩ : _ ∧ _))
      clear hb
      go_wp2_with (refine wpList_store_whole rfl 24 _ _ rfl atRat _ _ _ row rfl rfl rfl rfl (rat_one _ _ _ _ _ _ _) ?_)
      refine bodyPost_ret (results_cell_two rfl _ _ _ _ _ _ _ rfl (setRow_heap _ _ _ _ _ _ row) Tryd.underlying24 rfl (by kernel_rfl) _ rfl) rfl ?_
      rw [hres.out]
      exact ⟨ap, np, cp, aq, nq, cq, rfl, (fin.out _).1, (fin.out _).2, HB.out _⟩
    · have hres := Lib.hid (show q = (zeroV, 8) by rw [hq, if_neg (fun hh => c2 hh.2)])
      have C1 := Lib.hid c1
      have C2 := Lib.hid ((chkV_two _).resolve_left c2)
      clear hq c1 c2
      go_enter Tryd.func23, Tryd.ntmps23
      go_wp2_with fail
      have cc := ratCheck_any (neg := g1) _ (h1.below H1.below) (h2.below H1.below)
      rw [C1.out] at cc
      refine cc.mono ?_
      rintro e1 w1 ⟨rfl, hb⟩
      clear cc
      have R1 := R0.later hb
      have H2 := H1.later hb
      have k3 := H2.cell 3 _ rfl
      have k4 := H2.cell 4 _ rfl
      have k5 := H2.cell 5 _ rfl
      clear k0 k1 k2 hb
      go_wp2_with fail
      have cc := ratCheck_any (neg := g2) _ (h3.below H2.below) (h4.below H2.below)
      rw [C2.out] at cc
      refine cc.mono ?_
      rintro e1 w2 ⟨rfl, hb⟩
      clear cc
      have R2 := R1.later hb
      have row := R2.row
      clear k3 k4 k5 hb
      go_wp2_with (refine wpList_store_whole rfl 24 _ _ rfl atRat _ _ _ row rfl rfl rfl rfl (rat_one _ _ _ _ _ _ _) ?_)
      refine bodyPost_ret (results_cell_two rfl _ _ _ _ _ _ _ rfl (setRow_heap _ _ _ _ _ _ row) Tryd.underlying24 rfl (by kernel_rfl) _ rfl) rfl ?_
      refine ⟨none, 0, 0, none, 0, 0, by rw [hres.out]; rfl, ?_, ?_, H0.below.trans ((below_row R2.below R2.lo _).mono (by rw [World.size_alloc]; omega))⟩
      · rw [hres.out]; exact Rd.nil _ _
      · rw [hres.out]; exact Rd.nil _ _
  · have hres := Lib.hid (show q = (zeroV, 8) by rw [hq, if_neg (fun hh => c1 hh.1)])
    have C1 := Lib.hid ((chkV_two _).resolve_left c1)
    clear hq c1
    go_enter Tryd.func23, Tryd.ntmps23
    go_wp2_with fail
    have cc := ratCheck_any (neg := g1) _ (h1.below H1.below) (h2.below H1.below)
    rw [C1.out] at cc
    refine cc.mono ?_
    rintro e1 w1 ⟨rfl, hb⟩
    clear cc
    have R2 := R0.later hb
    have row := R2.row
    clear k0 k1 k2 hb
    go_wp2_with (refine wpList_store_whole rfl 24 _ _ rfl atRat _ _ _ row rfl rfl rfl rfl (rat_one _ _ _ _ _ _ _) ?_)
    refine bodyPost_ret (results_cell_two rfl _ _ _ _ _ _ _ rfl (setRow_heap _ _ _ _ _ _ row) Tryd.underlying24 rfl (by kernel_rfl) _ rfl) rfl ?_
    refine ⟨none, 0, 0, none, 0, 0, by rw [hres.out]; rfl, ?_, ?_, H0.below.trans ((below_row R2.below R2.lo _).mono (by rw [World.size_alloc]; omega))⟩
    · rw [hres.out]; exact Rd.nil _ _
    · rw [hres.out]; exact Rd.nil _ _
set_option maxRecDepth 100000 in
set_option maxHeartbeats 1000000 in
theorem does_difference (w : World) (r : QV × Int) {g1 g2 : Bool} {a b a' b' : Option Addr} {n m c d n' m' c' d' : Nat} {xs ys xs' ys' : List Nat}
    (h1 : Rd .u32 w a n c xs) (h2 : Rd .u32 w b m d ys) (h3 : Rd .u32 w a' n' c' xs') (h4 : Rd .u32 w b' m' d' ys')
    (hF : chkV ⟨g1, xs, ys⟩ = 0 → chkV ⟨g2, xs', ys'⟩ = 0 → ∀ w', Below w.heap.size w w' → Calls Tryd.prog 33 #[pairV g1 a n c b m d g2 a' n' c' b' m' d'] w' (RetQE w' r)) :
    Calls Tryd.prog 23 #[pairV g1 a n c b m d g2 a' n' c' b' m' d', .func (.func 33) #[pairV g1 a n c b m d g2 a' n' c' b' m' d'] #[]] w
      (RetQE w (if chkV ⟨g1, xs, ys⟩ = 0 ∧ chkV ⟨g2, xs', ys'⟩ = 0 then r else (zeroV, 8))) := by
  obtain ⟨q, hq⟩ : ∃ q, q = (if chkV ⟨g1, xs, ys⟩ = 0 ∧ chkV ⟨g2, xs', ys'⟩ = 0 then r else (zeroV, 8)) := ⟨_, rfl⟩
  rw [← hq]
  have H0 := Has.new w #[.bool g1, .slice a n c, .slice b m d, .bool g2, .slice a' n' c', .slice b' m' d'] 49
  have R0 := Row.second w (.cells #[.bool g1, .slice a n c, .slice b m d, .bool g2, .slice a' n' c', .slice b' m' d'] 49) #[.bool false, .slice none 0 0, .slice none 0 0]
  have H1 := H0.later R0.below
  have k0 := H1.cell 0 _ rfl
  have k1 := H1.cell 1 _ rfl
  have k2 := H1.cell 2 _ rfl
  have HF := Lib.hid hF
  clear hF
  by_cases c1 : chkV ⟨g1, xs, ys⟩ = 0
  · by_cases c2 : chkV ⟨g2, xs', ys'⟩ = 0
    · have hres := Lib.hid (show q = r by rw [hq, if_pos ⟨c1, c2⟩])
      have C1 := Lib.hid c1
      have C2 := Lib.hid c2
      clear hq c1 c2
      go_enter Tryd.func23, Tryd.ntmps23
      go_wp2_with fail
      have cc := ratCheck_any (neg := g1) _ (h1.below H1.below) (h2.below H1.below)
      rw [C1.out] at cc
      refine cc.mono ?_
      rintro e1 w1 ⟨rfl, hb⟩
      clear cc
      have R1 := R0.later hb
      have H2 := H1.later hb
      have k3 := H2.cell 3 _ rfl
      have k4 := H2.cell 4 _ rfl
      have k5 := H2.cell 5 _ rfl
      clear k0 k1 k2 hb
      go_wp2_with fail
      have cc := ratCheck_any (neg := g2) _ (h3.below H2.below) (h4.below H2.below)
      rw [C2.out] at cc
      refine cc.mono ?_
      rintro e1 w2 ⟨rfl, hb⟩
      clear cc
      have R2 := R1.later hb
      have H3 := H2.later hb
      clear k3 k4 k5 hb
      go_wp2_with fail
      refine (HF.out C1.out C2.out _ H3.below).mono ?_
      rintro e2 w3 ⟨ap, np, cp, aq, nq, cq, rfl, hp, hq, hb⟩
      have R3 := R2.later hb
      have row := R3.row
      have HB := Lib.hid (fun cs => H0.below.trans ((below_row R3.below R3.lo cs).mono (by rw [World.size_alloc]; omega)))
      have fin := Lib.hid (fun cs => (⟨rd_rowset hp row (rat_noint _ _ _ _ _ _ _) cs, rd_rowset hq row (rat_noint _ _ _ _ _ _ _) cs⟩ : _ ∧ _))
      clear hb
      go_wp2_with (refine wpList_store_whole rfl 24 _ _ rfl atRat _ _ _ row rfl rfl rfl rfl (rat_one _ _ _ _ _ _ _) ?_)
      refine bodyPost_ret (results_cell_two rfl _ _ _ _ _ _ _ rfl (setRow_heap _ _ _ _ _ _ row) Tryd.underlying24 rfl (by kernel_rfl) _ rfl) rfl ?_
      rw [hres.out]
      exact ⟨ap, np, cp, aq, nq, cq, rfl, (fin.out _).1, (fin.out _).2, HB.out _⟩
    · have hres := Lib.hid (show q = (zeroV, 8) by rw [hq, if_neg (fun hh => c2 hh.2)])
      have C1 := Lib.hid c1
      have C2 := Lib.hid ((chkV_two _).resolve_left c2)
      clear hq c1 c2
      go_enter Tryd.func23, Tryd.ntmps23
      go_wp2_with fail
      have cc := ratCheck_any (neg := g1) _ (h1.below H1.below) (h2.below H1.below)
      rw [C1.out] at cc
      refine cc.mono ?_
      rintro e1 w1 ⟨rfl, hb⟩
      clear cc
      have R1 := R0.later hb
      have H2 := H1.later hb
      have k3 := H2.cell 3 _ rfl
      have k4 := H2.cell 4 _ rfl
      have k5 := H2.cell 5 _ rfl
      clear k0 k1 k2 hb
      go_wp2_with fail
      have cc := ratCheck_any (neg := g2) _ (h3.below H2.below) (h4.below H2.below)
      rw [C2.out] at cc
      refine cc.mono ?_
      rintro e1 w2 ⟨rfl, hb⟩
      clear cc
      have R2 := R1.later hb
      have row := R2.row
      clear k3 k4 k5 hb
      go_wp2_with (refine wpList_store_whole rfl 24 _ _ rfl atRat _ _ _ row rfl rfl rfl rfl (rat_one _ _ _ _ _ _ _) ?_)
      refine bodyPost_ret (results_cell_two rfl _ _ _ _ _ _ _ rfl (setRow_heap _ _ _ _ _ _ row) Tryd.underlying24 rfl (by kernel_rfl) _ rfl) rfl ?_
      refine ⟨none, 0, 0, none, 0, 0, by rw [hres.out]; rfl, ?_, ?_, H0.below.trans ((below_row R2.below R2.lo _).mono (by rw [World.size_alloc]; omega))⟩
      · rw [hres.out]; exact Rd.nil _ _
      · rw [hres.out]; exact Rd.nil _ _
  · have hres := Lib.hid (show q = (zeroV, 8) by rw [hq, if_neg (fun hh => c1 hh.1)])
    have C1 := Lib.hid ((chkV_two _).resolve_left c1)
    clear hq c1
    go_enter Tryd.func23, Tryd.ntmps23
    go_wp2_with fail
    have cc := ratCheck_any (neg := g1) _ (h1.below H1.below) (h2.below H1.below)
    rw [C1.out] at cc
    refine cc.mono ?_
    rintro e1 w1 ⟨rfl, hb⟩
    clear cc
    have R2 := R0.later hb
    have row := R2.row
    clear k0 k1 k2 hb
    go_wp2_with (refine wpList_store_whole rfl 24 _ _ rfl atRat _ _ _ row rfl rfl rfl rfl (rat_one _ _ _ _ _ _ _) ?_)
    refine bodyPost_ret (results_cell_two rfl _ _ _ _ _ _ _ rfl (setRow_heap _ _ _ _ _ _ row) Tryd.underlying24 rfl (by kernel_rfl) _ rfl) rfl ?_
    refine ⟨none, 0, 0, none, 0, 0, by rw [hres.out]; rfl, ?_, ?_, H0.below.trans ((below_row R2.below R2.lo _).mono (by rw [World.size_alloc]; omega))⟩
    · rw [hres.out]; exact Rd.nil _ _
    · rw [hres.out]; exact Rd.nil _ _

end Go.Proofs.YtdaajeklnhbhjaaDoor
