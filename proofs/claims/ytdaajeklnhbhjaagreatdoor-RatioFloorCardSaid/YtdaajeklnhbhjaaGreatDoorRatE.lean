/- The gate at the sum and at the difference (program). -/
import Derived.Test.YtdaajeklnhbhjaaGreatDoorRatD
namespace Go.Proofs.YtdaajeklnhbhjaaGreatDoor
open Go.RowKit Go.Suf
set_option linter.unusedVariables false
set_option linter.unusedSimpArgs false

set_option maxRecDepth 100000 in
set_option maxHeartbeats 1000000 in
theorem does_sum (w : World) (r : QV × Int) {g1 g2 : Bool} {a b a' b' : Option Addr} {n m c d n' m' c' d' : Nat} {xs ys xs' ys' : List Nat}
    (h1 : Rd .u32 w a n c xs) (h2 : Rd .u32 w b m d ys) (h3 : Rd .u32 w a' n' c' xs') (h4 : Rd .u32 w b' m' d' ys')
    (hF : chkV ⟨g1, xs, ys⟩ = 0 → chkV ⟨g2, xs', ys'⟩ = 0 → ∀ w', Below w.heap.size w w' → Calls Tryz.prog 71 #[pairV g1 a n c b m d g2 a' n' c' b' m' d'] w' (RetQE w' r)) :
    Calls Tryz.prog 70 #[pairV g1 a n c b m d g2 a' n' c' b' m' d', .func (.func 71) #[pairV g1 a n c b m d g2 a' n' c' b' m' d'] #[]] w
      (RetQE w (if chkV ⟨g1, xs, ys⟩ = 0 ∧ chkV ⟨g2, xs', ys'⟩ = 0 then r else (zeroV, 8))) := by
  obtain ⟨q, hq⟩ : ∃ q, q = (if chkV ⟨g1, xs, ys⟩ = 0 ∧ chkV ⟨g2, xs', ys'⟩ = 0 then r else (zeroV, 8)) := ⟨_, rfl⟩
  rw [← hq]
  have H0 := Has.new w #[.bool g1, .slice a n c, .slice b m d, .bool g2, .slice a' n' c', .slice b' m' d'] 56
  have R0 := Row.second w (.cells #[.bool g1, .slice a n c, .slice b m d, .bool g2, .slice a' n' c', .slice b' m' d'] 56) #[.bool false, .slice none 0 0, .slice none 0 0]
  have H1 := H0.later R0.below
  have k0 := H1.cell 0 _ rfl
  have k1 := H1.cell 1 _ rfl
  have k2 := H1.cell 2 _ rfl
  have HF := Lib.hid hF
  clear hF
  by_cases c1 : chkV ⟨g1, xs, ys⟩ = 0
  · by_cases c2 : chkV ⟨g2, xs', ys'⟩ = 0
    · have hres := Lib.hid (show q = r by rw [hq, if_pos ⟨c1, c2⟩])
      have C1 := Lib.hid c1
      have C2 := Lib.hid c2
      clear hq c1 c2
      go_enter Tryz.func70, Tryz.ntmps70
      go_wp2_with fail
      have cc := ratCheck_any (neg := g1) _ (h1.below H1.below) (h2.below H1.below)
      rw [C1.out] at cc
      refine cc.mono ?_
      rintro e1 w1 ⟨rfl, hb⟩
      clear cc
      have R1 := R0.later hb
      have H2 := H1.later hb
      have k3 := H2.cell 3 _ rfl
      have k4 := H2.cell 4 _ rfl
      have k5 := H2.cell 5 _ rfl
      clear k0 k1 k2 hb
      go_wp2_with fail
      have cc := ratCheck_any (neg := g2) _ (h3.below H2.below) (h4.below H2.below)
      rw [C2.out] at cc
      refine cc.mono ?_
      rintro e1 w2 ⟨rfl, hb⟩
      clear cc
      have R2 := R1.later hb
      have H3 := H2.later hb
      clear k3 k4 k5 hb
      go_wp2_with fail
      refine (HF.out C1.out C2.out _ H3.below).mono ?_
      rintro e2 w3 ⟨ap, np, cp, aq, nq, cq, rfl, hp, hq, hb⟩
      have R3 := R2.later hb
      have row := R3.row
      have HB := Lib.hid (fun cs => H0.below.trans ((below_row R3.below R3.lo cs).mono (by rw [World.size_alloc]; omega)))
      have fin := Lib.hid (fun cs => (⟨rd_rowset hp row (rat_noint _ _ _ _ _ _ _) cs, rd_rowset hq row (rat_noint _ _ _ _ _ _ _) cs⟩ : _ ∧ _))
      clear hb
      go_wp2_with (refine wpList_store_whole rfl 24 _ _ rfl atRat _ _ _ row rfl rfl rfl rfl (rat_one _ _ _ _ _ _ _) ?_)
      refine bodyPost_ret (results_cell_two rfl _ _ _ _ _ _ _ rfl (setRow_heap _ _ _ _ _ _ row) Tryz.underlying24 rfl (by kernel_rfl) _ rfl) rfl ?_
      rw [hres.out]
      exact ⟨ap, np, cp, aq, nq, cq, rfl, (fin.out _).1, (fin.out _).2, HB.out _⟩
    · have hres := Lib.hid (show q = (zeroV, 8) by rw [hq, if_neg (fun hh => c2 hh.2)])
      have C1 := Lib.hid c1
      have C2 := Lib.hid ((chkV_two _).resolve_left c2)
      clear hq c1 c2
      go_enter Tryz.func70, Tryz.ntmps70
      go_wp2_with fail
      have cc := ratCheck_any (neg := g1) _ (h1.below H1.below) (h2.below H1.below)
      rw [C1.out] at cc
      refine cc.mono ?_
      rintro e1 w1 ⟨rfl, hb⟩
      clear cc
      have R1 := R0.later hb
      have H2 := H1.later hb
      have k3 := H2.cell 3 _ rfl
      have k4 := H2.cell 4 _ rfl
      have k5 := H2.cell 5 _ rfl
      clear k0 k1 k2 hb
      go_wp2_with fail
      have cc := ratCheck_any (neg := g2) _ (h3.below H2.below) (h4.below H2.below)
      rw [C2.out] at cc
      refine cc.mono ?_
      rintro e1 w2 ⟨rfl, hb⟩
      clear cc
      have R2 := R1.later hb
      have row := R2.row
      clear k3 k4 k5 hb
      go_wp2_with (refine wpList_store_whole rfl 24 _ _ rfl atRat _ _ _ row rfl rfl rfl rfl (rat_one _ _ _ _ _ _ _) ?_)
      refine bodyPost_ret (results_cell_two rfl _ _ _ _ _ _ _ rfl (setRow_heap _ _ _ _ _ _ row) Tryz.underlying24 rfl (by kernel_rfl) _ rfl) rfl ?_
      refine ⟨none, 0, 0, none, 0, 0, by rw [hres.out]; rfl, ?_, ?_, H0.below.trans ((below_row R2.below R2.lo _).mono (by rw [World.size_alloc]; omega))⟩
      · rw [hres.out]; exact Rd.nil _ _
      · rw [hres.out]; exact Rd.nil _ _
  · have hres := Lib.hid (show q = (zeroV, 8) by rw [hq, if_neg (fun hh => c1 hh.1)])
    have C1 := Lib.hid ((chkV_two _).resolve_left c1)
    clear hq c1
    go_enter Tryz.func70, Tryz.ntmps70
    go_wp2_with fail
    have cc := ratCheck_any (neg := g1) _ (h1.below H1.below) (h2.below H1.below)
    rw [C1.out] at cc
    refine cc.mono ?_
    rintro e1 w1 ⟨rfl, hb⟩
    clear cc
    have R2 := R0.later hb
    have row := R2.row
    clear k0 k1 k2 hb
    go_wp2_with (refine wpList_store_whole rfl 24 _ _ rfl atRat _ _ _ row rfl rfl rfl rfl (rat_one _ _ _ _ _ _ _) ?_)
    refine bodyPost_ret (results_cell_two rfl _ _ _ _ _ _ _ rfl (setRow_heap _ _ _ _ _ _ row) Tryz.underlying24 rfl (by kernel_rfl) _ rfl) rfl ?_
    refine ⟨none, 0, 0, none, 0, 0, by rw [hres.out]; rfl, ?_, ?_, H0.below.trans ((below_row R2.below R2.lo _).mono (by rw [World.size_alloc]; omega))⟩
    · rw [hres.out]; exact Rd.nil _ _
    · rw [hres.out]; exact Rd.nil _ _
set_option maxRecDepth 100000 in
set_option maxHeartbeats 1000000 in
theorem does_difference (w : World) (r : QV × Int) {g1 g2 : Bool} {a b a' b' : Option Addr} {n m c d n' m' c' d' : Nat} {xs ys xs' ys' : List Nat}
    (h1 : Rd .u32 w a n c xs) (h2 : Rd .u32 w b m d ys) (h3 : Rd .u32 w a' n' c' xs') (h4 : Rd .u32 w b' m' d' ys')
    (hF : chkV ⟨g1, xs, ys⟩ = 0 → chkV ⟨g2, xs', ys'⟩ = 0 → ∀ w', Below w.heap.size w w' → Calls Tryz.prog 73 #[pairV g1 a n c b m d g2 a' n' c' b' m' d'] w' (RetQE w' r)) :
    Calls Tryz.prog 70 #[pairV g1 a n c b m d g2 a' n' c' b' m' d', .func (.func 73) #[pairV g1 a n c b m d g2 a' n' c' b' m' d'] #[]] w
      (RetQE w (if chkV ⟨g1, xs, ys⟩ = 0 ∧ chkV ⟨g2, xs', ys'⟩ = 0 then r else (zeroV, 8))) := by
  obtain ⟨q, hq⟩ : ∃ q, q = (if chkV ⟨g1, xs, ys⟩ = 0 ∧ chkV ⟨g2, xs', ys'⟩ = 0 then r else (zeroV, 8)) := ⟨_, rfl⟩
  rw [← hq]
  have H0 := Has.new w #[.bool g1, .slice a n c, .slice b m d, .bool g2, .slice a' n' c', .slice b' m' d'] 56
  have R0 := Row.second w (.cells #[.bool g1, .slice a n c, .slice b m d, .bool g2, .slice a' n' c', .slice b' m' d'] 56) #[.bool false, .slice none 0 0, .slice none 0 0]
  have H1 := H0.later R0.below
  have k0 := H1.cell 0 _ rfl
  have k1 := H1.cell 1 _ rfl
  have k2 := H1.cell 2 _ rfl
  have HF := Lib.hid hF
  clear hF
  by_cases c1 : chkV ⟨g1, xs, ys⟩ = 0
  · by_cases c2 : chkV ⟨g2, xs', ys'⟩ = 0
    · have hres := Lib.hid (show q = r by rw [hq, if_pos ⟨c1, c2⟩])
      have C1 := Lib.hid c1
      have C2 := Lib.hid c2
      clear hq c1 c2
      go_enter Tryz.func70, Tryz.ntmps70
      go_wp2_with fail
      have cc := ratCheck_any (neg := g1) _ (h1.below H1.below) (h2.below H1.below)
      rw [C1.out] at cc
      refine cc.mono ?_
      rintro e1 w1 ⟨rfl, hb⟩
      clear cc
      have R1 := R0.later hb
      have H2 := H1.later hb
      have k3 := H2.cell 3 _ rfl
      have k4 := H2.cell 4 _ rfl
      have k5 := H2.cell 5 _ rfl
      clear k0 k1 k2 hb
      go_wp2_with fail
      have cc := ratCheck_any (neg := g2) _ (h3.below H2.below) (h4.below H2.below)
      rw [C2.out] at cc
      refine cc.mono ?_
      rintro e1 w2 ⟨rfl, hb⟩
      clear cc
      have R2 := R1.later hb
      have H3 := H2.later hb
      clear k3 k4 k5 hb
      go_wp2_with fail
      refine (HF.out C1.out C2.out _ H3.below).mono ?_
      rintro e2 w3 ⟨ap, np, cp, aq, nq, cq, rfl, hp, hq, hb⟩
      have R3 := R2.later hb
      have row := R3.row
      have HB := Lib.hid (fun cs => H0.below.trans ((below_row R3.below R3.lo cs).mono (by rw [World.size_alloc]; omega)))
      have fin := Lib.hid (fun cs => (⟨rd_rowset hp row (rat_noint _ _ _ _ _ _ _) cs, rd_rowset hq row (rat_noint _ _ _ _ _ _ _) cs⟩ : _ ∧ _))
      clear hb
      go_wp2_with (refine wpList_store_whole rfl 24 _ _ rfl atRat _ _ _ row rfl rfl rfl rfl (rat_one _ _ _ _ _ _ _) ?_)
      refine bodyPost_ret (results_cell_two rfl _ _ _ _ _ _ _ rfl (setRow_heap _ _ _ _ _ _ row) Tryz.underlying24 rfl (by kernel_rfl) _ rfl) rfl ?_
      rw [hres.out]
      exact ⟨ap, np, cp, aq, nq, cq, rfl, (fin.out _).1, (fin.out _).2, HB.out _⟩
    · have hres := Lib.hid (show q = (zeroV, 8) by rw [hq, if_neg (fun hh => c2 hh.2)])
      have C1 := Lib.hid c1
      have C2 := Lib.hid ((chkV_two _).resolve_left c2)
      clear hq c1 c2
      go_enter Tryz.func70, Tryz.ntmps70
      go_wp2_with fail
      have cc := ratCheck_any (neg := g1) _ (h1.below H1.below) (h2.below H1.below)
      rw [C1.out] at cc
      refine cc.mono ?_
      rintro e1 w1 ⟨rfl, hb⟩
      clear cc
      have R1 := R0.later hb
      have H2 := H1.later hb
      have k3 := H2.cell 3 _ rfl
      have k4 := H2.cell 4 _ rfl
      have k5 := H2.cell 5 _ rfl
      clear k0 k1 k2 hb
      go_wp2_with fail
      have cc := ratCheck_any (neg := g2) _ (h3.below H2.below) (h4.below H2.below)
      rw [C2.out] at cc
      refine cc.mono ?_
      rintro e1 w2 ⟨rfl, hb⟩
      clear cc
      have R2 := R1.later hb
      have row := R2.row
      clear k3 k4 k5 hb
      go_wp2_with (refine wpList_store_whole rfl 24 _ _ rfl atRat _ _ _ row rfl rfl rfl rfl (rat_one _ _ _ _ _ _ _) ?_)
      refine bodyPost_ret (results_cell_two rfl _ _ _ _ _ _ _ rfl (setRow_heap _ _ _ _ _ _ row) Tryz.underlying24 rfl (by kernel_rfl) _ rfl) rfl ?_
      refine ⟨none, 0, 0, none, 0, 0, by rw [hres.out]; rfl, ?_, ?_, H0.below.trans ((below_row R2.below R2.lo _).mono (by rw [World.size_alloc]; omega))⟩
      · rw [hres.out]; exact Rd.nil _ _
      · rw [hres.out]; exact Rd.nil _ _
  · have hres := Lib.hid (show q = (zeroV, 8) by rw [hq, if_neg (fun hh => c1 hh.1)])
    have C1 := Lib.hid ((chkV_two _).resolve_left c1)
    clear hq c1
    go_enter Tryz.func70, Tryz.ntmps70
    go_wp2_with fail
    have cc := ratCheck_any (neg := g1) _ (h1.below H1.below) (h2.below H1.below)
    rw [C1.out] at cc
    refine cc.mono ?_
    rintro e1 w1 ⟨rfl, hb⟩
    clear cc
    have R2 := R0.later hb
    have row := R2.row
    clear k0 k1 k2 hb
    go_wp2_with (refine wpList_store_whole rfl 24 _ _ rfl atRat _ _ _ row rfl rfl rfl rfl (rat_one _ _ _ _ _ _ _) ?_)
    refine bodyPost_ret (results_cell_two rfl _ _ _ _ _ _ _ rfl (setRow_heap _ _ _ _ _ _ row) Tryz.underlying24 rfl (by kernel_rfl) _ rfl) rfl ?_
    refine ⟨none, 0, 0, none, 0, 0, by rw [hres.out]; rfl, ?_, ?_, H0.below.trans ((below_row R2.below R2.lo _).mono (by rw [World.size_alloc]; omega))⟩
    · rw [hres.out]; exact Rd.nil _ _
    · rw [hres.out]; exact Rd.nil _ _

end Go.Proofs.YtdaajeklnhbhjaaGreatDoor
