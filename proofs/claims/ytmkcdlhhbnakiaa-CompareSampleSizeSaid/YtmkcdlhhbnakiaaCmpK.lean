/- Risk of comparison audits. -/
import Derived.Test.YtmkcdlhhbnakiaaCmpJ
namespace Go.Proofs.Ytmkcdlhhbnakiaa
open Go.RowKit Go.Suf
set_option linter.unusedVariables false
set_option linter.unusedSimpArgs false

set_option maxRecDepth 100000 in
set_option maxHeartbeats 2000000 in
theorem cmRisk_any (w : World) {p : CV} {a b : Option Addr} {n m c d : Nat} (h1 : Rd .u32 w a n c p.lev) (h2 : Rd .u32 w b m d p.best) (hw : CW p) :
    Calls Try.prog 15 #[cmV p a n c b m d] w (RetQE w (riskCC p)) := by
  obtain ⟨r, hr⟩ : ∃ r, r = riskCC p := ⟨_, rfl⟩
  rw [← hr]
  obtain ⟨R0, R1⟩ := cm_risk_blocks w (cmC p a n c b m d)
  have k0 := R0.cell 0 _ rfl
  have k1 := R0.cell 1 _ rfl
  have k2 := R0.cell 2 _ rfl
  have k3 := R0.cell 3 _ rfl
  have k4 := R0.cell 4 _ rfl
  have k5 := R0.cell 5 _ rfl
  have k6 := R0.cell 6 _ rfl
  have k7 := R0.cell 7 _ rfl
  have k8 := R0.cell 8 _ rfl
  have k9 := R0.cell 9 _ rfl
  by_cases hc : chkC p = 0
  case neg =>
    have e := Lib.hid (show r = (zeroV, 8) by rw [hr]; exact riskCC_bad hc)
    have C := Lib.hid ((chkC_two _).resolve_left hc)
    clear hr hc
    go_enter Try.func15, Try.ntmps15
    go_wp2_with fail
    have cc := cmCheck_any _ (h1.below R0.below) (h2.below R0.below) hw
    rw [C.out] at cc
    refine cc.mono ?_
    rintro e1 w1 ⟨rfl, hb⟩
    have R1 := R1.later hb
    have row1 := R1.row
    have HB := Lib.hid (fun cs => below_row R1.below R1.lo cs)
    clear cc hb
    go_wp2_with (refine wpList_store_whole rfl 34 _ _ rfl atRat _ _ _ row1 rfl rfl rfl rfl (rat_one false none 0 0 none 0 0) ?_)
    refine bodyPost_ret (results_cell_two rfl _ _ _ _ _ _ _ rfl (setRow_heap _ _ _ _ _ _ row1) Try.underlying34 rfl (by kernel_rfl) _ rfl) rfl ?_
    refine ⟨none, 0, 0, none, 0, 0, by rw [e.out]; rfl, ?_, ?_, HB.out _⟩
    · rw [e.out]; exact Rd.nil _ _
    · rw [e.out]; exact Rd.nil _ _
  case pos =>
  obtain ⟨L0, B0, vld⟩ := chkC_get (fun x hx => h1.bd x hx) (fun x hx => h2.bd x hx) hc
  have e := Lib.hid (show r = (lowV false oneN B0, 0) by rw [hr]; exact riskCC_ok vld)
  have C := Lib.hid hc
  have V := Lib.hid vld
  have h2' : Rd .u32 w b m d (limbs B0) := by rw [← vld.best]; exact h2
  have one0 : 0 < oneN := by decide
  have PB := Lib.hid (show B0 < pw 96 ∧ B0 ≠ 0 from ⟨vld.pw.2, fun h => by rw [h] at vld; exact Nat.not_lt_of_le vld.lo one0⟩)
  clear one0
  clear hr hc vld
  go_enter Try.func15, Try.ntmps15
  go_wp2_with fail
  have cc := cmCheck_any _ (h1.below R0.below) (h2.below R0.below) hw
  rw [C.out] at cc
  refine cc.mono ?_
  rintro e1 w1 ⟨rfl, hb⟩
  clear cc
  have R0 := R0.later hb
  have R1 := R1.later hb
  have x2 := h2'.below R0.below
  clear hb k0 k1 k2 k3 k4 k5 k6 k7 k8 k9
  go_wp2_with fail
  refine wp_region_held_drew (S := (fun w' => w'.cell? ⟨w.heap.size, 9, none⟩ = some (.slice b m d) ∧ True)) (by kernel_rfl) ?_ (fun hHeld => ?_)
  · exact ⟨by simp only [World.cell?_drew]; exact R0.cell 9 _ rfl, trivial⟩
  have hb := (Below.refl w1.heap.size w1).drew
  have R0 := R0.later hb
  have R1 := R1.later hb
  have x2 := x2.below hb
  clear hb
  generalize w1.drew = v0 at *
  refine wpAnyH_take (i := 3) (oi := ?oir1_3) (v := ?vr1_3) ?hir1_3 (by kernel_rfl) (by kernel_rfl) (by kernel_rfl) ?hqr1_3 ?hyr1_3 (by assumption) ?restr1_3
  case hir1_3 => simp only [List.getElem?_toArray, List.getElem?_cons_succ, List.getElem?_cons_zero]; rfl
  case hqr1_3 => exact fun _ _ _ h => h
  case hyr1_3 => (refine Or.inl ⟨by rfl, ?_⟩; intro w hSw; (try dsimp only at hSw); go_simp; all_goals with_reducible rfl)
  try simp only [Act.put, List.setIfInBounds_toArray, List.set_cons_zero, List.set_cons_succ]
  refine wpAnyH_take (i := 4) (oi := ?oir1_4) (v := ?vr1_4) ?hir1_4 (by kernel_rfl) (by kernel_rfl) (by kernel_rfl) ?hqr1_4 ?hyr1_4 (by assumption) ?restr1_4
  case hir1_4 => simp only [List.getElem?_toArray, List.getElem?_cons_succ, List.getElem?_cons_zero]; rfl
  case hqr1_4 => exact fun _ _ _ h => h
  case hyr1_4 => (refine Or.inl ⟨by rfl, ?_⟩; intro w hSw; (try dsimp only at hSw); go_simp; all_goals with_reducible rfl)
  try simp only [Act.put, List.setIfInBounds_toArray, List.set_cons_zero, List.set_cons_succ]
  refine wpAnyH_ready (rs := [0, 1, 5]) (by kernel_rfl) (by simp) ?_
  refine (AllReadyH.cons (o := ?ob46_0) ?hob46_0 (fun K hK => ?kb46_0) (AllReadyH.cons (o := ?ob46_1) ?hob46_1 (fun K hK => ?kb46_1) (AllReadyH.cons (o := ?ob46_5) ?hob46_5 (fun K hK => ?kb46_5) AllReadyH.nil)))
  case hob46_0 => simp only [List.getElem?_toArray, List.getElem?_cons_succ, List.getElem?_cons_zero]; rfl
  case hob46_1 => simp only [List.getElem?_toArray, List.getElem?_cons_succ, List.getElem?_cons_zero]; rfl
  case hob46_5 => simp only [List.getElem?_toArray, List.getElem?_cons_succ, List.getElem?_cons_zero]; rfl
  case kb46_0 =>
    go_simp
    refine (cmOne_any v0).mono ?_
    rintro e2 v1 ⟨a1, n1, c1, rfl, y1, hb⟩
    have R0 := R0.later hb
    have R1 := R1.later hb
    have x2 := x2.below hb
    clear hb
    go_wp2_with fail
    refine hK.out _ _ ?_ (fun hHeld => ?_)
    · exact ⟨R0.cell 9 _ rfl, trivial⟩
    clear hK K
    try simp only [Act.put, List.setIfInBounds_toArray, List.set_cons_zero, List.set_cons_succ]
    refine wpAnyH_ready (rs := [1, 5]) (by kernel_rfl) (by simp) ?_
    refine (AllReadyH.cons (o := ?ob16_1) ?hob16_1 (fun K hK => ?kb16_1) (AllReadyH.cons (o := ?ob16_5) ?hob16_5 (fun K hK => ?kb16_5) AllReadyH.nil))
    case hob16_1 => simp only [List.getElem?_toArray, List.getElem?_cons_succ, List.getElem?_cons_zero]; rfl
    case hob16_5 => simp only [List.getElem?_toArray, List.getElem?_cons_succ, List.getElem?_cons_zero]; rfl
    case kb16_1 =>
      go_simp
      refine hK.out _ _ ?_ (fun hHeld => ?_)
      · exact ⟨(R0.later (below_al v1 _)).cell 9 _ rfl, trivial⟩
      clear hK K
      try simp only [Act.put, List.setIfInBounds_toArray, List.set_cons_zero, List.set_cons_succ]
      have hb := below_al v1 (.cells #[.int .u32 1] 68)
      have l1 := lit_one v1
      have R0 := R0.later hb
      have R1 := R1.later hb
      have x2 := x2.below hb
      have y1 := y1.below hb
      clear hb
      generalize v1.alloc (.cells #[.int .u32 1] 68) = v2 at *
      refine wpAnyH_take (i := 2) (oi := ?oir2_2) (v := ?vr2_2) ?hir2_2 (by kernel_rfl) (by kernel_rfl) (by kernel_rfl) ?hqr2_2 ?hyr2_2 (by assumption) ?restr2_2
      case hir2_2 => simp only [List.getElem?_toArray, List.getElem?_cons_succ, List.getElem?_cons_zero]; rfl
      case hqr2_2 => exact fun _ _ _ h => h
      case hyr2_2 => (refine Or.inl ⟨by rfl, ?_⟩; intro w hSw; (try dsimp only at hSw); go_simp; all_goals with_reducible rfl)
      try simp only [Act.put, List.setIfInBounds_toArray, List.set_cons_zero, List.set_cons_succ]
      refine wpAnyH_ready (rs := [5]) (by kernel_rfl) (by simp) ?_
      refine (AllReadyH.cons (o := ?ob8_5) ?hob8_5 (fun K hK => ?kb8_5) AllReadyH.nil)
      case hob8_5 => simp only [List.getElem?_toArray, List.getElem?_cons_succ, List.getElem?_cons_zero]; rfl
      case kb8_5 =>
        go_simp
        refine hK.out _ _ ?_ (fun hHeld => ?_)
        · exact ⟨(R0.later (below_al v2 _)).cell 9 _ rfl, trivial⟩
        clear hK K
        try simp only [Act.put, List.setIfInBounds_toArray, List.set_cons_zero, List.set_cons_succ]
        have hb := below_al v2 (.cells #[.int .u32 1] 68)
        have l5 := lit_one v2
        have R0 := R0.later hb
        have R1 := R1.later hb
        have x2 := x2.below hb
        have y1 := y1.below hb
        have l1 := l1.below hb
        clear hb
        generalize v2.alloc (.cells #[.int .u32 1] 68) = v3 at *
        refine wpAnyH_take (i := 6) (oi := ?oir3_6) (v := ?vr3_6) ?hir3_6 (by kernel_rfl) (by kernel_rfl) (by kernel_rfl) ?hqr3_6 ?hyr3_6 (by assumption) ?restr3_6
        case hir3_6 => simp only [List.getElem?_toArray, List.getElem?_cons_succ, List.getElem?_cons_zero]; rfl
        case hqr3_6 => exact fun _ _ _ h => h
        case hyr3_6 => (refine Or.inl ⟨by rfl, ?_⟩; intro w hSw; (try dsimp only at hSw); go_simp; all_goals with_reducible rfl)
        try simp only [Act.put, List.setIfInBounds_toArray, List.set_cons_zero, List.set_cons_succ]
        refine wpAnyH_ready (rs := [7]) (by kernel_rfl) (by simp) ?_
        refine (AllReadyH.cons (o := ?ob7_7) ?hob7_7 (fun K hK => ?kb7_7) AllReadyH.nil)
        case hob7_7 => simp only [List.getElem?_toArray, List.getElem?_cons_succ, List.getElem?_cons_zero]; rfl
        case kb7_7 =>
          go_simp
          have y1 := y1
          rw [← one_limbs] at y1
          have cc := ratDiv_any (g1 := false) (g2 := false) v3 y1 l1 x2 l5
          rw [div_nat one_pw PB.out.1 PB.out.2] at cc
          refine cc.mono ?_
          rintro e2 wz ⟨ap, np, cp, aq, nq, cq, rfl, z1, z2, hb⟩
          clear cc
          have R0 := R0.later hb
          have R1 := R1.later hb
          clear hb y1 l1 l5 x2
          go_wp2_with fail
          refine hK.out _ _ ?_ (fun hHeld => ?_)
          · exact ⟨R0.cell 9 _ rfl, trivial⟩
          clear hK K
          try simp only [Act.put, List.setIfInBounds_toArray, List.set_cons_zero, List.set_cons_succ]
          refine wpAnyH_take (i := 8) (oi := ?oir6_8) (v := ?vr6_8) ?hir6_8 (by kernel_rfl) (by kernel_rfl) (by kernel_rfl) ?hqr6_8 ?hyr6_8 (by assumption) ?restr6_8
          case hir6_8 => simp only [List.getElem?_toArray, List.getElem?_cons_succ, List.getElem?_cons_zero]; rfl
          case hqr6_8 => exact fun _ _ _ h => h
          case hyr6_8 => (refine Or.inl ⟨by rfl, ?_⟩; intro w hSw; (try dsimp only at hSw); go_simp; all_goals with_reducible rfl)
          try simp only [Act.put, List.setIfInBounds_toArray, List.set_cons_zero, List.set_cons_succ]
          refine wpAnyH_take (i := 9) (oi := ?oir6_9) (v := ?vr6_9) ?hir6_9 (by kernel_rfl) (by kernel_rfl) (by kernel_rfl) ?hqr6_9 ?hyr6_9 (by assumption) ?restr6_9
          case hir6_9 => simp only [List.getElem?_toArray, List.getElem?_cons_succ, List.getElem?_cons_zero]; rfl
          case hqr6_9 => exact fun _ _ _ h => h
          case hyr6_9 => (refine Or.inl ⟨by rfl, ?_⟩; intro w hSw; (try dsimp only at hSw); go_simp; all_goals with_reducible rfl)
          try simp only [Act.put, List.setIfInBounds_toArray, List.set_cons_zero, List.set_cons_succ]
          refine wpAnyH_ready (rs := [10]) (by kernel_rfl) (by simp) ?_
          refine (AllReadyH.cons (o := ?ob5_10) ?hob5_10 (fun K hK => ?kb5_10) AllReadyH.nil)
          case hob5_10 => simp only [List.getElem?_toArray, List.getElem?_cons_succ, List.getElem?_cons_zero]; rfl
          case kb5_10 =>
            rw [if_pos (by rfl)]
            refine op_store_whole 34 _ _ rfl atRat _ _ _ R1.row rfl rfl rfl rfl (rat_one _ _ _ _ _ _ _) ?_
            refine hK.out _ _ ?_ (fun hHeld => ?_)
            · exact ⟨by simp only [World.cell?, setRow_other _ _ _ _ (show w.heap.size ≠ w.heap.size + 1 by omega)]; exact R0.cell 9 _ rfl, trivial⟩
            clear hK K
            try simp only [Act.put, List.setIfInBounds_toArray, List.set_cons_zero, List.set_cons_succ]
            have HB := Lib.hid (below_row R1.below R1.lo #[.bool (lowV false oneN B0).neg, .slice ap np cp, .slice aq nq cq])
            have rowN := setRow_heap _ _ _ #[.bool (lowV false oneN B0).neg, .slice ap np cp, .slice aq nq cq] _ _ R1.row
            have fin := Lib.hid (fun cs => (⟨rd_rowset z1 R1.row (rat_noint _ _ _ _ _ _ _) cs, rd_rowset z2 R1.row (rat_noint _ _ _ _ _ _ _) cs⟩ : _ ∧ _))
            refine wpAnyH_take (i := 11) (oi := ?oir4_11) (v := ?vr4_11) ?hir4_11 (by kernel_rfl) (by kernel_rfl) (by kernel_rfl) ?hqr4_11 ?hyr4_11 (by assumption) ?restr4_11
            case hir4_11 => simp only [List.getElem?_toArray, List.getElem?_cons_succ, List.getElem?_cons_zero]; rfl
            case hqr4_11 => exact fun _ _ _ h => h
            case hyr4_11 => (refine Or.inl ⟨by rfl, ?_⟩; intro w hSw; (try dsimp only at hSw); go_simp; all_goals with_reducible rfl)
            try simp only [Act.put, List.setIfInBounds_toArray, List.set_cons_zero, List.set_cons_succ]
            refine wpAnyH_done (by kernel_rfl) ?_ _
            go_wp2_with fail
            refine bodyPost_ret (results_cell_two rfl _ _ _ _ _ _ _ rfl rowN Try.underlying34 rfl (by kernel_rfl) _ rfl) rfl ?_
            refine ⟨ap, np, cp, aq, nq, cq, by rw [e.out]; rfl, ?_, ?_, HB.out⟩
            · rw [e.out]; exact (fin.out _).1
            · rw [e.out]; exact (fin.out _).2
    case kb16_5 =>
      go_simp
      refine hK.out _ _ ?_ (fun hHeld => ?_)
      · exact ⟨(R0.later (below_al v1 _)).cell 9 _ rfl, trivial⟩
      clear hK K
      try simp only [Act.put, List.setIfInBounds_toArray, List.set_cons_zero, List.set_cons_succ]
      have hb := below_al v1 (.cells #[.int .u32 1] 68)
      have l5 := lit_one v1
      have R0 := R0.later hb
      have R1 := R1.later hb
      have x2 := x2.below hb
      have y1 := y1.below hb
      clear hb
      generalize v1.alloc (.cells #[.int .u32 1] 68) = v4 at *
      refine wpAnyH_take (i := 6) (oi := ?oir9_6) (v := ?vr9_6) ?hir9_6 (by kernel_rfl) (by kernel_rfl) (by kernel_rfl) ?hqr9_6 ?hyr9_6 (by assumption) ?restr9_6
      case hir9_6 => simp only [List.getElem?_toArray, List.getElem?_cons_succ, List.getElem?_cons_zero]; rfl
      case hqr9_6 => exact fun _ _ _ h => h
      case hyr9_6 => (refine Or.inl ⟨by rfl, ?_⟩; intro w hSw; (try dsimp only at hSw); go_simp; all_goals with_reducible rfl)
      try simp only [Act.put, List.setIfInBounds_toArray, List.set_cons_zero, List.set_cons_succ]
      refine wpAnyH_ready (rs := [1]) (by kernel_rfl) (by simp) ?_
      refine (AllReadyH.cons (o := ?ob15_1) ?hob15_1 (fun K hK => ?kb15_1) AllReadyH.nil)
      case hob15_1 => simp only [List.getElem?_toArray, List.getElem?_cons_succ, List.getElem?_cons_zero]; rfl
      case kb15_1 =>
        go_simp
        refine hK.out _ _ ?_ (fun hHeld => ?_)
        · exact ⟨(R0.later (below_al v4 _)).cell 9 _ rfl, trivial⟩
        clear hK K
        try simp only [Act.put, List.setIfInBounds_toArray, List.set_cons_zero, List.set_cons_succ]
        have hb := below_al v4 (.cells #[.int .u32 1] 68)
        have l1 := lit_one v4
        have R0 := R0.later hb
        have R1 := R1.later hb
        have x2 := x2.below hb
        have y1 := y1.below hb
        have l5 := l5.below hb
        clear hb
        generalize v4.alloc (.cells #[.int .u32 1] 68) = v5 at *
        refine wpAnyH_take (i := 2) (oi := ?oir10_2) (v := ?vr10_2) ?hir10_2 (by kernel_rfl) (by kernel_rfl) (by kernel_rfl) ?hqr10_2 ?hyr10_2 (by assumption) ?restr10_2
        case hir10_2 => simp only [List.getElem?_toArray, List.getElem?_cons_succ, List.getElem?_cons_zero]; rfl
        case hqr10_2 => exact fun _ _ _ h => h
        case hyr10_2 => (refine Or.inl ⟨by rfl, ?_⟩; intro w hSw; (try dsimp only at hSw); go_simp; all_goals with_reducible rfl)
        try simp only [Act.put, List.setIfInBounds_toArray, List.set_cons_zero, List.set_cons_succ]
        refine wpAnyH_ready (rs := [7]) (by kernel_rfl) (by simp) ?_
        refine (AllReadyH.cons (o := ?ob14_7) ?hob14_7 (fun K hK => ?kb14_7) AllReadyH.nil)
        case hob14_7 => simp only [List.getElem?_toArray, List.getElem?_cons_succ, List.getElem?_cons_zero]; rfl
        case kb14_7 =>
          go_simp
          have y1 := y1
          rw [← one_limbs] at y1
          have cc := ratDiv_any (g1 := false) (g2 := false) v5 y1 l1 x2 l5
          rw [div_nat one_pw PB.out.1 PB.out.2] at cc
          refine cc.mono ?_
          rintro e2 wz ⟨ap, np, cp, aq, nq, cq, rfl, z1, z2, hb⟩
          clear cc
          have R0 := R0.later hb
          have R1 := R1.later hb
          clear hb y1 l1 l5 x2
          go_wp2_with fail
          refine hK.out _ _ ?_ (fun hHeld => ?_)
          · exact ⟨R0.cell 9 _ rfl, trivial⟩
          clear hK K
          try simp only [Act.put, List.setIfInBounds_toArray, List.set_cons_zero, List.set_cons_succ]
          refine wpAnyH_take (i := 8) (oi := ?oir13_8) (v := ?vr13_8) ?hir13_8 (by kernel_rfl) (by kernel_rfl) (by kernel_rfl) ?hqr13_8 ?hyr13_8 (by assumption) ?restr13_8
          case hir13_8 => simp only [List.getElem?_toArray, List.getElem?_cons_succ, List.getElem?_cons_zero]; rfl
          case hqr13_8 => exact fun _ _ _ h => h
          case hyr13_8 => (refine Or.inl ⟨by rfl, ?_⟩; intro w hSw; (try dsimp only at hSw); go_simp; all_goals with_reducible rfl)
          try simp only [Act.put, List.setIfInBounds_toArray, List.set_cons_zero, List.set_cons_succ]
          refine wpAnyH_take (i := 9) (oi := ?oir13_9) (v := ?vr13_9) ?hir13_9 (by kernel_rfl) (by kernel_rfl) (by kernel_rfl) ?hqr13_9 ?hyr13_9 (by assumption) ?restr13_9
          case hir13_9 => simp only [List.getElem?_toArray, List.getElem?_cons_succ, List.getElem?_cons_zero]; rfl
          case hqr13_9 => exact fun _ _ _ h => h
          case hyr13_9 => (refine Or.inl ⟨by rfl, ?_⟩; intro w hSw; (try dsimp only at hSw); go_simp; all_goals with_reducible rfl)
          try simp only [Act.put, List.setIfInBounds_toArray, List.set_cons_zero, List.set_cons_succ]
          refine wpAnyH_ready (rs := [10]) (by kernel_rfl) (by simp) ?_
          refine (AllReadyH.cons (o := ?ob12_10) ?hob12_10 (fun K hK => ?kb12_10) AllReadyH.nil)
          case hob12_10 => simp only [List.getElem?_toArray, List.getElem?_cons_succ, List.getElem?_cons_zero]; rfl
          case kb12_10 =>
            rw [if_pos (by rfl)]
            refine op_store_whole 34 _ _ rfl atRat _ _ _ R1.row rfl rfl rfl rfl (rat_one _ _ _ _ _ _ _) ?_
            refine hK.out _ _ ?_ (fun hHeld => ?_)
            · exact ⟨by simp only [World.cell?, setRow_other _ _ _ _ (show w.heap.size ≠ w.heap.size + 1 by omega)]; exact R0.cell 9 _ rfl, trivial⟩
            clear hK K
            try simp only [Act.put, List.setIfInBounds_toArray, List.set_cons_zero, List.set_cons_succ]
            have HB := Lib.hid (below_row R1.below R1.lo #[.bool (lowV false oneN B0).neg, .slice ap np cp, .slice aq nq cq])
            have rowN := setRow_heap _ _ _ #[.bool (lowV false oneN B0).neg, .slice ap np cp, .slice aq nq cq] _ _ R1.row
            have fin := Lib.hid (fun cs => (⟨rd_rowset z1 R1.row (rat_noint _ _ _ _ _ _ _) cs, rd_rowset z2 R1.row (rat_noint _ _ _ _ _ _ _) cs⟩ : _ ∧ _))
            refine wpAnyH_take (i := 11) (oi := ?oir11_11) (v := ?vr11_11) ?hir11_11 (by kernel_rfl) (by kernel_rfl) (by kernel_rfl) ?hqr11_11 ?hyr11_11 (by assumption) ?restr11_11
            case hir11_11 => simp only [List.getElem?_toArray, List.getElem?_cons_succ, List.getElem?_cons_zero]; rfl
            case hqr11_11 => exact fun _ _ _ h => h
            case hyr11_11 => (refine Or.inl ⟨by rfl, ?_⟩; intro w hSw; (try dsimp only at hSw); go_simp; all_goals with_reducible rfl)
            try simp only [Act.put, List.setIfInBounds_toArray, List.set_cons_zero, List.set_cons_succ]
            refine wpAnyH_done (by kernel_rfl) ?_ _
            go_wp2_with fail
            refine bodyPost_ret (results_cell_two rfl _ _ _ _ _ _ _ rfl rowN Try.underlying34 rfl (by kernel_rfl) _ rfl) rfl ?_
            refine ⟨ap, np, cp, aq, nq, cq, by rw [e.out]; rfl, ?_, ?_, HB.out⟩
            · rw [e.out]; exact (fin.out _).1
            · rw [e.out]; exact (fin.out _).2
  case kb46_1 =>
    go_simp
    refine hK.out _ _ ?_ (fun hHeld => ?_)
    · exact ⟨(R0.later (below_al v0 _)).cell 9 _ rfl, trivial⟩
    clear hK K
    try simp only [Act.put, List.setIfInBounds_toArray, List.set_cons_zero, List.set_cons_succ]
    have hb := below_al v0 (.cells #[.int .u32 1] 68)
    have l1 := lit_one v0
    have R0 := R0.later hb
    have R1 := R1.later hb
    have x2 := x2.below hb
    clear hb
    generalize v0.alloc (.cells #[.int .u32 1] 68) = v6 at *
    refine wpAnyH_ready (rs := [0, 5]) (by kernel_rfl) (by simp) ?_
    refine (AllReadyH.cons (o := ?ob31_0) ?hob31_0 (fun K hK => ?kb31_0) (AllReadyH.cons (o := ?ob31_5) ?hob31_5 (fun K hK => ?kb31_5) AllReadyH.nil))
    case hob31_0 => simp only [List.getElem?_toArray, List.getElem?_cons_succ, List.getElem?_cons_zero]; rfl
    case hob31_5 => simp only [List.getElem?_toArray, List.getElem?_cons_succ, List.getElem?_cons_zero]; rfl
    case kb31_0 =>
      go_simp
      refine (cmOne_any v6).mono ?_
      rintro e2 v7 ⟨a1, n1, c1, rfl, y1, hb⟩
      have R0 := R0.later hb
      have R1 := R1.later hb
      have x2 := x2.below hb
      have l1 := l1.below hb
      clear hb
      go_wp2_with fail
      refine hK.out _ _ ?_ (fun hHeld => ?_)
      · exact ⟨R0.cell 9 _ rfl, trivial⟩
      clear hK K
      try simp only [Act.put, List.setIfInBounds_toArray, List.set_cons_zero, List.set_cons_succ]
      refine wpAnyH_take (i := 2) (oi := ?oir17_2) (v := ?vr17_2) ?hir17_2 (by kernel_rfl) (by kernel_rfl) (by kernel_rfl) ?hqr17_2 ?hyr17_2 (by assumption) ?restr17_2
      case hir17_2 => simp only [List.getElem?_toArray, List.getElem?_cons_succ, List.getElem?_cons_zero]; rfl
      case hqr17_2 => exact fun _ _ _ h => h
      case hyr17_2 => (refine Or.inl ⟨by rfl, ?_⟩; intro w hSw; (try dsimp only at hSw); go_simp; all_goals with_reducible rfl)
      try simp only [Act.put, List.setIfInBounds_toArray, List.set_cons_zero, List.set_cons_succ]
      refine wpAnyH_ready (rs := [5]) (by kernel_rfl) (by simp) ?_
      refine (AllReadyH.cons (o := ?ob23_5) ?hob23_5 (fun K hK => ?kb23_5) AllReadyH.nil)
      case hob23_5 => simp only [List.getElem?_toArray, List.getElem?_cons_succ, List.getElem?_cons_zero]; rfl
      case kb23_5 =>
        go_simp
        refine hK.out _ _ ?_ (fun hHeld => ?_)
        · exact ⟨(R0.later (below_al v7 _)).cell 9 _ rfl, trivial⟩
        clear hK K
        try simp only [Act.put, List.setIfInBounds_toArray, List.set_cons_zero, List.set_cons_succ]
        have hb := below_al v7 (.cells #[.int .u32 1] 68)
        have l5 := lit_one v7
        have R0 := R0.later hb
        have R1 := R1.later hb
        have x2 := x2.below hb
        have l1 := l1.below hb
        have y1 := y1.below hb
        clear hb
        generalize v7.alloc (.cells #[.int .u32 1] 68) = v8 at *
        refine wpAnyH_take (i := 6) (oi := ?oir18_6) (v := ?vr18_6) ?hir18_6 (by kernel_rfl) (by kernel_rfl) (by kernel_rfl) ?hqr18_6 ?hyr18_6 (by assumption) ?restr18_6
        case hir18_6 => simp only [List.getElem?_toArray, List.getElem?_cons_succ, List.getElem?_cons_zero]; rfl
        case hqr18_6 => exact fun _ _ _ h => h
        case hyr18_6 => (refine Or.inl ⟨by rfl, ?_⟩; intro w hSw; (try dsimp only at hSw); go_simp; all_goals with_reducible rfl)
        try simp only [Act.put, List.setIfInBounds_toArray, List.set_cons_zero, List.set_cons_succ]
        refine wpAnyH_ready (rs := [7]) (by kernel_rfl) (by simp) ?_
        refine (AllReadyH.cons (o := ?ob22_7) ?hob22_7 (fun K hK => ?kb22_7) AllReadyH.nil)
        case hob22_7 => simp only [List.getElem?_toArray, List.getElem?_cons_succ, List.getElem?_cons_zero]; rfl
        case kb22_7 =>
          go_simp
          have y1 := y1
          rw [← one_limbs] at y1
          have cc := ratDiv_any (g1 := false) (g2 := false) v8 y1 l1 x2 l5
          rw [div_nat one_pw PB.out.1 PB.out.2] at cc
          refine cc.mono ?_
          rintro e2 wz ⟨ap, np, cp, aq, nq, cq, rfl, z1, z2, hb⟩
          clear cc
          have R0 := R0.later hb
          have R1 := R1.later hb
          clear hb y1 l1 l5 x2
          go_wp2_with fail
          refine hK.out _ _ ?_ (fun hHeld => ?_)
          · exact ⟨R0.cell 9 _ rfl, trivial⟩
          clear hK K
          try simp only [Act.put, List.setIfInBounds_toArray, List.set_cons_zero, List.set_cons_succ]
          refine wpAnyH_take (i := 8) (oi := ?oir21_8) (v := ?vr21_8) ?hir21_8 (by kernel_rfl) (by kernel_rfl) (by kernel_rfl) ?hqr21_8 ?hyr21_8 (by assumption) ?restr21_8
          case hir21_8 => simp only [List.getElem?_toArray, List.getElem?_cons_succ, List.getElem?_cons_zero]; rfl
          case hqr21_8 => exact fun _ _ _ h => h
          case hyr21_8 => (refine Or.inl ⟨by rfl, ?_⟩; intro w hSw; (try dsimp only at hSw); go_simp; all_goals with_reducible rfl)
          try simp only [Act.put, List.setIfInBounds_toArray, List.set_cons_zero, List.set_cons_succ]
          refine wpAnyH_take (i := 9) (oi := ?oir21_9) (v := ?vr21_9) ?hir21_9 (by kernel_rfl) (by kernel_rfl) (by kernel_rfl) ?hqr21_9 ?hyr21_9 (by assumption) ?restr21_9
          case hir21_9 => simp only [List.getElem?_toArray, List.getElem?_cons_succ, List.getElem?_cons_zero]; rfl
          case hqr21_9 => exact fun _ _ _ h => h
          case hyr21_9 => (refine Or.inl ⟨by rfl, ?_⟩; intro w hSw; (try dsimp only at hSw); go_simp; all_goals with_reducible rfl)
          try simp only [Act.put, List.setIfInBounds_toArray, List.set_cons_zero, List.set_cons_succ]
          refine wpAnyH_ready (rs := [10]) (by kernel_rfl) (by simp) ?_
          refine (AllReadyH.cons (o := ?ob20_10) ?hob20_10 (fun K hK => ?kb20_10) AllReadyH.nil)
          case hob20_10 => simp only [List.getElem?_toArray, List.getElem?_cons_succ, List.getElem?_cons_zero]; rfl
          case kb20_10 =>
            rw [if_pos (by rfl)]
            refine op_store_whole 34 _ _ rfl atRat _ _ _ R1.row rfl rfl rfl rfl (rat_one _ _ _ _ _ _ _) ?_
            refine hK.out _ _ ?_ (fun hHeld => ?_)
            · exact ⟨by simp only [World.cell?, setRow_other _ _ _ _ (show w.heap.size ≠ w.heap.size + 1 by omega)]; exact R0.cell 9 _ rfl, trivial⟩
            clear hK K
            try simp only [Act.put, List.setIfInBounds_toArray, List.set_cons_zero, List.set_cons_succ]
            have HB := Lib.hid (below_row R1.below R1.lo #[.bool (lowV false oneN B0).neg, .slice ap np cp, .slice aq nq cq])
            have rowN := setRow_heap _ _ _ #[.bool (lowV false oneN B0).neg, .slice ap np cp, .slice aq nq cq] _ _ R1.row
            have fin := Lib.hid (fun cs => (⟨rd_rowset z1 R1.row (rat_noint _ _ _ _ _ _ _) cs, rd_rowset z2 R1.row (rat_noint _ _ _ _ _ _ _) cs⟩ : _ ∧ _))
            refine wpAnyH_take (i := 11) (oi := ?oir19_11) (v := ?vr19_11) ?hir19_11 (by kernel_rfl) (by kernel_rfl) (by kernel_rfl) ?hqr19_11 ?hyr19_11 (by assumption) ?restr19_11
            case hir19_11 => simp only [List.getElem?_toArray, List.getElem?_cons_succ, List.getElem?_cons_zero]; rfl
            case hqr19_11 => exact fun _ _ _ h => h
            case hyr19_11 => (refine Or.inl ⟨by rfl, ?_⟩; intro w hSw; (try dsimp only at hSw); go_simp; all_goals with_reducible rfl)
            try simp only [Act.put, List.setIfInBounds_toArray, List.set_cons_zero, List.set_cons_succ]
            refine wpAnyH_done (by kernel_rfl) ?_ _
            go_wp2_with fail
            refine bodyPost_ret (results_cell_two rfl _ _ _ _ _ _ _ rfl rowN Try.underlying34 rfl (by kernel_rfl) _ rfl) rfl ?_
            refine ⟨ap, np, cp, aq, nq, cq, by rw [e.out]; rfl, ?_, ?_, HB.out⟩
            · rw [e.out]; exact (fin.out _).1
            · rw [e.out]; exact (fin.out _).2
    case kb31_5 =>
      go_simp
      refine hK.out _ _ ?_ (fun hHeld => ?_)
      · exact ⟨(R0.later (below_al v6 _)).cell 9 _ rfl, trivial⟩
      clear hK K
      try simp only [Act.put, List.setIfInBounds_toArray, List.set_cons_zero, List.set_cons_succ]
      have hb := below_al v6 (.cells #[.int .u32 1] 68)
      have l5 := lit_one v6
      have R0 := R0.later hb
      have R1 := R1.later hb
      have x2 := x2.below hb
      have l1 := l1.below hb
      clear hb
      generalize v6.alloc (.cells #[.int .u32 1] 68) = v9 at *
      refine wpAnyH_take (i := 6) (oi := ?oir24_6) (v := ?vr24_6) ?hir24_6 (by kernel_rfl) (by kernel_rfl) (by kernel_rfl) ?hqr24_6 ?hyr24_6 (by assumption) ?restr24_6
      case hir24_6 => simp only [List.getElem?_toArray, List.getElem?_cons_succ, List.getElem?_cons_zero]; rfl
      case hqr24_6 => exact fun _ _ _ h => h
      case hyr24_6 => (refine Or.inl ⟨by rfl, ?_⟩; intro w hSw; (try dsimp only at hSw); go_simp; all_goals with_reducible rfl)
      try simp only [Act.put, List.setIfInBounds_toArray, List.set_cons_zero, List.set_cons_succ]
      refine wpAnyH_ready (rs := [0]) (by kernel_rfl) (by simp) ?_
      refine (AllReadyH.cons (o := ?ob30_0) ?hob30_0 (fun K hK => ?kb30_0) AllReadyH.nil)
      case hob30_0 => simp only [List.getElem?_toArray, List.getElem?_cons_succ, List.getElem?_cons_zero]; rfl
      case kb30_0 =>
        go_simp
        refine (cmOne_any v9).mono ?_
        rintro e2 v10 ⟨a1, n1, c1, rfl, y1, hb⟩
        have R0 := R0.later hb
        have R1 := R1.later hb
        have x2 := x2.below hb
        have l1 := l1.below hb
        have l5 := l5.below hb
        clear hb
        go_wp2_with fail
        refine hK.out _ _ ?_ (fun hHeld => ?_)
        · exact ⟨R0.cell 9 _ rfl, trivial⟩
        clear hK K
        try simp only [Act.put, List.setIfInBounds_toArray, List.set_cons_zero, List.set_cons_succ]
        refine wpAnyH_take (i := 2) (oi := ?oir25_2) (v := ?vr25_2) ?hir25_2 (by kernel_rfl) (by kernel_rfl) (by kernel_rfl) ?hqr25_2 ?hyr25_2 (by assumption) ?restr25_2
        case hir25_2 => simp only [List.getElem?_toArray, List.getElem?_cons_succ, List.getElem?_cons_zero]; rfl
        case hqr25_2 => exact fun _ _ _ h => h
        case hyr25_2 => (refine Or.inl ⟨by rfl, ?_⟩; intro w hSw; (try dsimp only at hSw); go_simp; all_goals with_reducible rfl)
        try simp only [Act.put, List.setIfInBounds_toArray, List.set_cons_zero, List.set_cons_succ]
        refine wpAnyH_ready (rs := [7]) (by kernel_rfl) (by simp) ?_
        refine (AllReadyH.cons (o := ?ob29_7) ?hob29_7 (fun K hK => ?kb29_7) AllReadyH.nil)
        case hob29_7 => simp only [List.getElem?_toArray, List.getElem?_cons_succ, List.getElem?_cons_zero]; rfl
        case kb29_7 =>
          go_simp
          have y1 := y1
          rw [← one_limbs] at y1
          have cc := ratDiv_any (g1 := false) (g2 := false) v10 y1 l1 x2 l5
          rw [div_nat one_pw PB.out.1 PB.out.2] at cc
          refine cc.mono ?_
          rintro e2 wz ⟨ap, np, cp, aq, nq, cq, rfl, z1, z2, hb⟩
          clear cc
          have R0 := R0.later hb
          have R1 := R1.later hb
          clear hb y1 l1 l5 x2
          go_wp2_with fail
          refine hK.out _ _ ?_ (fun hHeld => ?_)
          · exact ⟨R0.cell 9 _ rfl, trivial⟩
          clear hK K
          try simp only [Act.put, List.setIfInBounds_toArray, List.set_cons_zero, List.set_cons_succ]
          refine wpAnyH_take (i := 8) (oi := ?oir28_8) (v := ?vr28_8) ?hir28_8 (by kernel_rfl) (by kernel_rfl) (by kernel_rfl) ?hqr28_8 ?hyr28_8 (by assumption) ?restr28_8
          case hir28_8 => simp only [List.getElem?_toArray, List.getElem?_cons_succ, List.getElem?_cons_zero]; rfl
          case hqr28_8 => exact fun _ _ _ h => h
          case hyr28_8 => (refine Or.inl ⟨by rfl, ?_⟩; intro w hSw; (try dsimp only at hSw); go_simp; all_goals with_reducible rfl)
          try simp only [Act.put, List.setIfInBounds_toArray, List.set_cons_zero, List.set_cons_succ]
          refine wpAnyH_take (i := 9) (oi := ?oir28_9) (v := ?vr28_9) ?hir28_9 (by kernel_rfl) (by kernel_rfl) (by kernel_rfl) ?hqr28_9 ?hyr28_9 (by assumption) ?restr28_9
          case hir28_9 => simp only [List.getElem?_toArray, List.getElem?_cons_succ, List.getElem?_cons_zero]; rfl
          case hqr28_9 => exact fun _ _ _ h => h
          case hyr28_9 => (refine Or.inl ⟨by rfl, ?_⟩; intro w hSw; (try dsimp only at hSw); go_simp; all_goals with_reducible rfl)
          try simp only [Act.put, List.setIfInBounds_toArray, List.set_cons_zero, List.set_cons_succ]
          refine wpAnyH_ready (rs := [10]) (by kernel_rfl) (by simp) ?_
          refine (AllReadyH.cons (o := ?ob27_10) ?hob27_10 (fun K hK => ?kb27_10) AllReadyH.nil)
          case hob27_10 => simp only [List.getElem?_toArray, List.getElem?_cons_succ, List.getElem?_cons_zero]; rfl
          case kb27_10 =>
            rw [if_pos (by rfl)]
            refine op_store_whole 34 _ _ rfl atRat _ _ _ R1.row rfl rfl rfl rfl (rat_one _ _ _ _ _ _ _) ?_
            refine hK.out _ _ ?_ (fun hHeld => ?_)
            · exact ⟨by simp only [World.cell?, setRow_other _ _ _ _ (show w.heap.size ≠ w.heap.size + 1 by omega)]; exact R0.cell 9 _ rfl, trivial⟩
            clear hK K
            try simp only [Act.put, List.setIfInBounds_toArray, List.set_cons_zero, List.set_cons_succ]
            have HB := Lib.hid (below_row R1.below R1.lo #[.bool (lowV false oneN B0).neg, .slice ap np cp, .slice aq nq cq])
            have rowN := setRow_heap _ _ _ #[.bool (lowV false oneN B0).neg, .slice ap np cp, .slice aq nq cq] _ _ R1.row
            have fin := Lib.hid (fun cs => (⟨rd_rowset z1 R1.row (rat_noint _ _ _ _ _ _ _) cs, rd_rowset z2 R1.row (rat_noint _ _ _ _ _ _ _) cs⟩ : _ ∧ _))
            refine wpAnyH_take (i := 11) (oi := ?oir26_11) (v := ?vr26_11) ?hir26_11 (by kernel_rfl) (by kernel_rfl) (by kernel_rfl) ?hqr26_11 ?hyr26_11 (by assumption) ?restr26_11
            case hir26_11 => simp only [List.getElem?_toArray, List.getElem?_cons_succ, List.getElem?_cons_zero]; rfl
            case hqr26_11 => exact fun _ _ _ h => h
            case hyr26_11 => (refine Or.inl ⟨by rfl, ?_⟩; intro w hSw; (try dsimp only at hSw); go_simp; all_goals with_reducible rfl)
            try simp only [Act.put, List.setIfInBounds_toArray, List.set_cons_zero, List.set_cons_succ]
            refine wpAnyH_done (by kernel_rfl) ?_ _
            go_wp2_with fail
            refine bodyPost_ret (results_cell_two rfl _ _ _ _ _ _ _ rfl rowN Try.underlying34 rfl (by kernel_rfl) _ rfl) rfl ?_
            refine ⟨ap, np, cp, aq, nq, cq, by rw [e.out]; rfl, ?_, ?_, HB.out⟩
            · rw [e.out]; exact (fin.out _).1
            · rw [e.out]; exact (fin.out _).2
  case kb46_5 =>
    go_simp
    refine hK.out _ _ ?_ (fun hHeld => ?_)
    · exact ⟨(R0.later (below_al v0 _)).cell 9 _ rfl, trivial⟩
    clear hK K
    try simp only [Act.put, List.setIfInBounds_toArray, List.set_cons_zero, List.set_cons_succ]
    have hb := below_al v0 (.cells #[.int .u32 1] 68)
    have l5 := lit_one v0
    have R0 := R0.later hb
    have R1 := R1.later hb
    have x2 := x2.below hb
    clear hb
    generalize v0.alloc (.cells #[.int .u32 1] 68) = v11 at *
    refine wpAnyH_take (i := 6) (oi := ?oir32_6) (v := ?vr32_6) ?hir32_6 (by kernel_rfl) (by kernel_rfl) (by kernel_rfl) ?hqr32_6 ?hyr32_6 (by assumption) ?restr32_6
    case hir32_6 => simp only [List.getElem?_toArray, List.getElem?_cons_succ, List.getElem?_cons_zero]; rfl
    case hqr32_6 => exact fun _ _ _ h => h
    case hyr32_6 => (refine Or.inl ⟨by rfl, ?_⟩; intro w hSw; (try dsimp only at hSw); go_simp; all_goals with_reducible rfl)
    try simp only [Act.put, List.setIfInBounds_toArray, List.set_cons_zero, List.set_cons_succ]
    refine wpAnyH_ready (rs := [0, 1]) (by kernel_rfl) (by simp) ?_
    refine (AllReadyH.cons (o := ?ob45_0) ?hob45_0 (fun K hK => ?kb45_0) (AllReadyH.cons (o := ?ob45_1) ?hob45_1 (fun K hK => ?kb45_1) AllReadyH.nil))
    case hob45_0 => simp only [List.getElem?_toArray, List.getElem?_cons_succ, List.getElem?_cons_zero]; rfl
    case hob45_1 => simp only [List.getElem?_toArray, List.getElem?_cons_succ, List.getElem?_cons_zero]; rfl
    case kb45_0 =>
      go_simp
      refine (cmOne_any v11).mono ?_
      rintro e2 v12 ⟨a1, n1, c1, rfl, y1, hb⟩
      have R0 := R0.later hb
      have R1 := R1.later hb
      have x2 := x2.below hb
      have l5 := l5.below hb
      clear hb
      go_wp2_with fail
      refine hK.out _ _ ?_ (fun hHeld => ?_)
      · exact ⟨R0.cell 9 _ rfl, trivial⟩
      clear hK K
      try simp only [Act.put, List.setIfInBounds_toArray, List.set_cons_zero, List.set_cons_succ]
      refine wpAnyH_ready (rs := [1]) (by kernel_rfl) (by simp) ?_
      refine (AllReadyH.cons (o := ?ob38_1) ?hob38_1 (fun K hK => ?kb38_1) AllReadyH.nil)
      case hob38_1 => simp only [List.getElem?_toArray, List.getElem?_cons_succ, List.getElem?_cons_zero]; rfl
      case kb38_1 =>
        go_simp
        refine hK.out _ _ ?_ (fun hHeld => ?_)
        · exact ⟨(R0.later (below_al v12 _)).cell 9 _ rfl, trivial⟩
        clear hK K
        try simp only [Act.put, List.setIfInBounds_toArray, List.set_cons_zero, List.set_cons_succ]
        have hb := below_al v12 (.cells #[.int .u32 1] 68)
        have l1 := lit_one v12
        have R0 := R0.later hb
        have R1 := R1.later hb
        have x2 := x2.below hb
        have l5 := l5.below hb
        have y1 := y1.below hb
        clear hb
        generalize v12.alloc (.cells #[.int .u32 1] 68) = v13 at *
        refine wpAnyH_take (i := 2) (oi := ?oir33_2) (v := ?vr33_2) ?hir33_2 (by kernel_rfl) (by kernel_rfl) (by kernel_rfl) ?hqr33_2 ?hyr33_2 (by assumption) ?restr33_2
        case hir33_2 => simp only [List.getElem?_toArray, List.getElem?_cons_succ, List.getElem?_cons_zero]; rfl
        case hqr33_2 => exact fun _ _ _ h => h
        case hyr33_2 => (refine Or.inl ⟨by rfl, ?_⟩; intro w hSw; (try dsimp only at hSw); go_simp; all_goals with_reducible rfl)
        try simp only [Act.put, List.setIfInBounds_toArray, List.set_cons_zero, List.set_cons_succ]
        refine wpAnyH_ready (rs := [7]) (by kernel_rfl) (by simp) ?_
        refine (AllReadyH.cons (o := ?ob37_7) ?hob37_7 (fun K hK => ?kb37_7) AllReadyH.nil)
        case hob37_7 => simp only [List.getElem?_toArray, List.getElem?_cons_succ, List.getElem?_cons_zero]; rfl
        case kb37_7 =>
          go_simp
          have y1 := y1
          rw [← one_limbs] at y1
          have cc := ratDiv_any (g1 := false) (g2 := false) v13 y1 l1 x2 l5
          rw [div_nat one_pw PB.out.1 PB.out.2] at cc
          refine cc.mono ?_
          rintro e2 wz ⟨ap, np, cp, aq, nq, cq, rfl, z1, z2, hb⟩
          clear cc
          have R0 := R0.later hb
          have R1 := R1.later hb
          clear hb y1 l1 l5 x2
          go_wp2_with fail
          refine hK.out _ _ ?_ (fun hHeld => ?_)
          · exact ⟨R0.cell 9 _ rfl, trivial⟩
          clear hK K
          try simp only [Act.put, List.setIfInBounds_toArray, List.set_cons_zero, List.set_cons_succ]
          refine wpAnyH_take (i := 8) (oi := ?oir36_8) (v := ?vr36_8) ?hir36_8 (by kernel_rfl) (by kernel_rfl) (by kernel_rfl) ?hqr36_8 ?hyr36_8 (by assumption) ?restr36_8
          case hir36_8 => simp only [List.getElem?_toArray, List.getElem?_cons_succ, List.getElem?_cons_zero]; rfl
          case hqr36_8 => exact fun _ _ _ h => h
          case hyr36_8 => (refine Or.inl ⟨by rfl, ?_⟩; intro w hSw; (try dsimp only at hSw); go_simp; all_goals with_reducible rfl)
          try simp only [Act.put, List.setIfInBounds_toArray, List.set_cons_zero, List.set_cons_succ]
          refine wpAnyH_take (i := 9) (oi := ?oir36_9) (v := ?vr36_9) ?hir36_9 (by kernel_rfl) (by kernel_rfl) (by kernel_rfl) ?hqr36_9 ?hyr36_9 (by assumption) ?restr36_9
          case hir36_9 => simp only [List.getElem?_toArray, List.getElem?_cons_succ, List.getElem?_cons_zero]; rfl
          case hqr36_9 => exact fun _ _ _ h => h
          case hyr36_9 => (refine Or.inl ⟨by rfl, ?_⟩; intro w hSw; (try dsimp only at hSw); go_simp; all_goals with_reducible rfl)
          try simp only [Act.put, List.setIfInBounds_toArray, List.set_cons_zero, List.set_cons_succ]
          refine wpAnyH_ready (rs := [10]) (by kernel_rfl) (by simp) ?_
          refine (AllReadyH.cons (o := ?ob35_10) ?hob35_10 (fun K hK => ?kb35_10) AllReadyH.nil)
          case hob35_10 => simp only [List.getElem?_toArray, List.getElem?_cons_succ, List.getElem?_cons_zero]; rfl
          case kb35_10 =>
            rw [if_pos (by rfl)]
            refine op_store_whole 34 _ _ rfl atRat _ _ _ R1.row rfl rfl rfl rfl (rat_one _ _ _ _ _ _ _) ?_
            refine hK.out _ _ ?_ (fun hHeld => ?_)
            · exact ⟨by simp only [World.cell?, setRow_other _ _ _ _ (show w.heap.size ≠ w.heap.size + 1 by omega)]; exact R0.cell 9 _ rfl, trivial⟩
            clear hK K
            try simp only [Act.put, List.setIfInBounds_toArray, List.set_cons_zero, List.set_cons_succ]
            have HB := Lib.hid (below_row R1.below R1.lo #[.bool (lowV false oneN B0).neg, .slice ap np cp, .slice aq nq cq])
            have rowN := setRow_heap _ _ _ #[.bool (lowV false oneN B0).neg, .slice ap np cp, .slice aq nq cq] _ _ R1.row
            have fin := Lib.hid (fun cs => (⟨rd_rowset z1 R1.row (rat_noint _ _ _ _ _ _ _) cs, rd_rowset z2 R1.row (rat_noint _ _ _ _ _ _ _) cs⟩ : _ ∧ _))
            refine wpAnyH_take (i := 11) (oi := ?oir34_11) (v := ?vr34_11) ?hir34_11 (by kernel_rfl) (by kernel_rfl) (by kernel_rfl) ?hqr34_11 ?hyr34_11 (by assumption) ?restr34_11
            case hir34_11 => simp only [List.getElem?_toArray, List.getElem?_cons_succ, List.getElem?_cons_zero]; rfl
            case hqr34_11 => exact fun _ _ _ h => h
            case hyr34_11 => (refine Or.inl ⟨by rfl, ?_⟩; intro w hSw; (try dsimp only at hSw); go_simp; all_goals with_reducible rfl)
            try simp only [Act.put, List.setIfInBounds_toArray, List.set_cons_zero, List.set_cons_succ]
            refine wpAnyH_done (by kernel_rfl) ?_ _
            go_wp2_with fail
            refine bodyPost_ret (results_cell_two rfl _ _ _ _ _ _ _ rfl rowN Try.underlying34 rfl (by kernel_rfl) _ rfl) rfl ?_
            refine ⟨ap, np, cp, aq, nq, cq, by rw [e.out]; rfl, ?_, ?_, HB.out⟩
            · rw [e.out]; exact (fin.out _).1
            · rw [e.out]; exact (fin.out _).2
    case kb45_1 =>
      go_simp
      refine hK.out _ _ ?_ (fun hHeld => ?_)
      · exact ⟨(R0.later (below_al v11 _)).cell 9 _ rfl, trivial⟩
      clear hK K
      try simp only [Act.put, List.setIfInBounds_toArray, List.set_cons_zero, List.set_cons_succ]
      have hb := below_al v11 (.cells #[.int .u32 1] 68)
      have l1 := lit_one v11
      have R0 := R0.later hb
      have R1 := R1.later hb
      have x2 := x2.below hb
      have l5 := l5.below hb
      clear hb
      generalize v11.alloc (.cells #[.int .u32 1] 68) = v14 at *
      refine wpAnyH_ready (rs := [0]) (by kernel_rfl) (by simp) ?_
      refine (AllReadyH.cons (o := ?ob44_0) ?hob44_0 (fun K hK => ?kb44_0) AllReadyH.nil)
      case hob44_0 => simp only [List.getElem?_toArray, List.getElem?_cons_succ, List.getElem?_cons_zero]; rfl
      case kb44_0 =>
        go_simp
        refine (cmOne_any v14).mono ?_
        rintro e2 v15 ⟨a1, n1, c1, rfl, y1, hb⟩
        have R0 := R0.later hb
        have R1 := R1.later hb
        have x2 := x2.below hb
        have l5 := l5.below hb
        have l1 := l1.below hb
        clear hb
        go_wp2_with fail
        refine hK.out _ _ ?_ (fun hHeld => ?_)
        · exact ⟨R0.cell 9 _ rfl, trivial⟩
        clear hK K
        try simp only [Act.put, List.setIfInBounds_toArray, List.set_cons_zero, List.set_cons_succ]
        refine wpAnyH_take (i := 2) (oi := ?oir39_2) (v := ?vr39_2) ?hir39_2 (by kernel_rfl) (by kernel_rfl) (by kernel_rfl) ?hqr39_2 ?hyr39_2 (by assumption) ?restr39_2
        case hir39_2 => simp only [List.getElem?_toArray, List.getElem?_cons_succ, List.getElem?_cons_zero]; rfl
        case hqr39_2 => exact fun _ _ _ h => h
        case hyr39_2 => (refine Or.inl ⟨by rfl, ?_⟩; intro w hSw; (try dsimp only at hSw); go_simp; all_goals with_reducible rfl)
        try simp only [Act.put, List.setIfInBounds_toArray, List.set_cons_zero, List.set_cons_succ]
        refine wpAnyH_ready (rs := [7]) (by kernel_rfl) (by simp) ?_
        refine (AllReadyH.cons (o := ?ob43_7) ?hob43_7 (fun K hK => ?kb43_7) AllReadyH.nil)
        case hob43_7 => simp only [List.getElem?_toArray, List.getElem?_cons_succ, List.getElem?_cons_zero]; rfl
        case kb43_7 =>
          go_simp
          have y1 := y1
          rw [← one_limbs] at y1
          have cc := ratDiv_any (g1 := false) (g2 := false) v15 y1 l1 x2 l5
          rw [div_nat one_pw PB.out.1 PB.out.2] at cc
          refine cc.mono ?_
          rintro e2 wz ⟨ap, np, cp, aq, nq, cq, rfl, z1, z2, hb⟩
          clear cc
          have R0 := R0.later hb
          have R1 := R1.later hb
          clear hb y1 l1 l5 x2
          go_wp2_with fail
          refine hK.out _ _ ?_ (fun hHeld => ?_)
          · exact ⟨R0.cell 9 _ rfl, trivial⟩
          clear hK K
          try simp only [Act.put, List.setIfInBounds_toArray, List.set_cons_zero, List.set_cons_succ]
          refine wpAnyH_take (i := 8) (oi := ?oir42_8) (v := ?vr42_8) ?hir42_8 (by kernel_rfl) (by kernel_rfl) (by kernel_rfl) ?hqr42_8 ?hyr42_8 (by assumption) ?restr42_8
          case hir42_8 => simp only [List.getElem?_toArray, List.getElem?_cons_succ, List.getElem?_cons_zero]; rfl
          case hqr42_8 => exact fun _ _ _ h => h
          case hyr42_8 => (refine Or.inl ⟨by rfl, ?_⟩; intro w hSw; (try dsimp only at hSw); go_simp; all_goals with_reducible rfl)
          try simp only [Act.put, List.setIfInBounds_toArray, List.set_cons_zero, List.set_cons_succ]
          refine wpAnyH_take (i := 9) (oi := ?oir42_9) (v := ?vr42_9) ?hir42_9 (by kernel_rfl) (by kernel_rfl) (by kernel_rfl) ?hqr42_9 ?hyr42_9 (by assumption) ?restr42_9
          case hir42_9 => simp only [List.getElem?_toArray, List.getElem?_cons_succ, List.getElem?_cons_zero]; rfl
          case hqr42_9 => exact fun _ _ _ h => h
          case hyr42_9 => (refine Or.inl ⟨by rfl, ?_⟩; intro w hSw; (try dsimp only at hSw); go_simp; all_goals with_reducible rfl)
          try simp only [Act.put, List.setIfInBounds_toArray, List.set_cons_zero, List.set_cons_succ]
          refine wpAnyH_ready (rs := [10]) (by kernel_rfl) (by simp) ?_
          refine (AllReadyH.cons (o := ?ob41_10) ?hob41_10 (fun K hK => ?kb41_10) AllReadyH.nil)
          case hob41_10 => simp only [List.getElem?_toArray, List.getElem?_cons_succ, List.getElem?_cons_zero]; rfl
          case kb41_10 =>
            rw [if_pos (by rfl)]
            refine op_store_whole 34 _ _ rfl atRat _ _ _ R1.row rfl rfl rfl rfl (rat_one _ _ _ _ _ _ _) ?_
            refine hK.out _ _ ?_ (fun hHeld => ?_)
            · exact ⟨by simp only [World.cell?, setRow_other _ _ _ _ (show w.heap.size ≠ w.heap.size + 1 by omega)]; exact R0.cell 9 _ rfl, trivial⟩
            clear hK K
            try simp only [Act.put, List.setIfInBounds_toArray, List.set_cons_zero, List.set_cons_succ]
            have HB := Lib.hid (below_row R1.below R1.lo #[.bool (lowV false oneN B0).neg, .slice ap np cp, .slice aq nq cq])
            have rowN := setRow_heap _ _ _ #[.bool (lowV false oneN B0).neg, .slice ap np cp, .slice aq nq cq] _ _ R1.row
            have fin := Lib.hid (fun cs => (⟨rd_rowset z1 R1.row (rat_noint _ _ _ _ _ _ _) cs, rd_rowset z2 R1.row (rat_noint _ _ _ _ _ _ _) cs⟩ : _ ∧ _))
            refine wpAnyH_take (i := 11) (oi := ?oir40_11) (v := ?vr40_11) ?hir40_11 (by kernel_rfl) (by kernel_rfl) (by kernel_rfl) ?hqr40_11 ?hyr40_11 (by assumption) ?restr40_11
            case hir40_11 => simp only [List.getElem?_toArray, List.getElem?_cons_succ, List.getElem?_cons_zero]; rfl
            case hqr40_11 => exact fun _ _ _ h => h
            case hyr40_11 => (refine Or.inl ⟨by rfl, ?_⟩; intro w hSw; (try dsimp only at hSw); go_simp; all_goals with_reducible rfl)
            try simp only [Act.put, List.setIfInBounds_toArray, List.set_cons_zero, List.set_cons_succ]
            refine wpAnyH_done (by kernel_rfl) ?_ _
            go_wp2_with fail
            refine bodyPost_ret (results_cell_two rfl _ _ _ _ _ _ _ rfl rowN Try.underlying34 rfl (by kernel_rfl) _ rfl) rfl ?_
            refine ⟨ap, np, cp, aq, nq, cq, by rw [e.out]; rfl, ?_, ?_, HB.out⟩
            · rw [e.out]; exact (fin.out _).1
            · rw [e.out]; exact (fin.out _).2

end Go.Proofs.Ytmkcdlhhbnakiaa
