/- Risk of comparison audits. -/
import Derived.Test.YtmkcdlhhbnakiaaCmpJ
namespace Go.Proofs.Ytmkcdlhhbnakiaa
open Go.RowKit Go.Suf
set_option linter.unusedVariables false
set_option linter.unusedSimpArgs false

set_option maxRecDepth 100000 in
set_option maxHeartbeats 2000000 in
theorem cmRisk_any (w : World) {p : CV} {a b : Option Addr} {n m c d : Nat} (h1 : Rd .u32 w a n c p.lev) (h2 : Rd .u32 w b m d p.best) (hw : CW p) :
    Calls Try.prog 15 #[cmV p a n c b m d] w (RetQE w (riskCC p)) := by
  obtain ⟨r, hr⟩ : ∃ r, r = riskCC p := ⟨_, rfl⟩
  rw [← hr]
  obtain ⟨R0, R1⟩ := cm_risk_blocks w (cmC p a n c b m d)
  have k0 := R0.cell 0 _ rfl
  have k1 := R0.cell 1 _ rfl
  have k2 := R0.cell 2 _ rfl
  have k3 := R0.cell 3 _ rfl
  have k4 := R0.cell 4 _ rfl
  have k5 := R0.cell 5 _ rfl
  have k6 := R0.cell 6 _ rfl
  have k7 := R0.cell 7 _ rfl
  have k8 := R0.cell 8 _ rfl
  have k9 := R0.cell 9 _ rfl
  by_cases hc : chkC p = 0
  case neg =>
    have e := Lib.hid (show r = (zeroV, 8) by rw [hr]; exact riskCC_bad hc)
    have C := Lib.hid ((chkC_two _).resolve_left hc)
    clear hr hc
    go_enter Try.func15, Try.ntmps15
    go_wp2_with fail
    have cc := cmCheck_any _ (h1.below R0.below) (h2.below R0.below) hw
    rw [C.out] at cc
    refine cc.mono ?_
    rintro e1 w1 ⟨rfl, hb⟩
    have R1 := R1.later hb
    have row1 := R1.row
    have HB := Lib.hid (fun cs => below_row R1.below R1.lo cs)
    clear cc hb
    go_wp2_with (refine wpList_store_whole rfl 34 _ _ rfl atRat _ _ _ row1 rfl rfl rfl rfl (rat_one false none 0 0 none 0 0) ?_)
    refine bodyPost_ret (results_cell_two rfl _ _ _ _ _ _ _ rfl (setRow_heap _ _ _ _ _ _ row1) Try.underlying34 rfl (by kernel_rfl) _ rfl) rfl ?_
    refine ⟨none, 0, 0, none, 0, 0, by rw [e.out]; rfl, ?_, ?_, HB.out _⟩
    · rw [e.out]; exact Rd.nil _ _
    · rw [e.out]; exact Rd.nil _ _
  case pos =>
  obtain ⟨L0, B0, vld⟩ := chkC_get (fun x hx => h1.bd x hx) (fun x hx => h2.bd x hx) hc
  have e := Lib.hid (show r = (lowV false oneN B0, 0) by rw [hr]; exact riskCC_ok vld)
  have C := Lib.hid hc
  have V := Lib.hid vld
  have h2' : Rd .u32 w b m d (limbs B0) := by rw [← vld.best]; exact h2
  have one0 : 0 < oneN := by decide
  have PB := Lib.hid (show B0 < pw 96 ∧ B0 ≠ 0 from ⟨vld.pw.2, fun h => by rw [h] at vld; exact Nat.not_lt_of_le vld.lo one0⟩)
  clear one0
  clear hr hc vld
  go_enter Try.func15, Try.ntmps15
  go_wp2_with fail
  have cc := cmCheck_any _ (h1.below R0.below) (h2.below R0.below) hw
  rw [C.out] at cc
  refine cc.mono ?_
  rintro e1 w1 ⟨rfl, hb⟩
  clear cc
  have R0 := R0.later hb
  have R1 := R1.later hb
  have x2 := h2'.below R0.below
  clear hb k0 k1 k2 k3 k4 k5 k6 k7 k8 k9
  go_wp2_with fail
  refine wp_region_held_drew (S := (fun w' => w'.cell? ⟨w.heap.size, 9, none⟩ = some (.slice b m d) ∧ True)) (by kernel_rfl) ?_ (fun hHeld => ?_)
  · exact ⟨by simp only [World.cell?_drew]; exact R0.cell 9 _ rfl, trivial⟩
  have hb := (Below.refl w1.heap.size w1).drew
  have R0 := R0.later hb
  have R1 := R1.later hb
  have x2 := x2.below hb
  clear hb
  generalize w1.drew = v0 at *
  refine wpAnyH_take (i := 3) (oi := ?a1_3) (v := ?b1_3) ?c1_3 (by kernel_rfl) (by kernel_rfl) (by kernel_rfl) ?d1_3 ?e1_3 (by assumption) ?f1_3
  case c1_3 => simp only [tA, tS, tZ]; rfl
  case d1_3 => exact fun _ _ _ h => h
  case e1_3 => (refine Or.inl ⟨by rfl, ?_⟩; intro w h; (try dsimp only at h); go_simp; all_goals with_reducible rfl)
  try simp only [Act.put, tI, tP, tQ]
  refine wpAnyH_take (i := 4) (oi := ?a1_4) (v := ?b1_4) ?c1_4 (by kernel_rfl) (by kernel_rfl) (by kernel_rfl) ?d1_4 ?e1_4 (by assumption) ?f1_4
  case c1_4 => simp only [tA, tS, tZ]; rfl
  case d1_4 => exact fun _ _ _ h => h
  case e1_4 => (refine Or.inl ⟨by rfl, ?_⟩; intro w h; (try dsimp only at h); go_simp; all_goals with_reducible rfl)
  try simp only [Act.put, tI, tP, tQ]
  refine wpAnyH_ready (rs := [0, 1, 5]) (by kernel_rfl) (by simp) ?_
  refine (AllReadyH.cons (o := ?ob46_0) ?hob46_0 (fun K hK => ?kb46_0) (AllReadyH.cons (o := ?ob46_1) ?hob46_1 (fun K hK => ?kb46_1) (AllReadyH.cons (o := ?ob46_5) ?hob46_5 (fun K hK => ?kb46_5) AllReadyH.nil)))
  case hob46_0 => simp only [List.getElem?_toArray, List.getElem?_cons_succ, List.getElem?_cons_zero]; rfl
  case hob46_1 => simp only [List.getElem?_toArray, List.getElem?_cons_succ, List.getElem?_cons_zero]; rfl
  case hob46_5 => simp only [List.getElem?_toArray, List.getElem?_cons_succ, List.getElem?_cons_zero]; rfl
  case kb46_0 =>
    go_simp
    refine (cmOne_any v0).mono ?_
    rintro e2 v1 ⟨a1, n1, c1, rfl, y1, hb⟩
    have R0 := R0.later hb
    have R1 := R1.later hb
    have x2 := x2.below hb
    clear hb
    go_wp2_with fail
    refine hK.out _ _ ?_ (fun hHeld => ?_)
    · exact ⟨R0.cell 9 _ rfl, trivial⟩
    clear hK K
    try simp only [Act.put, List.setIfInBounds_toArray, List.set_cons_zero, List.set_cons_succ]
    refine wpAnyH_ready (rs := [1, 5]) (by kernel_rfl) (by simp) ?_
    refine (AllReadyH.cons (o := ?ob16_1) ?hob16_1 (fun K hK => ?kb16_1) (AllReadyH.cons (o := ?ob16_5) ?hob16_5 (fun K hK => ?kb16_5) AllReadyH.nil))
    case hob16_1 => simp only [List.getElem?_toArray, List.getElem?_cons_succ, List.getElem?_cons_zero]; rfl
    case hob16_5 => simp only [List.getElem?_toArray, List.getElem?_cons_succ, List.getElem?_cons_zero]; rfl
    case kb16_1 =>
      go_simp
      refine hK.out _ _ ?_ (fun hHeld => ?_)
      · exact ⟨(R0.later (below_al v1 _)).cell 9 _ rfl, trivial⟩
      clear hK K
      try simp only [Act.put, List.setIfInBounds_toArray, List.set_cons_zero, List.set_cons_succ]
      have hb := below_al v1 (.cells #[.int .u32 1] 68)
      have l1 := lit_one v1
      have R0 := R0.later hb
      have R1 := R1.later hb
      have x2 := x2.below hb
      have y1 := y1.below hb
      clear hb
      generalize v1.alloc (.cells #[.int .u32 1] 68) = v2 at *
      refine wpAnyH_take (i := 2) (oi := ?a2_2) (v := ?b2_2) ?c2_2 (by kernel_rfl) (by kernel_rfl) (by kernel_rfl) ?d2_2 ?e2_2 (by assumption) ?f2_2
      case c2_2 => simp only [tA, tS, tZ]; rfl
      case d2_2 => exact fun _ _ _ h => h
      case e2_2 => (refine Or.inl ⟨by rfl, ?_⟩; intro w h; (try dsimp only at h); go_simp; all_goals with_reducible rfl)
      try simp only [Act.put, tI, tP, tQ]
      refine wpAnyH_ready (rs := [5]) (by kernel_rfl) (by simp) ?_
      refine (AllReadyH.cons (o := ?ob8_5) ?hob8_5 (fun K hK => ?kb8_5) AllReadyH.nil)
      case hob8_5 => simp only [List.getElem?_toArray, List.getElem?_cons_succ, List.getElem?_cons_zero]; rfl
      case kb8_5 =>
        go_simp
        refine hK.out _ _ ?_ (fun hHeld => ?_)
        · exact ⟨(R0.later (below_al v2 _)).cell 9 _ rfl, trivial⟩
        clear hK K
        try simp only [Act.put, List.setIfInBounds_toArray, List.set_cons_zero, List.set_cons_succ]
        have hb := below_al v2 (.cells #[.int .u32 1] 68)
        have l5 := lit_one v2
        have R0 := R0.later hb
        have R1 := R1.later hb
        have x2 := x2.below hb
        have y1 := y1.below hb
        have l1 := l1.below hb
        clear hb
        generalize v2.alloc (.cells #[.int .u32 1] 68) = v3 at *
        refine wpAnyH_take (i := 6) (oi := ?a3_6) (v := ?b3_6) ?c3_6 (by kernel_rfl) (by kernel_rfl) (by kernel_rfl) ?d3_6 ?e3_6 (by assumption) ?f3_6
        case c3_6 => simp only [tA, tS, tZ]; rfl
        case d3_6 => exact fun _ _ _ h => h
        case e3_6 => (refine Or.inl ⟨by rfl, ?_⟩; intro w h; (try dsimp only at h); go_simp; all_goals with_reducible rfl)
        try simp only [Act.put, tI, tP, tQ]
        refine wpAnyH_ready (rs := [7]) (by kernel_rfl) (by simp) ?_
        refine (AllReadyH.cons (o := ?ob7_7) ?hob7_7 (fun K hK => ?kb7_7) AllReadyH.nil)
        case hob7_7 => simp only [List.getElem?_toArray, List.getElem?_cons_succ, List.getElem?_cons_zero]; rfl
        case kb7_7 =>
          go_simp
          have y1 := y1
          rw [← one_limbs] at y1
          have cc := ratDiv_any (g1 := false) (g2 := false) v3 y1 l1 x2 l5
          rw [div_nat one_pw PB.out.1 PB.out.2] at cc
          refine cc.mono ?_
          rintro e2 wz ⟨ap, np, cp, aq, nq, cq, rfl, z1, z2, hb⟩
          clear cc
          have R0 := R0.later hb
          have R1 := R1.later hb
          clear hb y1 l1 l5 x2
          go_wp2_with fail
          refine hK.out _ _ ?_ (fun hHeld => ?_)
          · exact ⟨R0.cell 9 _ rfl, trivial⟩
          clear hK K
          try simp only [Act.put, List.setIfInBounds_toArray, List.set_cons_zero, List.set_cons_succ]
          refine wpAnyH_take (i := 8) (oi := ?a6_8) (v := ?b6_8) ?c6_8 (by kernel_rfl) (by kernel_rfl) (by kernel_rfl) ?d6_8 ?e6_8 (by assumption) ?f6_8
          case c6_8 => simp only [tA, tS, tZ]; rfl
          case d6_8 => exact fun _ _ _ h => h
          case e6_8 => (refine Or.inl ⟨by rfl, ?_⟩; intro w h; (try dsimp only at h); go_simp; all_goals with_reducible rfl)
          try simp only [Act.put, tI, tP, tQ]
          refine wpAnyH_take (i := 9) (oi := ?a6_9) (v := ?b6_9) ?c6_9 (by kernel_rfl) (by kernel_rfl) (by kernel_rfl) ?d6_9 ?e6_9 (by assumption) ?f6_9
          case c6_9 => simp only [tA, tS, tZ]; rfl
          case d6_9 => exact fun _ _ _ h => h
          case e6_9 => (refine Or.inl ⟨by rfl, ?_⟩; intro w h; (try dsimp only at h); go_simp; all_goals with_reducible rfl)
          try simp only [Act.put, tI, tP, tQ]
          refine wpAnyH_ready (rs := [10]) (by kernel_rfl) (by simp) ?_
          refine (AllReadyH.cons (o := ?ob5_10) ?hob5_10 (fun K hK => ?kb5_10) AllReadyH.nil)
          case hob5_10 => simp only [List.getElem?_toArray, List.getElem?_cons_succ, List.getElem?_cons_zero]; rfl
          case kb5_10 =>
            rw [if_pos (by rfl)]
            refine op_store_whole 34 _ _ rfl atRat _ _ _ R1.row rfl rfl rfl rfl (rat_one _ _ _ _ _ _ _) ?_
            refine hK.out _ _ ?_ (fun hHeld => ?_)
            · exact ⟨by simp only [World.cell?, setRow_other _ _ _ _ (show w.heap.size ≠ w.heap.size + 1 by omega)]; exact R0.cell 9 _ rfl, trivial⟩
            clear hK K
            try simp only [Act.put, List.setIfInBounds_toArray, List.set_cons_zero, List.set_cons_succ]
            have HB := Lib.hid (below_row R1.below R1.lo #[.bool (lowV false oneN B0).neg, .slice ap np cp, .slice aq nq cq])
            have rowN := setRow_heap _ _ _ #[.bool (lowV false oneN B0).neg, .slice ap np cp, .slice aq nq cq] _ _ R1.row
            have fin := Lib.hid (fun cs => (⟨rd_rowset z1 R1.row (rat_noint _ _ _ _ _ _ _) cs, rd_rowset z2 R1.row (rat_noint _ _ _ _ _ _ _) cs⟩ : _ ∧ _))
            refine wpAnyH_take (i := 11) (oi := ?a4_11) (v := ?b4_11) ?c4_11 (by kernel_rfl) (by kernel_rfl) (by kernel_rfl) ?d4_11 ?e4_11 (by assumption) ?f4_11
            case c4_11 => simp only [tA, tS, tZ]; rfl
            case d4_11 => exact fun _ _ _ h => h
            case e4_11 => (refine Or.inl ⟨by rfl, ?_⟩; intro w h; (try dsimp only at h); go_simp; all_goals with_reducible rfl)
            try simp only [Act.put, tI, tP, tQ]
            refine wpAnyH_done (by kernel_rfl) ?_ _
            go_wp2_with fail
            refine bodyPost_ret (results_cell_two rfl _ _ _ _ _ _ _ rfl rowN Try.underlying34 rfl (by kernel_rfl) _ rfl) rfl ?_
            refine ⟨ap, np, cp, aq, nq, cq, by rw [e.out]; rfl, ?_, ?_, HB.out⟩
            · rw [e.out]; exact (fin.out _).1
            · rw [e.out]; exact (fin.out _).2
    case kb16_5 =>
      go_simp
      refine hK.out _ _ ?_ (fun hHeld => ?_)
      · exact ⟨(R0.later (below_al v1 _)).cell 9 _ rfl, trivial⟩
      clear hK K
      try simp only [Act.put, List.setIfInBounds_toArray, List.set_cons_zero, List.set_cons_succ]
      have hb := below_al v1 (.cells #[.int .u32 1] 68)
      have l5 := lit_one v1
      have R0 := R0.later hb
      have R1 := R1.later hb
      have x2 := x2.below hb
      have y1 := y1.below hb
      clear hb
      generalize v1.alloc (.cells #[.int .u32 1] 68) = v4 at *
      refine wpAnyH_take (i := 6) (oi := ?a9_6) (v := ?b9_6) ?c9_6 (by kernel_rfl) (by kernel_rfl) (by kernel_rfl) ?d9_6 ?e9_6 (by assumption) ?f9_6
      case c9_6 => simp only [tA, tS, tZ]; rfl
      case d9_6 => exact fun _ _ _ h => h
      case e9_6 => (refine Or.inl ⟨by rfl, ?_⟩; intro w h; (try dsimp only at h); go_simp; all_goals with_reducible rfl)
      try simp only [Act.put, tI, tP, tQ]
      refine wpAnyH_ready (rs := [1]) (by kernel_rfl) (by simp) ?_
      refine (AllReadyH.cons (o := ?ob15_1) ?hob15_1 (fun K hK => ?kb15_1) AllReadyH.nil)
      case hob15_1 => simp only [List.getElem?_toArray, List.getElem?_cons_succ, List.getElem?_cons_zero]; rfl
      case kb15_1 =>
        go_simp
        refine hK.out _ _ ?_ (fun hHeld => ?_)
        · exact ⟨(R0.later (below_al v4 _)).cell 9 _ rfl, trivial⟩
        clear hK K
        try simp only [Act.put, List.setIfInBounds_toArray, List.set_cons_zero, List.set_cons_succ]
        have hb := below_al v4 (.cells #[.int .u32 1] 68)
        have l1 := lit_one v4
        have R0 := R0.later hb
        have R1 := R1.later hb
        have x2 := x2.below hb
        have y1 := y1.below hb
        have l5 := l5.below hb
        clear hb
        generalize v4.alloc (.cells #[.int .u32 1] 68) = v5 at *
        refine wpAnyH_take (i := 2) (oi := ?a10_2) (v := ?b10_2) ?c10_2 (by kernel_rfl) (by kernel_rfl) (by kernel_rfl) ?d10_2 ?e10_2 (by assumption) ?f10_2
        case c10_2 => simp only [tA, tS, tZ]; rfl
        case d10_2 => exact fun _ _ _ h => h
        case e10_2 => (refine Or.inl ⟨by rfl, ?_⟩; intro w h; (try dsimp only at h); go_simp; all_goals with_reducible rfl)
        try simp only [Act.put, tI, tP, tQ]
        refine wpAnyH_ready (rs := [7]) (by kernel_rfl) (by simp) ?_
        refine (AllReadyH.cons (o := ?ob14_7) ?hob14_7 (fun K hK => ?kb14_7) AllReadyH.nil)
        case hob14_7 => simp only [List.getElem?_toArray, List.getElem?_cons_succ, List.getElem?_cons_zero]; rfl
        case kb14_7 =>
          go_simp
          have y1 := y1
          rw [← one_limbs] at y1
          have cc := ratDiv_any (g1 := false) (g2 := false) v5 y1 l1 x2 l5
          rw [div_nat one_pw PB.out.1 PB.out.2] at cc
          refine cc.mono ?_
          rintro e2 wz ⟨ap, np, cp, aq, nq, cq, rfl, z1, z2, hb⟩
          clear cc
          have R0 := R0.later hb
          have R1 := R1.later hb
          clear hb y1 l1 l5 x2
          go_wp2_with fail
          refine hK.out _ _ ?_ (fun hHeld => ?_)
          · exact ⟨R0.cell 9 _ rfl, trivial⟩
          clear hK K
          try simp only [Act.put, List.setIfInBounds_toArray, List.set_cons_zero, List.set_cons_succ]
          refine wpAnyH_take (i := 8) (oi := ?a13_8) (v := ?b13_8) ?c13_8 (by kernel_rfl) (by kernel_rfl) (by kernel_rfl) ?d13_8 ?e13_8 (by assumption) ?f13_8
          case c13_8 => simp only [tA, tS, tZ]; rfl
          case d13_8 => exact fun _ _ _ h => h
          case e13_8 => (refine Or.inl ⟨by rfl, ?_⟩; intro w h; (try dsimp only at h); go_simp; all_goals with_reducible rfl)
          try simp only [Act.put, tI, tP, tQ]
          refine wpAnyH_take (i := 9) (oi := ?a13_9) (v := ?b13_9) ?c13_9 (by kernel_rfl) (by kernel_rfl) (by kernel_rfl) ?d13_9 ?e13_9 (by assumption) ?f13_9
          case c13_9 => simp only [tA, tS, tZ]; rfl
          case d13_9 => exact fun _ _ _ h => h
          case e13_9 => (refine Or.inl ⟨by rfl, ?_⟩; intro w h; (try dsimp only at h); go_simp; all_goals with_reducible rfl)
          try simp only [Act.put, tI, tP, tQ]
          refine wpAnyH_ready (rs := [10]) (by kernel_rfl) (by simp) ?_
          refine (AllReadyH.cons (o := ?ob12_10) ?hob12_10 (fun K hK => ?kb12_10) AllReadyH.nil)
          case hob12_10 => simp only [List.getElem?_toArray, List.getElem?_cons_succ, List.getElem?_cons_zero]; rfl
          case kb12_10 =>
            rw [if_pos (by rfl)]
            refine op_store_whole 34 _ _ rfl atRat _ _ _ R1.row rfl rfl rfl rfl (rat_one _ _ _ _ _ _ _) ?_
            refine hK.out _ _ ?_ (fun hHeld => ?_)
            · exact ⟨by simp only [World.cell?, setRow_other _ _ _ _ (show w.heap.size ≠ w.heap.size + 1 by omega)]; exact R0.cell 9 _ rfl, trivial⟩
            clear hK K
            try simp only [Act.put, List.setIfInBounds_toArray, List.set_cons_zero, List.set_cons_succ]
            have HB := Lib.hid (below_row R1.below R1.lo #[.bool (lowV false oneN B0).neg, .slice ap np cp, .slice aq nq cq])
            have rowN := setRow_heap _ _ _ #[.bool (lowV false oneN B0).neg, .slice ap np cp, .slice aq nq cq] _ _ R1.row
            have fin := Lib.hid (fun cs => (⟨rd_rowset z1 R1.row (rat_noint _ _ _ _ _ _ _) cs, rd_rowset z2 R1.row (rat_noint _ _ _ _ _ _ _) cs⟩ : _ ∧ _))
            refine wpAnyH_take (i := 11) (oi := ?a11_11) (v := ?b11_11) ?c11_11 (by kernel_rfl) (by kernel_rfl) (by kernel_rfl) ?d11_11 ?e11_11 (by assumption) ?f11_11
            case c11_11 => simp only [tA, tS, tZ]; rfl
            case d11_11 => exact fun _ _ _ h => h
            case e11_11 => (refine Or.inl ⟨by rfl, ?_⟩; intro w h; (try dsimp only at h); go_simp; all_goals with_reducible rfl)
            try simp only [Act.put, tI, tP, tQ]
            refine wpAnyH_done (by kernel_rfl) ?_ _
            go_wp2_with fail
            refine bodyPost_ret (results_cell_two rfl _ _ _ _ _ _ _ rfl rowN Try.underlying34 rfl (by kernel_rfl) _ rfl) rfl ?_
            refine ⟨ap, np, cp, aq, nq, cq, by rw [e.out]; rfl, ?_, ?_, HB.out⟩
            · rw [e.out]; exact (fin.out _).1
            · rw [e.out]; exact (fin.out _).2
  case kb46_1 =>
    go_simp
    refine hK.out _ _ ?_ (fun hHeld => ?_)
    · exact ⟨(R0.later (below_al v0 _)).cell 9 _ rfl, trivial⟩
    clear hK K
    try simp only [Act.put, List.setIfInBounds_toArray, List.set_cons_zero, List.set_cons_succ]
    have hb := below_al v0 (.cells #[.int .u32 1] 68)
    have l1 := lit_one v0
    have R0 := R0.later hb
    have R1 := R1.later hb
    have x2 := x2.below hb
    clear hb
    generalize v0.alloc (.cells #[.int .u32 1] 68) = v6 at *
    refine wpAnyH_ready (rs := [0, 5]) (by kernel_rfl) (by simp) ?_
    refine (AllReadyH.cons (o := ?ob31_0) ?hob31_0 (fun K hK => ?kb31_0) (AllReadyH.cons (o := ?ob31_5) ?hob31_5 (fun K hK => ?kb31_5) AllReadyH.nil))
    case hob31_0 => simp only [List.getElem?_toArray, List.getElem?_cons_succ, List.getElem?_cons_zero]; rfl
    case hob31_5 => simp only [List.getElem?_toArray, List.getElem?_cons_succ, List.getElem?_cons_zero]; rfl
    case kb31_0 =>
      go_simp
      refine (cmOne_any v6).mono ?_
      rintro e2 v7 ⟨a1, n1, c1, rfl, y1, hb⟩
      have R0 := R0.later hb
      have R1 := R1.later hb
      have x2 := x2.below hb
      have l1 := l1.below hb
      clear hb
      go_wp2_with fail
      refine hK.out _ _ ?_ (fun hHeld => ?_)
      · exact ⟨R0.cell 9 _ rfl, trivial⟩
      clear hK K
      try simp only [Act.put, List.setIfInBounds_toArray, List.set_cons_zero, List.set_cons_succ]
      refine wpAnyH_take (i := 2) (oi := ?a17_2) (v := ?b17_2) ?c17_2 (by kernel_rfl) (by kernel_rfl) (by kernel_rfl) ?d17_2 ?e17_2 (by assumption) ?f17_2
      case c17_2 => simp only [tA, tS, tZ]; rfl
      case d17_2 => exact fun _ _ _ h => h
      case e17_2 => (refine Or.inl ⟨by rfl, ?_⟩; intro w h; (try dsimp only at h); go_simp; all_goals with_reducible rfl)
      try simp only [Act.put, tI, tP, tQ]
      refine wpAnyH_ready (rs := [5]) (by kernel_rfl) (by simp) ?_
      refine (AllReadyH.cons (o := ?ob23_5) ?hob23_5 (fun K hK => ?kb23_5) AllReadyH.nil)
      case hob23_5 => simp only [List.getElem?_toArray, List.getElem?_cons_succ, List.getElem?_cons_zero]; rfl
      case kb23_5 =>
        go_simp
        refine hK.out _ _ ?_ (fun hHeld => ?_)
        · exact ⟨(R0.later (below_al v7 _)).cell 9 _ rfl, trivial⟩
        clear hK K
        try simp only [Act.put, List.setIfInBounds_toArray, List.set_cons_zero, List.set_cons_succ]
        have hb := below_al v7 (.cells #[.int .u32 1] 68)
        have l5 := lit_one v7
        have R0 := R0.later hb
        have R1 := R1.later hb
        have x2 := x2.below hb
        have l1 := l1.below hb
        have y1 := y1.below hb
        clear hb
        generalize v7.alloc (.cells #[.int .u32 1] 68) = v8 at *
        refine wpAnyH_take (i := 6) (oi := ?a18_6) (v := ?b18_6) ?c18_6 (by kernel_rfl) (by kernel_rfl) (by kernel_rfl) ?d18_6 ?e18_6 (by assumption) ?f18_6
        case c18_6 => simp only [tA, tS, tZ]; rfl
        case d18_6 => exact fun _ _ _ h => h
        case e18_6 => (refine Or.inl ⟨by rfl, ?_⟩; intro w h; (try dsimp only at h); go_simp; all_goals with_reducible rfl)
        try simp only [Act.put, tI, tP, tQ]
        refine wpAnyH_ready (rs := [7]) (by kernel_rfl) (by simp) ?_
        refine (AllReadyH.cons (o := ?ob22_7) ?hob22_7 (fun K hK => ?kb22_7) AllReadyH.nil)
        case hob22_7 => simp only [List.getElem?_toArray, List.getElem?_cons_succ, List.getElem?_cons_zero]; rfl
        case kb22_7 =>
          go_simp
          have y1 := y1
          rw [← one_limbs] at y1
          have cc := ratDiv_any (g1 := false) (g2 := false) v8 y1 l1 x2 l5
          rw [div_nat one_pw PB.out.1 PB.out.2] at cc
          refine cc.mono ?_
          rintro e2 wz ⟨ap, np, cp, aq, nq, cq, rfl, z1, z2, hb⟩
          clear cc
          have R0 := R0.later hb
          have R1 := R1.later hb
          clear hb y1 l1 l5 x2
          go_wp2_with fail
          refine hK.out _ _ ?_ (fun hHeld => ?_)
          · exact ⟨R0.cell 9 _ rfl, trivial⟩
          clear hK K
          try simp only [Act.put, List.setIfInBounds_toArray, List.set_cons_zero, List.set_cons_succ]
          refine wpAnyH_take (i := 8) (oi := ?a21_8) (v := ?b21_8) ?c21_8 (by kernel_rfl) (by kernel_rfl) (by kernel_rfl) ?d21_8 ?e21_8 (by assumption) ?f21_8
          case c21_8 => simp only [tA, tS, tZ]; rfl
          case d21_8 => exact fun _ _ _ h => h
          case e21_8 => (refine Or.inl ⟨by rfl, ?_⟩; intro w h; (try dsimp only at h); go_simp; all_goals with_reducible rfl)
          try simp only [Act.put, tI, tP, tQ]
          refine wpAnyH_take (i := 9) (oi := ?a21_9) (v := ?b21_9) ?c21_9 (by kernel_rfl) (by kernel_rfl) (by kernel_rfl) ?d21_9 ?e21_9 (by assumption) ?f21_9
          case c21_9 => simp only [tA, tS, tZ]; rfl
          case d21_9 => exact fun _ _ _ h => h
          case e21_9 => (refine Or.inl ⟨by rfl, ?_⟩; intro w h; (try dsimp only at h); go_simp; all_goals with_reducible rfl)
          try simp only [Act.put, tI, tP, tQ]
          refine wpAnyH_ready (rs := [10]) (by kernel_rfl) (by simp) ?_
          refine (AllReadyH.cons (o := ?ob20_10) ?hob20_10 (fun K hK => ?kb20_10) AllReadyH.nil)
          case hob20_10 => simp only [List.getElem?_toArray, List.getElem?_cons_succ, List.getElem?_cons_zero]; rfl
          case kb20_10 =>
            rw [if_pos (by rfl)]
            refine op_store_whole 34 _ _ rfl atRat _ _ _ R1.row rfl rfl rfl rfl (rat_one _ _ _ _ _ _ _) ?_
            refine hK.out _ _ ?_ (fun hHeld => ?_)
            · exact ⟨by simp only [World.cell?, setRow_other _ _ _ _ (show w.heap.size ≠ w.heap.size + 1 by omega)]; exact R0.cell 9 _ rfl, trivial⟩
            clear hK K
            try simp only [Act.put, List.setIfInBounds_toArray, List.set_cons_zero, List.set_cons_succ]
            have HB := Lib.hid (below_row R1.below R1.lo #[.bool (lowV false oneN B0).neg, .slice ap np cp, .slice aq nq cq])
            have rowN := setRow_heap _ _ _ #[.bool (lowV false oneN B0).neg, .slice ap np cp, .slice aq nq cq] _ _ R1.row
            have fin := Lib.hid (fun cs => (⟨rd_rowset z1 R1.row (rat_noint _ _ _ _ _ _ _) cs, rd_rowset z2 R1.row (rat_noint _ _ _ _ _ _ _) cs⟩ : _ ∧ _))
            refine wpAnyH_take (i := 11) (oi := ?a19_11) (v := ?b19_11) ?c19_11 (by kernel_rfl) (by kernel_rfl) (by kernel_rfl) ?d19_11 ?e19_11 (by assumption) ?f19_11
            case c19_11 => simp only [tA, tS, tZ]; rfl
            case d19_11 => exact fun _ _ _ h => h
            case e19_11 => (refine Or.inl ⟨by rfl, ?_⟩; intro w h; (try dsimp only at h); go_simp; all_goals with_reducible rfl)
            try simp only [Act.put, tI, tP, tQ]
            refine wpAnyH_done (by kernel_rfl) ?_ _
            go_wp2_with fail
            refine bodyPost_ret (results_cell_two rfl _ _ _ _ _ _ _ rfl rowN Try.underlying34 rfl (by kernel_rfl) _ rfl) rfl ?_
            refine ⟨ap, np, cp, aq, nq, cq, by rw [e.out]; rfl, ?_, ?_, HB.out⟩
            · rw [e.out]; exact (fin.out _).1
            · rw [e.out]; exact (fin.out _).2
    case kb31_5 =>
      go_simp
      refine hK.out _ _ ?_ (fun hHeld => ?_)
      · exact ⟨(R0.later (below_al v6 _)).cell 9 _ rfl, trivial⟩
      clear hK K
      try simp only [Act.put, List.setIfInBounds_toArray, List.set_cons_zero, List.set_cons_succ]
      have hb := below_al v6 (.cells #[.int .u32 1] 68)
      have l5 := lit_one v6
      have R0 := R0.later hb
      have R1 := R1.later hb
      have x2 := x2.below hb
      have l1 := l1.below hb
      clear hb
      generalize v6.alloc (.cells #[.int .u32 1] 68) = v9 at *
      refine wpAnyH_take (i := 6) (oi := ?a24_6) (v := ?b24_6) ?c24_6 (by kernel_rfl) (by kernel_rfl) (by kernel_rfl) ?d24_6 ?e24_6 (by assumption) ?f24_6
      case c24_6 => simp only [tA, tS, tZ]; rfl
      case d24_6 => exact fun _ _ _ h => h
      case e24_6 => (refine Or.inl ⟨by rfl, ?_⟩; intro w h; (try dsimp only at h); go_simp; all_goals with_reducible rfl)
      try simp only [Act.put, tI, tP, tQ]
      refine wpAnyH_ready (rs := [0]) (by kernel_rfl) (by simp) ?_
      refine (AllReadyH.cons (o := ?ob30_0) ?hob30_0 (fun K hK => ?kb30_0) AllReadyH.nil)
      case hob30_0 => simp only [List.getElem?_toArray, List.getElem?_cons_succ, List.getElem?_cons_zero]; rfl
      case kb30_0 =>
        go_simp
        refine (cmOne_any v9).mono ?_
        rintro e2 v10 ⟨a1, n1, c1, rfl, y1, hb⟩
        have R0 := R0.later hb
        have R1 := R1.later hb
        have x2 := x2.below hb
        have l1 := l1.below hb
        have l5 := l5.below hb
        clear hb
        go_wp2_with fail
        refine hK.out _ _ ?_ (fun hHeld => ?_)
        · exact ⟨R0.cell 9 _ rfl, trivial⟩
        clear hK K
        try simp only [Act.put, List.setIfInBounds_toArray, List.set_cons_zero, List.set_cons_succ]
        refine wpAnyH_take (i := 2) (oi := ?a25_2) (v := ?b25_2) ?c25_2 (by kernel_rfl) (by kernel_rfl) (by kernel_rfl) ?d25_2 ?e25_2 (by assumption) ?f25_2
        case c25_2 => simp only [tA, tS, tZ]; rfl
        case d25_2 => exact fun _ _ _ h => h
        case e25_2 => (refine Or.inl ⟨by rfl, ?_⟩; intro w h; (try dsimp only at h); go_simp; all_goals with_reducible rfl)
        try simp only [Act.put, tI, tP, tQ]
        refine wpAnyH_ready (rs := [7]) (by kernel_rfl) (by simp) ?_
        refine (AllReadyH.cons (o := ?ob29_7) ?hob29_7 (fun K hK => ?kb29_7) AllReadyH.nil)
        case hob29_7 => simp only [List.getElem?_toArray, List.getElem?_cons_succ, List.getElem?_cons_zero]; rfl
        case kb29_7 =>
          go_simp
          have y1 := y1
          rw [← one_limbs] at y1
          have cc := ratDiv_any (g1 := false) (g2 := false) v10 y1 l1 x2 l5
          rw [div_nat one_pw PB.out.1 PB.out.2] at cc
          refine cc.mono ?_
          rintro e2 wz ⟨ap, np, cp, aq, nq, cq, rfl, z1, z2, hb⟩
          clear cc
          have R0 := R0.later hb
          have R1 := R1.later hb
          clear hb y1 l1 l5 x2
          go_wp2_with fail
          refine hK.out _ _ ?_ (fun hHeld => ?_)
          · exact ⟨R0.cell 9 _ rfl, trivial⟩
          clear hK K
          try simp only [Act.put, List.setIfInBounds_toArray, List.set_cons_zero, List.set_cons_succ]
          refine wpAnyH_take (i := 8) (oi := ?a28_8) (v := ?b28_8) ?c28_8 (by kernel_rfl) (by kernel_rfl) (by kernel_rfl) ?d28_8 ?e28_8 (by assumption) ?f28_8
          case c28_8 => simp only [tA, tS, tZ]; rfl
          case d28_8 => exact fun _ _ _ h => h
          case e28_8 => (refine Or.inl ⟨by rfl, ?_⟩; intro w h; (try dsimp only at h); go_simp; all_goals with_reducible rfl)
          try simp only [Act.put, tI, tP, tQ]
          refine wpAnyH_take (i := 9) (oi := ?a28_9) (v := ?b28_9) ?c28_9 (by kernel_rfl) (by kernel_rfl) (by kernel_rfl) ?d28_9 ?e28_9 (by assumption) ?f28_9
          case c28_9 => simp only [tA, tS, tZ]; rfl
          case d28_9 => exact fun _ _ _ h => h
          case e28_9 => (refine Or.inl ⟨by rfl, ?_⟩; intro w h; (try dsimp only at h); go_simp; all_goals with_reducible rfl)
          try simp only [Act.put, tI, tP, tQ]
          refine wpAnyH_ready (rs := [10]) (by kernel_rfl) (by simp) ?_
          refine (AllReadyH.cons (o := ?ob27_10) ?hob27_10 (fun K hK => ?kb27_10) AllReadyH.nil)
          case hob27_10 => simp only [List.getElem?_toArray, List.getElem?_cons_succ, List.getElem?_cons_zero]; rfl
          case kb27_10 =>
            rw [if_pos (by rfl)]
            refine op_store_whole 34 _ _ rfl atRat _ _ _ R1.row rfl rfl rfl rfl (rat_one _ _ _ _ _ _ _) ?_
            refine hK.out _ _ ?_ (fun hHeld => ?_)
            · exact ⟨by simp only [World.cell?, setRow_other _ _ _ _ (show w.heap.size ≠ w.heap.size + 1 by omega)]; exact R0.cell 9 _ rfl, trivial⟩
            clear hK K
            try simp only [Act.put, List.setIfInBounds_toArray, List.set_cons_zero, List.set_cons_succ]
            have HB := Lib.hid (below_row R1.below R1.lo #[.bool (lowV false oneN B0).neg, .slice ap np cp, .slice aq nq cq])
            have rowN := setRow_heap _ _ _ #[.bool (lowV false oneN B0).neg, .slice ap np cp, .slice aq nq cq] _ _ R1.row
            have fin := Lib.hid (fun cs => (⟨rd_rowset z1 R1.row (rat_noint _ _ _ _ _ _ _) cs, rd_rowset z2 R1.row (rat_noint _ _ _ _ _ _ _) cs⟩ : _ ∧ _))
            refine wpAnyH_take (i := 11) (oi := ?a26_11) (v := ?b26_11) ?c26_11 (by kernel_rfl) (by kernel_rfl) (by kernel_rfl) ?d26_11 ?e26_11 (by assumption) ?f26_11
            case c26_11 => simp only [tA, tS, tZ]; rfl
            case d26_11 => exact fun _ _ _ h => h
            case e26_11 => (refine Or.inl ⟨by rfl, ?_⟩; intro w h; (try dsimp only at h); go_simp; all_goals with_reducible rfl)
            try simp only [Act.put, tI, tP, tQ]
            refine wpAnyH_done (by kernel_rfl) ?_ _
            go_wp2_with fail
            refine bodyPost_ret (results_cell_two rfl _ _ _ _ _ _ _ rfl rowN Try.underlying34 rfl (by kernel_rfl) _ rfl) rfl ?_
            refine ⟨ap, np, cp, aq, nq, cq, by rw [e.out]; rfl, ?_, ?_, HB.out⟩
            · rw [e.out]; exact (fin.out _).1
            · rw [e.out]; exact (fin.out _).2
  case kb46_5 =>
    go_simp
    refine hK.out _ _ ?_ (fun hHeld => ?_)
    · exact ⟨(R0.later (below_al v0 _)).cell 9 _ rfl, trivial⟩
    clear hK K
    try simp only [Act.put, List.setIfInBounds_toArray, List.set_cons_zero, List.set_cons_succ]
    have hb := below_al v0 (.cells #[.int .u32 1] 68)
    have l5 := lit_one v0
    have R0 := R0.later hb
    have R1 := R1.later hb
    have x2 := x2.below hb
    clear hb
    generalize v0.alloc (.cells #[.int .u32 1] 68) = v11 at *
    refine wpAnyH_take (i := 6) (oi := ?a32_6) (v := ?b32_6) ?c32_6 (by kernel_rfl) (by kernel_rfl) (by kernel_rfl) ?d32_6 ?e32_6 (by assumption) ?f32_6
    case c32_6 => simp only [tA, tS, tZ]; rfl
    case d32_6 => exact fun _ _ _ h => h
    case e32_6 => (refine Or.inl ⟨by rfl, ?_⟩; intro w h; (try dsimp only at h); go_simp; all_goals with_reducible rfl)
    try simp only [Act.put, tI, tP, tQ]
    refine wpAnyH_ready (rs := [0, 1]) (by kernel_rfl) (by simp) ?_
    refine (AllReadyH.cons (o := ?ob45_0) ?hob45_0 (fun K hK => ?kb45_0) (AllReadyH.cons (o := ?ob45_1) ?hob45_1 (fun K hK => ?kb45_1) AllReadyH.nil))
    case hob45_0 => simp only [List.getElem?_toArray, List.getElem?_cons_succ, List.getElem?_cons_zero]; rfl
    case hob45_1 => simp only [List.getElem?_toArray, List.getElem?_cons_succ, List.getElem?_cons_zero]; rfl
    case kb45_0 =>
      go_simp
      refine (cmOne_any v11).mono ?_
      rintro e2 v12 ⟨a1, n1, c1, rfl, y1, hb⟩
      have R0 := R0.later hb
      have R1 := R1.later hb
      have x2 := x2.below hb
      have l5 := l5.below hb
      clear hb
      go_wp2_with fail
      refine hK.out _ _ ?_ (fun hHeld => ?_)
      · exact ⟨R0.cell 9 _ rfl, trivial⟩
      clear hK K
      try simp only [Act.put, List.setIfInBounds_toArray, List.set_cons_zero, List.set_cons_succ]
      refine wpAnyH_ready (rs := [1]) (by kernel_rfl) (by simp) ?_
      refine (AllReadyH.cons (o := ?ob38_1) ?hob38_1 (fun K hK => ?kb38_1) AllReadyH.nil)
      case hob38_1 => simp only [List.getElem?_toArray, List.getElem?_cons_succ, List.getElem?_cons_zero]; rfl
      case kb38_1 =>
        go_simp
        refine hK.out _ _ ?_ (fun hHeld => ?_)
        · exact ⟨(R0.later (below_al v12 _)).cell 9 _ rfl, trivial⟩
        clear hK K
        try simp only [Act.put, List.setIfInBounds_toArray, List.set_cons_zero, List.set_cons_succ]
        have hb := below_al v12 (.cells #[.int .u32 1] 68)
        have l1 := lit_one v12
        have R0 := R0.later hb
        have R1 := R1.later hb
        have x2 := x2.below hb
        have l5 := l5.below hb
        have y1 := y1.below hb
        clear hb
        generalize v12.alloc (.cells #[.int .u32 1] 68) = v13 at *
        refine wpAnyH_take (i := 2) (oi := ?a33_2) (v := ?b33_2) ?c33_2 (by kernel_rfl) (by kernel_rfl) (by kernel_rfl) ?d33_2 ?e33_2 (by assumption) ?f33_2
        case c33_2 => simp only [tA, tS, tZ]; rfl
        case d33_2 => exact fun _ _ _ h => h
        case e33_2 => (refine Or.inl ⟨by rfl, ?_⟩; intro w h; (try dsimp only at h); go_simp; all_goals with_reducible rfl)
        try simp only [Act.put, tI, tP, tQ]
        refine wpAnyH_ready (rs := [7]) (by kernel_rfl) (by simp) ?_
        refine (AllReadyH.cons (o := ?ob37_7) ?hob37_7 (fun K hK => ?kb37_7) AllReadyH.nil)
        case hob37_7 => simp only [List.getElem?_toArray, List.getElem?_cons_succ, List.getElem?_cons_zero]; rfl
        case kb37_7 =>
          go_simp
          have y1 := y1
          rw [← one_limbs] at y1
          have cc := ratDiv_any (g1 := false) (g2 := false) v13 y1 l1 x2 l5
          rw [div_nat one_pw PB.out.1 PB.out.2] at cc
          refine cc.mono ?_
          rintro e2 wz ⟨ap, np, cp, aq, nq, cq, rfl, z1, z2, hb⟩
          clear cc
          have R0 := R0.later hb
          have R1 := R1.later hb
          clear hb y1 l1 l5 x2
          go_wp2_with fail
          refine hK.out _ _ ?_ (fun hHeld => ?_)
          · exact ⟨R0.cell 9 _ rfl, trivial⟩
          clear hK K
          try simp only [Act.put, List.setIfInBounds_toArray, List.set_cons_zero, List.set_cons_succ]
          refine wpAnyH_take (i := 8) (oi := ?a36_8) (v := ?b36_8) ?c36_8 (by kernel_rfl) (by kernel_rfl) (by kernel_rfl) ?d36_8 ?e36_8 (by assumption) ?f36_8
          case c36_8 => simp only [tA, tS, tZ]; rfl
          case d36_8 => exact fun _ _ _ h => h
          case e36_8 => (refine Or.inl ⟨by rfl, ?_⟩; intro w h; (try dsimp only at h); go_simp; all_goals with_reducible rfl)
          try simp only [Act.put, tI, tP, tQ]
          refine wpAnyH_take (i := 9) (oi := ?a36_9) (v := ?b36_9) ?c36_9 (by kernel_rfl) (by kernel_rfl) (by kernel_rfl) ?d36_9 ?e36_9 (by assumption) ?f36_9
          case c36_9 => simp only [tA, tS, tZ]; rfl
          case d36_9 => exact fun _ _ _ h => h
          case e36_9 => (refine Or.inl ⟨by rfl, ?_⟩; intro w h; (try dsimp only at h); go_simp; all_goals with_reducible rfl)
          try simp only [Act.put, tI, tP, tQ]
          refine wpAnyH_ready (rs := [10]) (by kernel_rfl) (by simp) ?_
          refine (AllReadyH.cons (o := ?ob35_10) ?hob35_10 (fun K hK => ?kb35_10) AllReadyH.nil)
          case hob35_10 => simp only [List.getElem?_toArray, List.getElem?_cons_succ, List.getElem?_cons_zero]; rfl
          case kb35_10 =>
            rw [if_pos (by rfl)]
            refine op_store_whole 34 _ _ rfl atRat _ _ _ R1.row rfl rfl rfl rfl (rat_one _ _ _ _ _ _ _) ?_
            refine hK.out _ _ ?_ (fun hHeld => ?_)
            · exact ⟨by simp only [World.cell?, setRow_other _ _ _ _ (show w.heap.size ≠ w.heap.size + 1 by omega)]; exact R0.cell 9 _ rfl, trivial⟩
            clear hK K
            try simp only [Act.put, List.setIfInBounds_toArray, List.set_cons_zero, List.set_cons_succ]
            have HB := Lib.hid (below_row R1.below R1.lo #[.bool (lowV false oneN B0).neg, .slice ap np cp, .slice aq nq cq])
            have rowN := setRow_heap _ _ _ #[.bool (lowV false oneN B0).neg, .slice ap np cp, .slice aq nq cq] _ _ R1.row
            have fin := Lib.hid (fun cs => (⟨rd_rowset z1 R1.row (rat_noint _ _ _ _ _ _ _) cs, rd_rowset z2 R1.row (rat_noint _ _ _ _ _ _ _) cs⟩ : _ ∧ _))
            refine wpAnyH_take (i := 11) (oi := ?a34_11) (v := ?b34_11) ?c34_11 (by kernel_rfl) (by kernel_rfl) (by kernel_rfl) ?d34_11 ?e34_11 (by assumption) ?f34_11
            case c34_11 => simp only [tA, tS, tZ]; rfl
            case d34_11 => exact fun _ _ _ h => h
            case e34_11 => (refine Or.inl ⟨by rfl, ?_⟩; intro w h; (try dsimp only at h); go_simp; all_goals with_reducible rfl)
            try simp only [Act.put, tI, tP, tQ]
            refine wpAnyH_done (by kernel_rfl) ?_ _
            go_wp2_with fail
            refine bodyPost_ret (results_cell_two rfl _ _ _ _ _ _ _ rfl rowN Try.underlying34 rfl (by kernel_rfl) _ rfl) rfl ?_
            refine ⟨ap, np, cp, aq, nq, cq, by rw [e.out]; rfl, ?_, ?_, HB.out⟩
            · rw [e.out]; exact (fin.out _).1
            · rw [e.out]; exact (fin.out _).2
    case kb45_1 =>
      go_simp
      refine hK.out _ _ ?_ (fun hHeld => ?_)
      · exact ⟨(R0.later (below_al v11 _)).cell 9 _ rfl, trivial⟩
      clear hK K
      try simp only [Act.put, List.setIfInBounds_toArray, List.set_cons_zero, List.set_cons_succ]
      have hb := below_al v11 (.cells #[.int .u32 1] 68)
      have l1 := lit_one v11
      have R0 := R0.later hb
      have R1 := R1.later hb
      have x2 := x2.below hb
      have l5 := l5.below hb
      clear hb
      generalize v11.alloc (.cells #[.int .u32 1] 68) = v14 at *
      refine wpAnyH_ready (rs := [0]) (by kernel_rfl) (by simp) ?_
      refine (AllReadyH.cons (o := ?ob44_0) ?hob44_0 (fun K hK => ?kb44_0) AllReadyH.nil)
      case hob44_0 => simp only [List.getElem?_toArray, List.getElem?_cons_succ, List.getElem?_cons_zero]; rfl
      case kb44_0 =>
        go_simp
        refine (cmOne_any v14).mono ?_
        rintro e2 v15 ⟨a1, n1, c1, rfl, y1, hb⟩
        have R0 := R0.later hb
        have R1 := R1.later hb
        have x2 := x2.below hb
        have l5 := l5.below hb
        have l1 := l1.below hb
        clear hb
        go_wp2_with fail
        refine hK.out _ _ ?_ (fun hHeld => ?_)
        · exact ⟨R0.cell 9 _ rfl, trivial⟩
        clear hK K
        try simp only [Act.put, List.setIfInBounds_toArray, List.set_cons_zero, List.set_cons_succ]
        refine wpAnyH_take (i := 2) (oi := ?a39_2) (v := ?b39_2) ?c39_2 (by kernel_rfl) (by kernel_rfl) (by kernel_rfl) ?d39_2 ?e39_2 (by assumption) ?f39_2
        case c39_2 => simp only [tA, tS, tZ]; rfl
        case d39_2 => exact fun _ _ _ h => h
        case e39_2 => (refine Or.inl ⟨by rfl, ?_⟩; intro w h; (try dsimp only at h); go_simp; all_goals with_reducible rfl)
        try simp only [Act.put, tI, tP, tQ]
        refine wpAnyH_ready (rs := [7]) (by kernel_rfl) (by simp) ?_
        refine (AllReadyH.cons (o := ?ob43_7) ?hob43_7 (fun K hK => ?kb43_7) AllReadyH.nil)
        case hob43_7 => simp only [List.getElem?_toArray, List.getElem?_cons_succ, List.getElem?_cons_zero]; rfl
        case kb43_7 =>
          go_simp
          have y1 := y1
          rw [← one_limbs] at y1
          have cc := ratDiv_any (g1 := false) (g2 := false) v15 y1 l1 x2 l5
          rw [div_nat one_pw PB.out.1 PB.out.2] at cc
          refine cc.mono ?_
          rintro e2 wz ⟨ap, np, cp, aq, nq, cq, rfl, z1, z2, hb⟩
          clear cc
          have R0 := R0.later hb
          have R1 := R1.later hb
          clear hb y1 l1 l5 x2
          go_wp2_with fail
          refine hK.out _ _ ?_ (fun hHeld => ?_)
          · exact ⟨R0.cell 9 _ rfl, trivial⟩
          clear hK K
          try simp only [Act.put, List.setIfInBounds_toArray, List.set_cons_zero, List.set_cons_succ]
          refine wpAnyH_take (i := 8) (oi := ?a42_8) (v := ?b42_8) ?c42_8 (by kernel_rfl) (by kernel_rfl) (by kernel_rfl) ?d42_8 ?e42_8 (by assumption) ?f42_8
          case c42_8 => simp only [tA, tS, tZ]; rfl
          case d42_8 => exact fun _ _ _ h => h
          case e42_8 => (refine Or.inl ⟨by rfl, ?_⟩; intro w h; (try dsimp only at h); go_simp; all_goals with_reducible rfl)
          try simp only [Act.put, tI, tP, tQ]
          refine wpAnyH_take (i := 9) (oi := ?a42_9) (v := ?b42_9) ?c42_9 (by kernel_rfl) (by kernel_rfl) (by kernel_rfl) ?d42_9 ?e42_9 (by assumption) ?f42_9
          case c42_9 => simp only [tA, tS, tZ]; rfl
          case d42_9 => exact fun _ _ _ h => h
          case e42_9 => (refine Or.inl ⟨by rfl, ?_⟩; intro w h; (try dsimp only at h); go_simp; all_goals with_reducible rfl)
          try simp only [Act.put, tI, tP, tQ]
          refine wpAnyH_ready (rs := [10]) (by kernel_rfl) (by simp) ?_
          refine (AllReadyH.cons (o := ?ob41_10) ?hob41_10 (fun K hK => ?kb41_10) AllReadyH.nil)
          case hob41_10 => simp only [List.getElem?_toArray, List.getElem?_cons_succ, List.getElem?_cons_zero]; rfl
          case kb41_10 =>
            rw [if_pos (by rfl)]
            refine op_store_whole 34 _ _ rfl atRat _ _ _ R1.row rfl rfl rfl rfl (rat_one _ _ _ _ _ _ _) ?_
            refine hK.out _ _ ?_ (fun hHeld => ?_)
            · exact ⟨by simp only [World.cell?, setRow_other _ _ _ _ (show w.heap.size ≠ w.heap.size + 1 by omega)]; exact R0.cell 9 _ rfl, trivial⟩
            clear hK K
            try simp only [Act.put, List.setIfInBounds_toArray, List.set_cons_zero, List.set_cons_succ]
            have HB := Lib.hid (below_row R1.below R1.lo #[.bool (lowV false oneN B0).neg, .slice ap np cp, .slice aq nq cq])
            have rowN := setRow_heap _ _ _ #[.bool (lowV false oneN B0).neg, .slice ap np cp, .slice aq nq cq] _ _ R1.row
            have fin := Lib.hid (fun cs => (⟨rd_rowset z1 R1.row (rat_noint _ _ _ _ _ _ _) cs, rd_rowset z2 R1.row (rat_noint _ _ _ _ _ _ _) cs⟩ : _ ∧ _))
            refine wpAnyH_take (i := 11) (oi := ?a40_11) (v := ?b40_11) ?c40_11 (by kernel_rfl) (by kernel_rfl) (by kernel_rfl) ?d40_11 ?e40_11 (by assumption) ?f40_11
            case c40_11 => simp only [tA, tS, tZ]; rfl
            case d40_11 => exact fun _ _ _ h => h
            case e40_11 => (refine Or.inl ⟨by rfl, ?_⟩; intro w h; (try dsimp only at h); go_simp; all_goals with_reducible rfl)
            try simp only [Act.put, tI, tP, tQ]
            refine wpAnyH_done (by kernel_rfl) ?_ _
            go_wp2_with fail
            refine bodyPost_ret (results_cell_two rfl _ _ _ _ _ _ _ rfl rowN Try.underlying34 rfl (by kernel_rfl) _ rfl) rfl ?_
            refine ⟨ap, np, cp, aq, nq, cq, by rw [e.out]; rfl, ?_, ?_, HB.out⟩
            · rw [e.out]; exact (fin.out _).1
            · rw [e.out]; exact (fin.out _).2

end Go.Proofs.Ytmkcdlhhbnakiaa
