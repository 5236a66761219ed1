/- Observing the overstatement 0. -/
import Derived.Test.YtmkcdlhhbnakiaaCmpV
namespace Go.Proofs.Ytmkcdlhhbnakiaa
open Go.RowKit Go.Suf
set_option linter.unusedVariables false
set_option linter.unusedSimpArgs false

set_option maxRecDepth 100000 in
set_option maxHeartbeats 8000000 in
theorem see2_any (wb w : World) {q : CV} {a b : Option Addr} {n m c d k L B : Nat} (R : PRow 66 wb w k (cmC q a n c b m d)) (ra : Rd .u32 w a n c (limbs L)) (rb : Rd .u32 w b m d (limbs B)) (vld' : VldC q L B) :
    Calls Try.prog 42 #[.pointer (some ⟨k, 0, none⟩), .int .i64 (0)] w (RetSee wb k q (0)) := by
  have vld := Lib.hid vld'
  clear vld'
  have k0 := R.cell 0 _ rfl
  have k1 := R.cell 1 _ rfl
  have k2 := R.cell 2 _ rfl
  have k3 := R.cell 3 _ rfl
  have k4 := R.cell 4 _ rfl
  have k5 := R.cell 5 _ rfl
  have k6 := R.cell 6 _ rfl
  have k7 := R.cell 7 _ rfl
  have k8 := R.cell 8 _ rfl
  have k9 := R.cell 9 _ rfl
  have fr := R.free 5
  have HF := Lib.hid (show seenAtC q (0 : Int) = q.s2 from rfl)
  have sv := vld.out.s2
  unfold inS at sv
  by_cases full : q.s2 = 1000000
  · have e := Lib.hid (show obs1C q (0 : Int) = none from obs1C_out (.inr (.inr (by rw [HF.out]; omega))))
    have d2 : (q.s2 == 1000000) = true := beq_iff_eq.2 full
    clear full sv
    go_enter Try.func42, Try.ntmps42
    go_wp2_with fail
    have cc := within_any w (0 : Int) (-2) 2
    rw [decide_eq_true (show (-2 : Int) ≤ (0 : Int) ∧ (0 : Int) ≤ 2 by decide)] at cc
    refine cc.mono ?_
    rintro e1 w9 ⟨rfl, hw⟩
    have hw := hw.symm
    subst hw
    clear cc
    go_wp2_with fail
    go_ret
    exact .inl ⟨e.out, rfl, R.below⟩
  have d2 : (q.s2 == 1000000) = false := beq_eq_false_iff_ne.2 full
  have e := Lib.hid (show obs1C q (0 : Int) = some (stepC q (0 : Int)) from obs1C_in (by rw [HF.out]; omega))
  have sv1 : q.s2 < 1000000 := by omega
  have sv0 : 0 ≤ q.s2 := by omega
  have wi : IntKind.i64.wrap (q.s2 + 1) = q.s2 + 1 := wrap_in (by omega) (by omega)
  clear full sv
  go_enter Try.func42, Try.ntmps42
  go_wp2_with fail
  have cc := within_any w (0 : Int) (-2) 2
  rw [decide_eq_true (show (-2 : Int) ≤ (0 : Int) ∧ (0 : Int) ≤ 2 by decide)] at cc
  refine cc.mono ?_
  rintro e1 w9 ⟨rfl, hw⟩
  have hw := hw.symm
  subst hw
  clear cc
  go_upto_region 4 with fail
  refine wp_region_any (by kernel_rfl) ?_
  change wpAny _ _ _ _ _ _ _ (World.drew _)
  refine wpAny_take (i := 0) (oi := ?oir57_0) (v := ?vr57_0) ?hir57_0 (by kernel_rfl) (by kernel_rfl) (by kernel_rfl) ?hqr57_0 ?hyr57_0 ?restr57_0
  case hir57_0 => simp only [List.getElem?_toArray, List.getElem?_cons_succ, List.getElem?_cons_zero]; rfl
  case hqr57_0 => exact fun _ _ _ h => h
  case hyr57_0 => (refine Or.inl ⟨by rfl, ?_⟩; intro w; go_simp; all_goals with_reducible rfl)
  try simp only [Act.put, List.setIfInBounds_toArray, List.set_cons_zero, List.set_cons_succ]
  refine wpAny_take (i := 1) (oi := ?oir57_1) (v := ?vr57_1) ?hir57_1 (by kernel_rfl) (by kernel_rfl) (by kernel_rfl) ?hqr57_1 ?hyr57_1 ?restr57_1
  case hir57_1 => simp only [List.getElem?_toArray, List.getElem?_cons_succ, List.getElem?_cons_zero]; rfl
  case hqr57_1 => exact fun _ _ _ h => h
  case hyr57_1 => (refine Or.inl ⟨by rfl, ?_⟩; intro w; go_simp; all_goals with_reducible rfl)
  try simp only [Act.put, List.setIfInBounds_toArray, List.set_cons_zero, List.set_cons_succ]
  refine wpAny_take (i := 2) (oi := ?oir57_2) (v := ?vr57_2) ?hir57_2 (by kernel_rfl) (by kernel_rfl) (by kernel_rfl) ?hqr57_2 ?hyr57_2 ?restr57_2
  case hir57_2 => simp only [List.getElem?_toArray, List.getElem?_cons_succ, List.getElem?_cons_zero]; rfl
  case hqr57_2 => exact fun _ _ _ h => h
  case hyr57_2 => (refine Or.inl ⟨by rfl, ?_⟩; intro w; go_simp; all_goals with_reducible rfl)
  try simp only [Act.put, List.setIfInBounds_toArray, List.set_cons_zero, List.set_cons_succ]
  refine wpAny_take (i := 3) (oi := ?oir57_3) (v := ?vr57_3) ?hir57_3 (by kernel_rfl) (by kernel_rfl) (by kernel_rfl) ?hqr57_3 ?hyr57_3 ?restr57_3
  case hir57_3 => simp only [List.getElem?_toArray, List.getElem?_cons_succ, List.getElem?_cons_zero]; rfl
  case hqr57_3 => exact fun _ _ _ h => h
  case hyr57_3 => (refine Or.inl ⟨by rfl, ?_⟩; intro w; go_simp; all_goals with_reducible rfl)
  try simp only [Act.put, List.setIfInBounds_toArray, List.set_cons_zero, List.set_cons_succ]
  refine wpAny_take (i := 4) (oi := ?oir57_4) (v := ?vr57_4) ?hir57_4 (by kernel_rfl) (by kernel_rfl) (by kernel_rfl) ?hqr57_4 ?hyr57_4 ?restr57_4
  case hir57_4 => simp only [List.getElem?_toArray, List.getElem?_cons_succ, List.getElem?_cons_zero]; rfl
  case hqr57_4 => exact fun _ _ _ h => h
  case hyr57_4 => (refine Or.inl ⟨by rfl, ?_⟩; intro w; go_simp; all_goals with_reducible rfl)
  try simp only [Act.put, List.setIfInBounds_toArray, List.set_cons_zero, List.set_cons_succ]
  refine wpAny_take (i := 5) (oi := ?oir57_5) (v := ?vr57_5) ?hir57_5 (by kernel_rfl) (by kernel_rfl) (by kernel_rfl) ?hqr57_5 ?hyr57_5 ?restr57_5
  case hir57_5 => simp only [List.getElem?_toArray, List.getElem?_cons_succ, List.getElem?_cons_zero]; rfl
  case hqr57_5 => exact fun _ _ _ h => h
  case hyr57_5 => (refine Or.inl ⟨by rfl, ?_⟩; intro w; go_simp; all_goals with_reducible rfl)
  try simp only [Act.put, List.setIfInBounds_toArray, List.set_cons_zero, List.set_cons_succ]
  refine wpAny_take (i := 8) (oi := ?oir57_8) (v := ?vr57_8) ?hir57_8 (by kernel_rfl) (by kernel_rfl) (by kernel_rfl) ?hqr57_8 ?hyr57_8 ?restr57_8
  case hir57_8 => simp only [List.getElem?_toArray, List.getElem?_cons_succ, List.getElem?_cons_zero]; rfl
  case hqr57_8 => exact fun _ _ _ h => h
  case hyr57_8 => (refine Or.inl ⟨by rfl, ?_⟩; intro w; go_simp; all_goals with_reducible rfl)
  try simp only [Act.put, List.setIfInBounds_toArray, List.set_cons_zero, List.set_cons_succ]
  refine wpAny_take (i := 9) (oi := ?oir57_9) (v := ?vr57_9) ?hir57_9 (by kernel_rfl) (by kernel_rfl) (by kernel_rfl) ?hqr57_9 ?hyr57_9 ?restr57_9
  case hir57_9 => simp only [List.getElem?_toArray, List.getElem?_cons_succ, List.getElem?_cons_zero]; rfl
  case hqr57_9 => exact fun _ _ _ h => h
  case hyr57_9 => (refine Or.inl ⟨by rfl, ?_⟩; intro w; go_simp; all_goals with_reducible rfl)
  try simp only [Act.put, List.setIfInBounds_toArray, List.set_cons_zero, List.set_cons_succ]
  refine wpAny_take (i := 10) (oi := ?oir57_10) (v := ?vr57_10) ?hir57_10 (by kernel_rfl) (by kernel_rfl) (by kernel_rfl) ?hqr57_10 ?hyr57_10 ?restr57_10
  case hir57_10 => simp only [List.getElem?_toArray, List.getElem?_cons_succ, List.getElem?_cons_zero]; rfl
  case hqr57_10 => exact fun _ _ _ h => h
  case hyr57_10 => (refine Or.inl ⟨by rfl, ?_⟩; intro w; go_simp; all_goals with_reducible rfl)
  try simp only [Act.put, List.setIfInBounds_toArray, List.set_cons_zero, List.set_cons_succ]
  refine wpAny_ready (rs := [6]) (by kernel_rfl) (by simp) ?_
  refine (AllReady.cons (o := ?ob84_6) ?hob84_6 (fun K hK => ?kb84_6) AllReady.nil)
  case hob84_6 => simp only [List.getElem?_toArray, List.getElem?_cons_succ, List.getElem?_cons_zero]; rfl
  case kb84_6 =>
    go_simp
    refine hK _ _ ?_
    clear hK K
    try simp only [Act.put, List.setIfInBounds_toArray, List.set_cons_zero, List.set_cons_succ]
    refine wpAny_take (i := 7) (oi := ?oir83_7) (v := ?vr83_7) ?hir83_7 (by kernel_rfl) (by kernel_rfl) (by kernel_rfl) ?hqr83_7 ?hyr83_7 ?restr83_7
    case hir83_7 => simp only [List.getElem?_toArray, List.getElem?_cons_succ, List.getElem?_cons_zero]; rfl
    case hqr83_7 => exact fun _ _ _ h => h
    case hyr83_7 => (refine Or.inl ⟨by rfl, ?_⟩; intro w; go_simp; all_goals with_reducible rfl)
    try simp only [Act.put, List.setIfInBounds_toArray, List.set_cons_zero, List.set_cons_succ]
    refine wpAny_take (i := 11) (oi := ?oir83_11) (v := ?vr83_11) ?hir83_11 (by kernel_rfl) (by kernel_rfl) (by kernel_rfl) ?hqr83_11 ?hyr83_11 ?restr83_11
    case hir83_11 => simp only [List.getElem?_toArray, List.getElem?_cons_succ, List.getElem?_cons_zero]; rfl
    case hqr83_11 => exact fun _ _ _ h => h
    case hyr83_11 => (refine Or.inl ⟨by rfl, ?_⟩; intro w; go_simp; all_goals with_reducible rfl)
    try simp only [Act.put, List.setIfInBounds_toArray, List.set_cons_zero, List.set_cons_succ]
    refine wpAny_ready (rs := [12]) (by kernel_rfl) (by simp) ?_
    refine (AllReady.cons (o := ?ob82_12) ?hob82_12 (fun K hK => ?kb82_12) AllReady.nil)
    case hob82_12 => simp only [List.getElem?_toArray, List.getElem?_cons_succ, List.getElem?_cons_zero]; rfl
    case kb82_12 =>
      go_simp
      refine hK _ _ ?_
      clear hK K
      try simp only [Act.put, List.setIfInBounds_toArray, List.set_cons_zero, List.set_cons_succ]
      refine wpAny_done (by kernel_rfl) ?_ _
      have R0 : PRow 66 wb (w.setCell ⟨k, 5, none⟩ (.int .i64 (q.s2 + 1))) k (cmC (bumpC q (0 : Int)) a n c b m d) := R.set 5 (.int .i64 (q.s2 + 1))
      have D0 := (Below.refl (w.setCell ⟨k, 5, none⟩ (.int .i64 (q.s2 + 1))).heap.size (w.setCell ⟨k, 5, none⟩ (.int .i64 (q.s2 + 1)))).drew
      have ra1 := (rd_setcell (i := 5) ra R.row (cm_noint _ _ _ _ _ _ _) (.int .i64 (q.s2 + 1))).below D0
      have rb1 := (rd_setcell (i := 5) rb R.row (cm_noint _ _ _ _ _ _ _) (.int .i64 (q.s2 + 1))).below D0
      have R1 := R0.later D0
      clear k0 k1 k2 k3 k4 k5 k6 k7 k8 k9 fr D0 R0 sv0 sv1 d2 wi
      generalize (w.setCell ⟨k, 5, none⟩ (.int .i64 (q.s2 + 1))).drew = w1 at *
      have k0 : w1.cell? ⟨k, 0, none⟩ = some (.int .i64 q.bet) := R1.cell 0 _ rfl
      have k1 : w1.cell? ⟨k, 1, none⟩ = some (.int .i64 q.ballots) := R1.cell 1 _ rfl
      have k2 : w1.cell? ⟨k, 2, none⟩ = some (.int .i64 q.margin) := R1.cell 2 _ rfl
      have k8 : w1.cell? ⟨k, 8, none⟩ = some (.slice a n c) := R1.cell 8 _ rfl
      have n1' : 1 ≤ q.ballots := vld.out.may.2.1.1
      have n2' : q.ballots ≤ 1000000 := vld.out.may.2.1.2
      have LP := Lib.hid vld.out.pw.1
      have LF := Lib.hid (show L * factC q (0 : Int) < pw 96 from Nat.lt_of_lt_of_le (mul_lt_pw (show L < pw 5 from Nat.lt_of_le_of_lt (Nat.le_trans vld.out.le vld.out.hi) (by decide)) (show factC q (0 : Int) < pw 2 from (fact_bd vld.out.may (by decide) (by decide)).1)) (pw_le (by decide)))
      go_upto_region 6 with fail
      have hb := (Below.refl w1.heap.size w1).drew
      have R1 := R1.later hb
      have ra1 := ra1.below hb
      have rb1 := rb1.below hb
      clear hb k0 k1 k2 k8
      refine wp_region_held_drew (S := (fun w' => w'.cell? ⟨k, 0, none⟩ = some (.int .i64 q.bet) ∧ w'.cell? ⟨k, 1, none⟩ = some (.int .i64 q.ballots) ∧ w'.cell? ⟨k, 2, none⟩ = some (.int .i64 q.margin) ∧ w'.cell? ⟨k, 8, none⟩ = some (.slice a n c))) (by kernel_rfl) ?_ (fun hHeld => ?_)
      · exact ⟨R1.cell 0 _ rfl, R1.cell 1 _ rfl, R1.cell 2 _ rfl, R1.cell 8 _ rfl⟩
      generalize w1.drew = w2 at *
      refine wpAnyH_take (i := 0) (oi := ?oir58_0) (v := ?vr58_0) ?hir58_0 (by kernel_rfl) (by kernel_rfl) (by kernel_rfl) ?hqr58_0 ?hyr58_0 (by assumption) ?restr58_0
      case hir58_0 => simp only [List.getElem?_toArray, List.getElem?_cons_succ, List.getElem?_cons_zero]; rfl
      case hqr58_0 => exact fun _ _ _ h => h
      case hyr58_0 => (refine Or.inl ⟨by rfl, ?_⟩; intro w hSw; (try dsimp only at hSw); go_simp; all_goals with_reducible rfl)
      try simp only [Act.put, List.setIfInBounds_toArray, List.set_cons_zero, List.set_cons_succ]
      refine wpAnyH_take (i := 1) (oi := ?oir58_1) (v := ?vr58_1) ?hir58_1 (by kernel_rfl) (by kernel_rfl) (by kernel_rfl) ?hqr58_1 ?hyr58_1 (by assumption) ?restr58_1
      case hir58_1 => simp only [List.getElem?_toArray, List.getElem?_cons_succ, List.getElem?_cons_zero]; rfl
      case hqr58_1 => exact fun _ _ _ h => h
      case hyr58_1 => (refine Or.inl ⟨by rfl, ?_⟩; intro w hSw; (try dsimp only at hSw); go_simp; all_goals with_reducible rfl)
      try simp only [Act.put, List.setIfInBounds_toArray, List.set_cons_zero, List.set_cons_succ]
      refine wpAnyH_take (i := 2) (oi := ?oir58_2) (v := ?vr58_2) ?hir58_2 (by kernel_rfl) (by kernel_rfl) (by kernel_rfl) ?hqr58_2 ?hyr58_2 (by assumption) ?restr58_2
      case hir58_2 => simp only [List.getElem?_toArray, List.getElem?_cons_succ, List.getElem?_cons_zero]; rfl
      case hqr58_2 => exact fun _ _ _ h => h
      case hyr58_2 => (refine Or.inl ⟨by rfl, ?_⟩; intro w hSw; (try dsimp only at hSw); go_simp; all_goals with_reducible rfl)
      try simp only [Act.put, List.setIfInBounds_toArray, List.set_cons_zero, List.set_cons_succ]
      refine wpAnyH_take (i := 3) (oi := ?oir58_3) (v := ?vr58_3) ?hir58_3 (by kernel_rfl) (by kernel_rfl) (by kernel_rfl) ?hqr58_3 ?hyr58_3 (by assumption) ?restr58_3
      case hir58_3 => simp only [List.getElem?_toArray, List.getElem?_cons_succ, List.getElem?_cons_zero]; rfl
      case hqr58_3 => exact fun _ _ _ h => h
      case hyr58_3 => (refine Or.inl ⟨by rfl, ?_⟩; intro w hSw; (try dsimp only at hSw); go_simp; all_goals with_reducible rfl)
      try simp only [Act.put, List.setIfInBounds_toArray, List.set_cons_zero, List.set_cons_succ]
      refine wpAnyH_take (i := 4) (oi := ?oir58_4) (v := ?vr58_4) ?hir58_4 (by kernel_rfl) (by kernel_rfl) (by kernel_rfl) ?hqr58_4 ?hyr58_4 (by assumption) ?restr58_4
      case hir58_4 => simp only [List.getElem?_toArray, List.getElem?_cons_succ, List.getElem?_cons_zero]; rfl
      case hqr58_4 => exact fun _ _ _ h => h
      case hyr58_4 => (refine Or.inl ⟨by rfl, ?_⟩; intro w hSw; (try dsimp only at hSw); go_simp; all_goals with_reducible rfl)
      try simp only [Act.put, List.setIfInBounds_toArray, List.set_cons_zero, List.set_cons_succ]
      refine wpAnyH_take (i := 5) (oi := ?oir58_5) (v := ?vr58_5) ?hir58_5 (by kernel_rfl) (by kernel_rfl) (by kernel_rfl) ?hqr58_5 ?hyr58_5 (by assumption) ?restr58_5
      case hir58_5 => simp only [List.getElem?_toArray, List.getElem?_cons_succ, List.getElem?_cons_zero]; rfl
      case hqr58_5 => exact fun _ _ _ h => h
      case hyr58_5 => (refine Or.inl ⟨by rfl, ?_⟩; intro w hSw; (try dsimp only at hSw); go_simp; all_goals with_reducible rfl)
      try simp only [Act.put, List.setIfInBounds_toArray, List.set_cons_zero, List.set_cons_succ]
      refine wpAnyH_take (i := 6) (oi := ?oir58_6) (v := ?vr58_6) ?hir58_6 (by kernel_rfl) (by kernel_rfl) (by kernel_rfl) ?hqr58_6 ?hyr58_6 (by assumption) ?restr58_6
      case hir58_6 => simp only [List.getElem?_toArray, List.getElem?_cons_succ, List.getElem?_cons_zero]; rfl
      case hqr58_6 => exact fun _ _ _ h => h
      case hyr58_6 => (refine Or.inl ⟨by rfl, ?_⟩; intro w hSw; (try dsimp only at hSw); go_simp; all_goals with_reducible rfl)
      try simp only [Act.put, List.setIfInBounds_toArray, List.set_cons_zero, List.set_cons_succ]
      refine wpAnyH_take (i := 7) (oi := ?oir58_7) (v := ?vr58_7) ?hir58_7 (by kernel_rfl) (by kernel_rfl) (by kernel_rfl) ?hqr58_7 ?hyr58_7 (by assumption) ?restr58_7
      case hir58_7 => simp only [List.getElem?_toArray, List.getElem?_cons_succ, List.getElem?_cons_zero]; rfl
      case hqr58_7 => exact fun _ _ _ h => h
      case hyr58_7 => (refine Or.inl ⟨by rfl, ?_⟩; intro w hSw; (try dsimp only at hSw); go_simp; all_goals with_reducible rfl)
      try simp only [Act.put, List.setIfInBounds_toArray, List.set_cons_zero, List.set_cons_succ]
      refine wpAnyH_take (i := 8) (oi := ?oir58_8) (v := ?vr58_8) ?hir58_8 (by kernel_rfl) (by kernel_rfl) (by kernel_rfl) ?hqr58_8 ?hyr58_8 (by assumption) ?restr58_8
      case hir58_8 => simp only [List.getElem?_toArray, List.getElem?_cons_succ, List.getElem?_cons_zero]; rfl
      case hqr58_8 => exact fun _ _ _ h => h
      case hyr58_8 => (refine Or.inl ⟨by rfl, ?_⟩; intro w hSw; (try dsimp only at hSw); go_simp; all_goals with_reducible rfl)
      try simp only [Act.put, List.setIfInBounds_toArray, List.set_cons_zero, List.set_cons_succ]
      refine wpAnyH_take (i := 9) (oi := ?oir58_9) (v := ?vr58_9) ?hir58_9 (by kernel_rfl) (by kernel_rfl) (by kernel_rfl) ?hqr58_9 ?hyr58_9 (by assumption) ?restr58_9
      case hir58_9 => simp only [List.getElem?_toArray, List.getElem?_cons_succ, List.getElem?_cons_zero]; rfl
      case hqr58_9 => exact fun _ _ _ h => h
      case hyr58_9 => (refine Or.inl ⟨by rfl, ?_⟩; intro w hSw; (try dsimp only at hSw); go_simp; all_goals with_reducible rfl)
      try simp only [Act.put, List.setIfInBounds_toArray, List.set_cons_zero, List.set_cons_succ]
      refine wpAnyH_take (i := 10) (oi := ?oir58_10) (v := ?vr58_10) ?hir58_10 (by kernel_rfl) (by kernel_rfl) (by kernel_rfl) ?hqr58_10 ?hyr58_10 (by assumption) ?restr58_10
      case hir58_10 => simp only [List.getElem?_toArray, List.getElem?_cons_succ, List.getElem?_cons_zero]; rfl
      case hqr58_10 => exact fun _ _ _ h => h
      case hyr58_10 => (refine Or.inl ⟨by rfl, ?_⟩; intro w hSw; (try dsimp only at hSw); go_simp; all_goals with_reducible rfl)
      try simp only [Act.put, List.setIfInBounds_toArray, List.set_cons_zero, List.set_cons_succ]
      refine wpAnyH_take (i := 11) (oi := ?oir58_11) (v := ?vr58_11) ?hir58_11 (by kernel_rfl) (by kernel_rfl) (by kernel_rfl) ?hqr58_11 ?hyr58_11 (by assumption) ?restr58_11
      case hir58_11 => simp only [List.getElem?_toArray, List.getElem?_cons_succ, List.getElem?_cons_zero]; rfl
      case hqr58_11 => exact fun _ _ _ h => h
      case hyr58_11 => (refine Or.inl ⟨by rfl, ?_⟩; intro w hSw; (try dsimp only at hSw); go_simp; all_goals with_reducible rfl)
      try simp only [Act.put, List.setIfInBounds_toArray, List.set_cons_zero, List.set_cons_succ]
      refine wpAnyH_take (i := 12) (oi := ?oir58_12) (v := ?vr58_12) ?hir58_12 (by kernel_rfl) (by kernel_rfl) (by kernel_rfl) ?hqr58_12 ?hyr58_12 (by assumption) ?restr58_12
      case hir58_12 => simp only [List.getElem?_toArray, List.getElem?_cons_succ, List.getElem?_cons_zero]; rfl
      case hqr58_12 => exact fun _ _ _ h => h
      case hyr58_12 => (refine Or.inl ⟨by rfl, ?_⟩; intro w hSw; (try dsimp only at hSw); go_simp; all_goals with_reducible rfl)
      try simp only [Act.put, List.setIfInBounds_toArray, List.set_cons_zero, List.set_cons_succ]
      refine wpAnyH_take (i := 13) (oi := ?oir58_13) (v := ?vr58_13) ?hir58_13 (by kernel_rfl) (by kernel_rfl) (by kernel_rfl) ?hqr58_13 ?hyr58_13 (by assumption) ?restr58_13
      case hir58_13 => simp only [List.getElem?_toArray, List.getElem?_cons_succ, List.getElem?_cons_zero]; rfl
      case hqr58_13 => exact fun _ _ _ h => h
      case hyr58_13 => (refine Or.inl ⟨by rfl, ?_⟩; intro w hSw; (try dsimp only at hSw); go_simp; all_goals with_reducible rfl)
      try simp only [Act.put, List.setIfInBounds_toArray, List.set_cons_zero, List.set_cons_succ]
      refine wpAnyH_take (i := 14) (oi := ?oir58_14) (v := ?vr58_14) ?hir58_14 (by kernel_rfl) (by kernel_rfl) (by kernel_rfl) ?hqr58_14 ?hyr58_14 (by assumption) ?restr58_14
      case hir58_14 => simp only [List.getElem?_toArray, List.getElem?_cons_succ, List.getElem?_cons_zero]; rfl
      case hqr58_14 => exact fun _ _ _ h => h
      case hyr58_14 => (refine Or.inl ⟨by rfl, ?_⟩; intro w hSw; (try dsimp only at hSw); go_simp; all_goals with_reducible rfl)
      try simp only [Act.put, List.setIfInBounds_toArray, List.set_cons_zero, List.set_cons_succ]
      refine wpAnyH_take (i := 15) (oi := ?oir58_15) (v := ?vr58_15) ?hir58_15 (by kernel_rfl) (by kernel_rfl) (by kernel_rfl) ?hqr58_15 ?hyr58_15 (by assumption) ?restr58_15
      case hir58_15 => simp only [List.getElem?_toArray, List.getElem?_cons_succ, List.getElem?_cons_zero]; rfl
      case hqr58_15 => exact fun _ _ _ h => h
      case hyr58_15 => (refine Or.inl ⟨by rfl, ?_⟩; intro w hSw; (try dsimp only at hSw); go_simp; all_goals with_reducible rfl)
      try simp only [Act.put, List.setIfInBounds_toArray, List.set_cons_zero, List.set_cons_succ]
      refine wpAnyH_take (i := 16) (oi := ?oir58_16) (v := ?vr58_16) ?hir58_16 (by kernel_rfl) (by kernel_rfl) (by kernel_rfl) ?hqr58_16 ?hyr58_16 (by assumption) ?restr58_16
      case hir58_16 => simp only [List.getElem?_toArray, List.getElem?_cons_succ, List.getElem?_cons_zero]; rfl
      case hqr58_16 => exact fun _ _ _ h => h
      case hyr58_16 => (refine Or.inl ⟨by rfl, ?_⟩; intro w hSw; (try dsimp only at hSw); go_simp; all_goals with_reducible rfl)
      try simp only [Act.put, List.setIfInBounds_toArray, List.set_cons_zero, List.set_cons_succ]
      refine wpAnyH_take (i := 17) (oi := ?oir58_17) (v := ?vr58_17) ?hir58_17 (by kernel_rfl) (by kernel_rfl) (by kernel_rfl) ?hqr58_17 ?hyr58_17 (by assumption) ?restr58_17
      case hir58_17 => simp only [List.getElem?_toArray, List.getElem?_cons_succ, List.getElem?_cons_zero]; rfl
      case hqr58_17 => exact fun _ _ _ h => h
      case hyr58_17 => (refine Or.inl ⟨by rfl, ?_⟩; intro w hSw; (try dsimp only at hSw); go_simp; all_goals with_reducible rfl)
      try simp only [Act.put, List.setIfInBounds_toArray, List.set_cons_zero, List.set_cons_succ]
      refine wpAnyH_take (i := 18) (oi := ?oir58_18) (v := ?vr58_18) ?hir58_18 (by kernel_rfl) (by kernel_rfl) (by kernel_rfl) ?hqr58_18 ?hyr58_18 (by assumption) ?restr58_18
      case hir58_18 => simp only [List.getElem?_toArray, List.getElem?_cons_succ, List.getElem?_cons_zero]; rfl
      case hqr58_18 => exact fun _ _ _ h => h
      case hyr58_18 => (refine Or.inl ⟨by rfl, ?_⟩; intro w hSw; (try dsimp only at hSw); go_simp; all_goals with_reducible rfl)
      try simp only [Act.put, List.setIfInBounds_toArray, List.set_cons_zero, List.set_cons_succ]
      refine wpAnyH_take (i := 19) (oi := ?oir58_19) (v := ?vr58_19) ?hir58_19 (by kernel_rfl) (by kernel_rfl) (by kernel_rfl) ?hqr58_19 ?hyr58_19 (by assumption) ?restr58_19
      case hir58_19 => simp only [List.getElem?_toArray, List.getElem?_cons_succ, List.getElem?_cons_zero]; rfl
      case hqr58_19 => exact fun _ _ _ h => h
      case hyr58_19 => (refine Or.inl ⟨by rfl, ?_⟩; intro w hSw; (try dsimp only at hSw); go_simp; all_goals with_reducible rfl)
      try simp only [Act.put, List.setIfInBounds_toArray, List.set_cons_zero, List.set_cons_succ]
      refine wpAnyH_take (i := 20) (oi := ?oir58_20) (v := ?vr58_20) ?hir58_20 (by kernel_rfl) (by kernel_rfl) (by kernel_rfl) ?hqr58_20 ?hyr58_20 (by assumption) ?restr58_20
      case hir58_20 => simp only [List.getElem?_toArray, List.getElem?_cons_succ, List.getElem?_cons_zero]; rfl
      case hqr58_20 => exact fun _ _ _ h => h
      case hyr58_20 => (refine Or.inl ⟨by rfl, ?_⟩; intro w hSw; (try dsimp only at hSw); go_simp; all_goals with_reducible rfl)
      try simp only [Act.put, List.setIfInBounds_toArray, List.set_cons_zero, List.set_cons_succ]
      refine wpAnyH_take (i := 21) (oi := ?oir58_21) (v := ?vr58_21) ?hir58_21 (by kernel_rfl) (by kernel_rfl) (by kernel_rfl) ?hqr58_21 ?hyr58_21 (by assumption) ?restr58_21
      case hir58_21 => simp only [List.getElem?_toArray, List.getElem?_cons_succ, List.getElem?_cons_zero]; rfl
      case hqr58_21 => exact fun _ _ _ h => h
      case hyr58_21 => (refine Or.inl ⟨by rfl, ?_⟩; intro w hSw; (try dsimp only at hSw); go_simp; all_goals with_reducible rfl)
      try simp only [Act.put, List.setIfInBounds_toArray, List.set_cons_zero, List.set_cons_succ]
      refine wpAnyH_take (i := 22) (oi := ?oir58_22) (v := ?vr58_22) ?hir58_22 (by kernel_rfl) (by kernel_rfl) (by kernel_rfl) ?hqr58_22 ?hyr58_22 (by assumption) ?restr58_22
      case hir58_22 => simp only [List.getElem?_toArray, List.getElem?_cons_succ, List.getElem?_cons_zero]; rfl
      case hqr58_22 => exact fun _ _ _ h => h
      case hyr58_22 => (refine Or.inl ⟨by rfl, ?_⟩; intro w hSw; (try dsimp only at hSw); go_simp; all_goals with_reducible rfl)
      try simp only [Act.put, List.setIfInBounds_toArray, List.set_cons_zero, List.set_cons_succ]
      refine wpAnyH_take (i := 23) (oi := ?oir58_23) (v := ?vr58_23) ?hir58_23 (by kernel_rfl) (by kernel_rfl) (by kernel_rfl) ?hqr58_23 ?hyr58_23 (by assumption) ?restr58_23
      case hir58_23 => simp only [List.getElem?_toArray, List.getElem?_cons_succ, List.getElem?_cons_zero]; rfl
      case hqr58_23 => exact fun _ _ _ h => h
      case hyr58_23 => (refine Or.inl ⟨by rfl, ?_⟩; intro w hSw; (try dsimp only at hSw); go_simp; all_goals with_reducible rfl)
      try simp only [Act.put, List.setIfInBounds_toArray, List.set_cons_zero, List.set_cons_succ]
      refine wpAnyH_take (i := 24) (oi := ?oir58_24) (v := ?vr58_24) ?hir58_24 (by kernel_rfl) (by kernel_rfl) (by kernel_rfl) ?hqr58_24 ?hyr58_24 (by assumption) ?restr58_24
      case hir58_24 => simp only [List.getElem?_toArray, List.getElem?_cons_succ, List.getElem?_cons_zero]; rfl
      case hqr58_24 => exact fun _ _ _ h => h
      case hyr58_24 => (refine Or.inl ⟨by rfl, ?_⟩; intro w hSw; (try dsimp only at hSw); go_simp; all_goals with_reducible rfl)
      try simp only [Act.put, List.setIfInBounds_toArray, List.set_cons_zero, List.set_cons_succ]
      refine wpAnyH_take (i := 25) (oi := ?oir58_25) (v := ?vr58_25) ?hir58_25 (by kernel_rfl) (by kernel_rfl) (by kernel_rfl) ?hqr58_25 ?hyr58_25 (by assumption) ?restr58_25
      case hir58_25 => simp only [List.getElem?_toArray, List.getElem?_cons_succ, List.getElem?_cons_zero]; rfl
      case hqr58_25 => exact fun _ _ _ h => h
      case hyr58_25 => (refine Or.inl ⟨by rfl, ?_⟩; intro w hSw; (try dsimp only at hSw); go_simp; all_goals with_reducible rfl)
      try simp only [Act.put, List.setIfInBounds_toArray, List.set_cons_zero, List.set_cons_succ]
      refine wpAnyH_take (i := 26) (oi := ?oir58_26) (v := ?vr58_26) ?hir58_26 (by kernel_rfl) (by kernel_rfl) (by kernel_rfl) ?hqr58_26 ?hyr58_26 (by assumption) ?restr58_26
      case hir58_26 => simp only [List.getElem?_toArray, List.getElem?_cons_succ, List.getElem?_cons_zero]; rfl
      case hqr58_26 => exact fun _ _ _ h => h
      case hyr58_26 => (refine Or.inl ⟨by rfl, ?_⟩; intro w hSw; (try dsimp only at hSw); go_simp; all_goals with_reducible rfl)
      try simp only [Act.put, List.setIfInBounds_toArray, List.set_cons_zero, List.set_cons_succ]
      have SF := see_fact vld.out.may (x := (0 : Int)) (Y := 0) (by decide) (by decide) (by omega)
      rw [SF]
      clear SF
      refine wpAnyH_ready (rs := [27]) (by kernel_rfl) (by simp) ?_
      refine AllReadyH.cons (o := ?or59_27) ?hor59_27 (fun K hK => ?kr59_27) AllReadyH.nil
      case hor59_27 => simp only [List.getElem?_toArray, List.getElem?_cons_succ, List.getElem?_cons_zero]; rfl
      go_simp
      refine (Of_any w2 (factC q (0 : Int)) (fact_bd vld.out.may (by decide) (by decide)).1).mono ?_
      rintro e2 w3 ⟨af, nf, cf, rfl, yf, hb⟩
      have R1 := R1.later hb
      have ra1 := ra1.below hb
      have rb1 := rb1.below hb
      clear hb
      go_wp2_with fail
      refine hK.out _ _ ?_ (fun hHeld => ?_)
      · exact ⟨R1.cell 0 _ rfl, R1.cell 1 _ rfl, R1.cell 2 _ rfl, R1.cell 8 _ rfl⟩
      clear hK K
      try simp only [Act.put, List.setIfInBounds_toArray, List.set_cons_zero, List.set_cons_succ]
      refine wpAnyH_ready (rs := [28]) (by kernel_rfl) (by simp) ?_
      refine AllReadyH.cons (o := ?or60_28) ?hor60_28 (fun K hK => ?kr60_28) AllReadyH.nil
      case hor60_28 => simp only [List.getElem?_toArray, List.getElem?_cons_succ, List.getElem?_cons_zero]; rfl
      go_simp
      have cc := Mul_any w3 ra1 yf
      rw [mul_ok LP.out (Nat.lt_of_lt_of_le (show factC q (0 : Int) < pw 2 from (fact_bd vld.out.may (by decide) (by decide)).1) (pw_le (by decide))) LF.out] at cc
      refine cc.mono ?_
      rintro e2 w4 ⟨ax, nx, cx, rfl, yx, hb⟩
      clear cc
      have R1 := R1.later hb
      have ra1 := ra1.below hb
      have rb1 := rb1.below hb
      clear hb yf
      go_wp2_with fail
      refine hK.out _ _ ?_ (fun hHeld => ?_)
      · exact ⟨R1.cell 0 _ rfl, R1.cell 1 _ rfl, R1.cell 2 _ rfl, R1.cell 8 _ rfl⟩
      clear hK K
      try simp only [Act.put, List.setIfInBounds_toArray, List.set_cons_zero, List.set_cons_succ]
      refine wpAnyH_take (i := 29) (oi := ?oir61_29) (v := ?vr61_29) ?hir61_29 (by kernel_rfl) (by kernel_rfl) (by kernel_rfl) ?hqr61_29 ?hyr61_29 (by assumption) ?restr61_29
      case hir61_29 => simp only [List.getElem?_toArray, List.getElem?_cons_succ, List.getElem?_cons_zero]; rfl
      case hqr61_29 => exact fun _ _ _ h => h
      case hyr61_29 => (refine Or.inl ⟨by rfl, ?_⟩; intro w hSw; (try dsimp only at hSw); go_simp; all_goals with_reducible rfl)
      try simp only [Act.put, List.setIfInBounds_toArray, List.set_cons_zero, List.set_cons_succ]
      refine wpAnyH_take (i := 30) (oi := ?oir61_30) (v := ?vr61_30) ?hir61_30 (by kernel_rfl) (by kernel_rfl) (by kernel_rfl) ?hqr61_30 ?hyr61_30 (by assumption) ?restr61_30
      case hir61_30 => simp only [List.getElem?_toArray, List.getElem?_cons_succ, List.getElem?_cons_zero]; rfl
      case hqr61_30 => exact fun _ _ _ h => h
      case hyr61_30 => (refine Or.inl ⟨by rfl, ?_⟩; intro w hSw; (try dsimp only at hSw); go_simp; all_goals with_reducible rfl)
      try simp only [Act.put, List.setIfInBounds_toArray, List.set_cons_zero, List.set_cons_succ]
      refine wpAnyH_take (i := 31) (oi := ?oir61_31) (v := ?vr61_31) ?hir61_31 (by kernel_rfl) (by kernel_rfl) (by kernel_rfl) ?hqr61_31 ?hyr61_31 (by assumption) ?restr61_31
      case hir61_31 => simp only [List.getElem?_toArray, List.getElem?_cons_succ, List.getElem?_cons_zero]; rfl
      case hqr61_31 => exact fun _ _ _ h => h
      case hyr61_31 => (refine Or.inl ⟨by rfl, ?_⟩; intro w hSw; (try dsimp only at hSw); go_simp; all_goals with_reducible rfl)
      try simp only [Act.put, List.setIfInBounds_toArray, List.set_cons_zero, List.set_cons_succ]
      refine wpAnyH_take (i := 32) (oi := ?oir61_32) (v := ?vr61_32) ?hir61_32 (by kernel_rfl) (by kernel_rfl) (by kernel_rfl) ?hqr61_32 ?hyr61_32 (by assumption) ?restr61_32
      case hir61_32 => simp only [List.getElem?_toArray, List.getElem?_cons_succ, List.getElem?_cons_zero]; rfl
      case hqr61_32 => exact fun _ _ _ h => h
      case hyr61_32 => (refine Or.inl ⟨by rfl, ?_⟩; intro w hSw; (try dsimp only at hSw); go_simp; all_goals with_reducible rfl)
      try simp only [Act.put, List.setIfInBounds_toArray, List.set_cons_zero, List.set_cons_succ]
      refine wpAnyH_take (i := 33) (oi := ?oir61_33) (v := ?vr61_33) ?hir61_33 (by kernel_rfl) (by kernel_rfl) (by kernel_rfl) ?hqr61_33 ?hyr61_33 (by assumption) ?restr61_33
      case hir61_33 => simp only [List.getElem?_toArray, List.getElem?_cons_succ, List.getElem?_cons_zero]; rfl
      case hqr61_33 => exact fun _ _ _ h => h
      case hyr61_33 => (refine Or.inl ⟨by rfl, ?_⟩; intro w hSw; (try dsimp only at hSw); go_simp; all_goals with_reducible rfl)
      try simp only [Act.put, List.setIfInBounds_toArray, List.set_cons_zero, List.set_cons_succ]
      refine wpAnyH_done (by kernel_rfl) ?_ _
      clear hHeld
      have cW := see_whole vld.out.may
      go_wp2_with fail
      refine (Of_any w4 (wholeC q) (fact_bd vld.out.may (x := 0) (by decide) (by decide)).2).mono ?_
      rintro e2 w5 ⟨ay, ny, cy, rfl, yy, hb⟩
      have R1 := R1.later hb
      have ra1 := ra1.below hb
      have rb1 := rb1.below hb
      have yx := yx.below hb
      clear hb
      go_wp2_with fail
      have cc := Div_any w5 yx yy
      rw [div_ok LF.out (Nat.lt_of_lt_of_le (show wholeC q < pw 2 from (fact_bd vld.out.may (x := 0) (by decide) (by decide)).2) (pw_le (by decide))) (fact_whole vld.out.may).2] at cc
      refine cc.mono ?_
      rintro e2 w6 ⟨az, nz, cz, ar, nr, cr, rfl, yz, -, hb⟩
      clear cc
      have R1 := R1.later hb
      have ra1 := ra1.below hb
      have rb1 := rb1.below hb
      clear hb yx yy
      have fr8 := R1.free 8
      have k8 := R1.cell 8 _ rfl
      have R2 : PRow 66 wb (w6.setCell ⟨k, 8, none⟩ (.slice az nz cz)) k (cmC (bumpC q (0 : Int)) az nz cz b m d) := R1.set 8 (.slice az nz cz)
      have yz := rd_setcell (i := 8) yz R1.row (cm_noint _ _ _ _ _ _ _) (.slice az nz cz)
      have rb1 := rd_setcell (i := 8) rb1 R1.row (cm_noint _ _ _ _ _ _ _) (.slice az nz cz)
      clear ra1 R1
      go_upto_region 8 with fail
      clear fr8 k8 cW n1' n2'
      generalize w6.setCell ⟨k, 8, none⟩ (.slice az nz cz) = w7 at *
      by_cases hD : (L * factC q (0 : Int) / wholeC q) ≤ mostN
      · have NX := Lib.hid (show nextC q L (0 : Int) = (L * factC q (0 : Int) / wholeC q) by unfold nextC timesN; exact Nat.min_eq_left hD)
        have DL := Lib.hid (show leC (limbs (L * factC q (0 : Int) / wholeC q)) [0, 0, 0, 0, 1] = true by rw [← most_limbs, leC_ok (Nat.lt_of_le_of_lt hD most_pw) most_pw]; exact decide_eq_true hD)
        clear hD
        have hb := (Below.refl w7.heap.size w7).drew
        have R2 := R2.later hb
        have yz := yz.below hb
        have rb1 := rb1.below hb
        clear hb
        refine wp_region_held_drew (S := (fun w' => w'.cell? ⟨k, 8, none⟩ = some (.slice az nz cz) ∧ True)) (by kernel_rfl) ?_ (fun hHeld => ?_)
        · exact ⟨R2.cell 8 _ rfl, trivial⟩
        generalize w7.drew = w8 at *
        refine wpAnyH_take (i := 0) (oi := ?oir62_0) (v := ?vr62_0) ?hir62_0 (by kernel_rfl) (by kernel_rfl) (by kernel_rfl) ?hqr62_0 ?hyr62_0 (by assumption) ?restr62_0
        case hir62_0 => simp only [List.getElem?_toArray, List.getElem?_cons_succ, List.getElem?_cons_zero]; rfl
        case hqr62_0 => exact fun _ _ _ h => h
        case hyr62_0 => (refine Or.inl ⟨by rfl, ?_⟩; intro w hSw; (try dsimp only at hSw); go_simp; all_goals with_reducible rfl)
        try simp only [Act.put, List.setIfInBounds_toArray, List.set_cons_zero, List.set_cons_succ]
        refine wpAnyH_take (i := 1) (oi := ?oir62_1) (v := ?vr62_1) ?hir62_1 (by kernel_rfl) (by kernel_rfl) (by kernel_rfl) ?hqr62_1 ?hyr62_1 (by assumption) ?restr62_1
        case hir62_1 => simp only [List.getElem?_toArray, List.getElem?_cons_succ, List.getElem?_cons_zero]; rfl
        case hqr62_1 => exact fun _ _ _ h => h
        case hyr62_1 => (refine Or.inl ⟨by rfl, ?_⟩; intro w hSw; (try dsimp only at hSw); go_simp; all_goals with_reducible rfl)
        try simp only [Act.put, List.setIfInBounds_toArray, List.set_cons_zero, List.set_cons_succ]
        refine wpAnyH_take (i := 2) (oi := ?oir62_2) (v := ?vr62_2) ?hir62_2 (by kernel_rfl) (by kernel_rfl) (by kernel_rfl) ?hqr62_2 ?hyr62_2 (by assumption) ?restr62_2
        case hir62_2 => simp only [List.getElem?_toArray, List.getElem?_cons_succ, List.getElem?_cons_zero]; rfl
        case hqr62_2 => exact fun _ _ _ h => h
        case hyr62_2 => (refine Or.inl ⟨by rfl, ?_⟩; intro w hSw; (try dsimp only at hSw); go_simp; all_goals with_reducible rfl)
        try simp only [Act.put, List.setIfInBounds_toArray, List.set_cons_zero, List.set_cons_succ]
        refine wpAnyH_take (i := 3) (oi := ?oir62_3) (v := ?vr62_3) ?hir62_3 (by kernel_rfl) (by kernel_rfl) (by kernel_rfl) ?hqr62_3 ?hyr62_3 (by assumption) ?restr62_3
        case hir62_3 => simp only [List.getElem?_toArray, List.getElem?_cons_succ, List.getElem?_cons_zero]; rfl
        case hqr62_3 => exact fun _ _ _ h => h
        case hyr62_3 => (refine Or.inl ⟨by rfl, ?_⟩; intro w hSw; (try dsimp only at hSw); go_simp; all_goals with_reducible rfl)
        try simp only [Act.put, List.setIfInBounds_toArray, List.set_cons_zero, List.set_cons_succ]
        refine wpAnyH_take (i := 4) (oi := ?oir62_4) (v := ?vr62_4) ?hir62_4 (by kernel_rfl) (by kernel_rfl) (by kernel_rfl) ?hqr62_4 ?hyr62_4 (by assumption) ?restr62_4
        case hir62_4 => simp only [List.getElem?_toArray, List.getElem?_cons_succ, List.getElem?_cons_zero]; rfl
        case hqr62_4 => exact fun _ _ _ h => h
        case hyr62_4 => (refine Or.inl ⟨by rfl, ?_⟩; intro w hSw; (try dsimp only at hSw); go_simp; all_goals with_reducible rfl)
        try simp only [Act.put, List.setIfInBounds_toArray, List.set_cons_zero, List.set_cons_succ]
        refine wpAnyH_ready (rs := [5]) (by kernel_rfl) (by simp) ?_
        refine AllReadyH.cons (o := ?or63_5) ?hor63_5 (fun K hK => ?kr63_5) AllReadyH.nil
        case hor63_5 => simp only [List.getElem?_toArray, List.getElem?_cons_succ, List.getElem?_cons_zero]; rfl
        go_simp
        refine (cmMost_any w8).mono ?_
        rintro e2 w9 ⟨am, nm, cm, rfl, ym, hb⟩
        have R2 := R2.later hb
        have yz := yz.below hb
        have rb1 := rb1.below hb
        clear hb
        go_wp2_with fail
        refine hK.out _ _ ?_ (fun hHeld => ?_)
        · exact ⟨R2.cell 8 _ rfl, trivial⟩
        clear hK K
        try simp only [Act.put, List.setIfInBounds_toArray, List.set_cons_zero, List.set_cons_succ]
        refine wpAnyH_ready (rs := [6]) (by kernel_rfl) (by simp) ?_
        refine AllReadyH.cons (o := ?or64_6) ?hor64_6 (fun K hK => ?kr64_6) AllReadyH.nil
        case hor64_6 => simp only [List.getElem?_toArray, List.getElem?_cons_succ, List.getElem?_cons_zero]; rfl
        go_simp
        have cc := cmAtMost_any w9 yz ym
        rw [DL.out] at cc
        refine cc.mono ?_
        rintro e2 wA ⟨rfl, hb⟩
        clear cc
        have R2 := R2.later hb
        have yz := yz.below hb
        have rb1 := rb1.below hb
        clear hb ym
        go_wp2_with fail
        refine hK.out _ _ ?_ (fun hHeld => ?_)
        · exact ⟨R2.cell 8 _ rfl, trivial⟩
        clear hK K
        try simp only [Act.put, List.setIfInBounds_toArray, List.set_cons_zero, List.set_cons_succ]
        refine wpAnyH_take (i := 7) (oi := ?oir65_7) (v := ?vr65_7) ?hir65_7 (by kernel_rfl) (by kernel_rfl) (by kernel_rfl) ?hqr65_7 ?hyr65_7 (by assumption) ?restr65_7
        case hir65_7 => simp only [List.getElem?_toArray, List.getElem?_cons_succ, List.getElem?_cons_zero]; rfl
        case hqr65_7 => exact fun _ _ _ h => h
        case hyr65_7 => (refine Or.inl ⟨by rfl, ?_⟩; intro w hSw; (try dsimp only at hSw); go_simp; all_goals with_reducible rfl)
        try simp only [Act.put, List.setIfInBounds_toArray, List.set_cons_zero, List.set_cons_succ]
        refine wpAnyH_done (by kernel_rfl) ?_ _
        clear hHeld
        rw [← NX.out] at yz
        by_cases hB : nextC q L (0 : Int) ≤ B
        · have BL := Lib.hid (show leC (limbs (nextC q L (0 : Int))) (limbs B) = true by rw [leC_ok nextC_lt vld.out.pw.2]; exact decide_eq_true hB)
          have HB := Lib.hid hB
          clear hB
          go_upto_region 10 with fail
          have hb := (Below.refl wA.heap.size wA).drew
          have R2 := R2.later hb
          have yz := yz.below hb
          have rb1 := rb1.below hb
          clear hb
          refine wp_region_held_drew (S := (fun w' => w'.cell? ⟨k, 8, none⟩ = some (.slice az nz cz) ∧ w'.cell? ⟨k, 9, none⟩ = some (.slice b m d))) (by kernel_rfl) ?_ (fun hHeld => ?_)
          · exact ⟨R2.cell 8 _ rfl, R2.cell 9 _ rfl⟩
          generalize wA.drew = wD at *
          refine wpAnyH_take (i := 0) (oi := ?oir66_0) (v := ?vr66_0) ?hir66_0 (by kernel_rfl) (by kernel_rfl) (by kernel_rfl) ?hqr66_0 ?hyr66_0 (by assumption) ?restr66_0
          case hir66_0 => simp only [List.getElem?_toArray, List.getElem?_cons_succ, List.getElem?_cons_zero]; rfl
          case hqr66_0 => exact fun _ _ _ h => h
          case hyr66_0 => (refine Or.inl ⟨by rfl, ?_⟩; intro w hSw; (try dsimp only at hSw); go_simp; all_goals with_reducible rfl)
          try simp only [Act.put, List.setIfInBounds_toArray, List.set_cons_zero, List.set_cons_succ]
          refine wpAnyH_take (i := 1) (oi := ?oir66_1) (v := ?vr66_1) ?hir66_1 (by kernel_rfl) (by kernel_rfl) (by kernel_rfl) ?hqr66_1 ?hyr66_1 (by assumption) ?restr66_1
          case hir66_1 => simp only [List.getElem?_toArray, List.getElem?_cons_succ, List.getElem?_cons_zero]; rfl
          case hqr66_1 => exact fun _ _ _ h => h
          case hyr66_1 => (refine Or.inl ⟨by rfl, ?_⟩; intro w hSw; (try dsimp only at hSw); go_simp; all_goals with_reducible rfl)
          try simp only [Act.put, List.setIfInBounds_toArray, List.set_cons_zero, List.set_cons_succ]
          refine wpAnyH_take (i := 2) (oi := ?oir66_2) (v := ?vr66_2) ?hir66_2 (by kernel_rfl) (by kernel_rfl) (by kernel_rfl) ?hqr66_2 ?hyr66_2 (by assumption) ?restr66_2
          case hir66_2 => simp only [List.getElem?_toArray, List.getElem?_cons_succ, List.getElem?_cons_zero]; rfl
          case hqr66_2 => exact fun _ _ _ h => h
          case hyr66_2 => (refine Or.inl ⟨by rfl, ?_⟩; intro w hSw; (try dsimp only at hSw); go_simp; all_goals with_reducible rfl)
          try simp only [Act.put, List.setIfInBounds_toArray, List.set_cons_zero, List.set_cons_succ]
          refine wpAnyH_take (i := 3) (oi := ?oir66_3) (v := ?vr66_3) ?hir66_3 (by kernel_rfl) (by kernel_rfl) (by kernel_rfl) ?hqr66_3 ?hyr66_3 (by assumption) ?restr66_3
          case hir66_3 => simp only [List.getElem?_toArray, List.getElem?_cons_succ, List.getElem?_cons_zero]; rfl
          case hqr66_3 => exact fun _ _ _ h => h
          case hyr66_3 => (refine Or.inl ⟨by rfl, ?_⟩; intro w hSw; (try dsimp only at hSw); go_simp; all_goals with_reducible rfl)
          try simp only [Act.put, List.setIfInBounds_toArray, List.set_cons_zero, List.set_cons_succ]
          refine wpAnyH_take (i := 4) (oi := ?oir66_4) (v := ?vr66_4) ?hir66_4 (by kernel_rfl) (by kernel_rfl) (by kernel_rfl) ?hqr66_4 ?hyr66_4 (by assumption) ?restr66_4
          case hir66_4 => simp only [List.getElem?_toArray, List.getElem?_cons_succ, List.getElem?_cons_zero]; rfl
          case hqr66_4 => exact fun _ _ _ h => h
          case hyr66_4 => (refine Or.inl ⟨by rfl, ?_⟩; intro w hSw; (try dsimp only at hSw); go_simp; all_goals with_reducible rfl)
          try simp only [Act.put, List.setIfInBounds_toArray, List.set_cons_zero, List.set_cons_succ]
          refine wpAnyH_take (i := 5) (oi := ?oir66_5) (v := ?vr66_5) ?hir66_5 (by kernel_rfl) (by kernel_rfl) (by kernel_rfl) ?hqr66_5 ?hyr66_5 (by assumption) ?restr66_5
          case hir66_5 => simp only [List.getElem?_toArray, List.getElem?_cons_succ, List.getElem?_cons_zero]; rfl
          case hqr66_5 => exact fun _ _ _ h => h
          case hyr66_5 => (refine Or.inl ⟨by rfl, ?_⟩; intro w hSw; (try dsimp only at hSw); go_simp; all_goals with_reducible rfl)
          try simp only [Act.put, List.setIfInBounds_toArray, List.set_cons_zero, List.set_cons_succ]
          refine wpAnyH_take (i := 6) (oi := ?oir66_6) (v := ?vr66_6) ?hir66_6 (by kernel_rfl) (by kernel_rfl) (by kernel_rfl) ?hqr66_6 ?hyr66_6 (by assumption) ?restr66_6
          case hir66_6 => simp only [List.getElem?_toArray, List.getElem?_cons_succ, List.getElem?_cons_zero]; rfl
          case hqr66_6 => exact fun _ _ _ h => h
          case hyr66_6 => (refine Or.inl ⟨by rfl, ?_⟩; intro w hSw; (try dsimp only at hSw); go_simp; all_goals with_reducible rfl)
          try simp only [Act.put, List.setIfInBounds_toArray, List.set_cons_zero, List.set_cons_succ]
          refine wpAnyH_take (i := 7) (oi := ?oir66_7) (v := ?vr66_7) ?hir66_7 (by kernel_rfl) (by kernel_rfl) (by kernel_rfl) ?hqr66_7 ?hyr66_7 (by assumption) ?restr66_7
          case hir66_7 => simp only [List.getElem?_toArray, List.getElem?_cons_succ, List.getElem?_cons_zero]; rfl
          case hqr66_7 => exact fun _ _ _ h => h
          case hyr66_7 => (refine Or.inl ⟨by rfl, ?_⟩; intro w hSw; (try dsimp only at hSw); go_simp; all_goals with_reducible rfl)
          try simp only [Act.put, List.setIfInBounds_toArray, List.set_cons_zero, List.set_cons_succ]
          refine wpAnyH_take (i := 8) (oi := ?oir66_8) (v := ?vr66_8) ?hir66_8 (by kernel_rfl) (by kernel_rfl) (by kernel_rfl) ?hqr66_8 ?hyr66_8 (by assumption) ?restr66_8
          case hir66_8 => simp only [List.getElem?_toArray, List.getElem?_cons_succ, List.getElem?_cons_zero]; rfl
          case hqr66_8 => exact fun _ _ _ h => h
          case hyr66_8 => (refine Or.inl ⟨by rfl, ?_⟩; intro w hSw; (try dsimp only at hSw); go_simp; all_goals with_reducible rfl)
          try simp only [Act.put, List.setIfInBounds_toArray, List.set_cons_zero, List.set_cons_succ]
          refine wpAnyH_take (i := 9) (oi := ?oir66_9) (v := ?vr66_9) ?hir66_9 (by kernel_rfl) (by kernel_rfl) (by kernel_rfl) ?hqr66_9 ?hyr66_9 (by assumption) ?restr66_9
          case hir66_9 => simp only [List.getElem?_toArray, List.getElem?_cons_succ, List.getElem?_cons_zero]; rfl
          case hqr66_9 => exact fun _ _ _ h => h
          case hyr66_9 => (refine Or.inl ⟨by rfl, ?_⟩; intro w hSw; (try dsimp only at hSw); go_simp; all_goals with_reducible rfl)
          try simp only [Act.put, List.setIfInBounds_toArray, List.set_cons_zero, List.set_cons_succ]
          refine wpAnyH_ready (rs := [10]) (by kernel_rfl) (by simp) ?_
          refine AllReadyH.cons (o := ?or67_10) ?hor67_10 (fun K hK => ?kr67_10) AllReadyH.nil
          case hor67_10 => simp only [List.getElem?_toArray, List.getElem?_cons_succ, List.getElem?_cons_zero]; rfl
          go_simp
          have cc := cmAtMost_any wD yz rb1
          rw [BL.out] at cc
          refine cc.mono ?_
          rintro e2 wE ⟨rfl, hb⟩
          clear cc
          have R2 := R2.later hb
          have yz := yz.below hb
          have rb1 := rb1.below hb
          clear hb
          go_wp2_with fail
          refine hK.out _ _ ?_ (fun hHeld => ?_)
          · exact ⟨R2.cell 8 _ rfl, R2.cell 9 _ rfl⟩
          clear hK K
          try simp only [Act.put, List.setIfInBounds_toArray, List.set_cons_zero, List.set_cons_succ]
          refine wpAnyH_take (i := 11) (oi := ?oir68_11) (v := ?vr68_11) ?hir68_11 (by kernel_rfl) (by kernel_rfl) (by kernel_rfl) ?hqr68_11 ?hyr68_11 (by assumption) ?restr68_11
          case hir68_11 => simp only [List.getElem?_toArray, List.getElem?_cons_succ, List.getElem?_cons_zero]; rfl
          case hqr68_11 => exact fun _ _ _ h => h
          case hyr68_11 => (refine Or.inl ⟨by rfl, ?_⟩; intro w hSw; (try dsimp only at hSw); go_simp; all_goals with_reducible rfl)
          try simp only [Act.put, List.setIfInBounds_toArray, List.set_cons_zero, List.set_cons_succ]
          refine wpAnyH_done (by kernel_rfl) ?_ _
          clear hHeld
          go_wp2_with fail
          go_ret
          refine .inr ⟨_, _, _, _, _, _, e.out, rfl, R2, ?_, ?_⟩
          · rw [(show (stepC q (0 : Int)).lev = limbs (nextC q L (0 : Int)) by show limbs (nextC q (val q.lev) (0 : Int)) = _; rw [vld.out.lev, val_limbs])]; exact yz
          · rw [(show (stepC q (0 : Int)).best = limbs B by show limbs (max (val q.best) (nextC q (val q.lev) (0 : Int))) = _; rw [vld.out.lev, vld.out.best, val_limbs, val_limbs, Nat.max_eq_left HB.out])]; exact rb1
        · have BL := Lib.hid (show leC (limbs (nextC q L (0 : Int))) (limbs B) = false by rw [leC_ok nextC_lt vld.out.pw.2]; exact decide_eq_false hB)
          have HB := Lib.hid hB
          clear hB
          go_upto_region 10 with fail
          have hb := (Below.refl wA.heap.size wA).drew
          have R2 := R2.later hb
          have yz := yz.below hb
          have rb1 := rb1.below hb
          clear hb
          refine wp_region_held_drew (S := (fun w' => w'.cell? ⟨k, 8, none⟩ = some (.slice az nz cz) ∧ w'.cell? ⟨k, 9, none⟩ = some (.slice b m d))) (by kernel_rfl) ?_ (fun hHeld => ?_)
          · exact ⟨R2.cell 8 _ rfl, R2.cell 9 _ rfl⟩
          generalize wA.drew = wD at *
          refine wpAnyH_take (i := 0) (oi := ?oir69_0) (v := ?vr69_0) ?hir69_0 (by kernel_rfl) (by kernel_rfl) (by kernel_rfl) ?hqr69_0 ?hyr69_0 (by assumption) ?restr69_0
          case hir69_0 => simp only [List.getElem?_toArray, List.getElem?_cons_succ, List.getElem?_cons_zero]; rfl
          case hqr69_0 => exact fun _ _ _ h => h
          case hyr69_0 => (refine Or.inl ⟨by rfl, ?_⟩; intro w hSw; (try dsimp only at hSw); go_simp; all_goals with_reducible rfl)
          try simp only [Act.put, List.setIfInBounds_toArray, List.set_cons_zero, List.set_cons_succ]
          refine wpAnyH_take (i := 1) (oi := ?oir69_1) (v := ?vr69_1) ?hir69_1 (by kernel_rfl) (by kernel_rfl) (by kernel_rfl) ?hqr69_1 ?hyr69_1 (by assumption) ?restr69_1
          case hir69_1 => simp only [List.getElem?_toArray, List.getElem?_cons_succ, List.getElem?_cons_zero]; rfl
          case hqr69_1 => exact fun _ _ _ h => h
          case hyr69_1 => (refine Or.inl ⟨by rfl, ?_⟩; intro w hSw; (try dsimp only at hSw); go_simp; all_goals with_reducible rfl)
          try simp only [Act.put, List.setIfInBounds_toArray, List.set_cons_zero, List.set_cons_succ]
          refine wpAnyH_take (i := 2) (oi := ?oir69_2) (v := ?vr69_2) ?hir69_2 (by kernel_rfl) (by kernel_rfl) (by kernel_rfl) ?hqr69_2 ?hyr69_2 (by assumption) ?restr69_2
          case hir69_2 => simp only [List.getElem?_toArray, List.getElem?_cons_succ, List.getElem?_cons_zero]; rfl
          case hqr69_2 => exact fun _ _ _ h => h
          case hyr69_2 => (refine Or.inl ⟨by rfl, ?_⟩; intro w hSw; (try dsimp only at hSw); go_simp; all_goals with_reducible rfl)
          try simp only [Act.put, List.setIfInBounds_toArray, List.set_cons_zero, List.set_cons_succ]
          refine wpAnyH_take (i := 3) (oi := ?oir69_3) (v := ?vr69_3) ?hir69_3 (by kernel_rfl) (by kernel_rfl) (by kernel_rfl) ?hqr69_3 ?hyr69_3 (by assumption) ?restr69_3
          case hir69_3 => simp only [List.getElem?_toArray, List.getElem?_cons_succ, List.getElem?_cons_zero]; rfl
          case hqr69_3 => exact fun _ _ _ h => h
          case hyr69_3 => (refine Or.inl ⟨by rfl, ?_⟩; intro w hSw; (try dsimp only at hSw); go_simp; all_goals with_reducible rfl)
          try simp only [Act.put, List.setIfInBounds_toArray, List.set_cons_zero, List.set_cons_succ]
          refine wpAnyH_take (i := 4) (oi := ?oir69_4) (v := ?vr69_4) ?hir69_4 (by kernel_rfl) (by kernel_rfl) (by kernel_rfl) ?hqr69_4 ?hyr69_4 (by assumption) ?restr69_4
          case hir69_4 => simp only [List.getElem?_toArray, List.getElem?_cons_succ, List.getElem?_cons_zero]; rfl
          case hqr69_4 => exact fun _ _ _ h => h
          case hyr69_4 => (refine Or.inl ⟨by rfl, ?_⟩; intro w hSw; (try dsimp only at hSw); go_simp; all_goals with_reducible rfl)
          try simp only [Act.put, List.setIfInBounds_toArray, List.set_cons_zero, List.set_cons_succ]
          refine wpAnyH_take (i := 5) (oi := ?oir69_5) (v := ?vr69_5) ?hir69_5 (by kernel_rfl) (by kernel_rfl) (by kernel_rfl) ?hqr69_5 ?hyr69_5 (by assumption) ?restr69_5
          case hir69_5 => simp only [List.getElem?_toArray, List.getElem?_cons_succ, List.getElem?_cons_zero]; rfl
          case hqr69_5 => exact fun _ _ _ h => h
          case hyr69_5 => (refine Or.inl ⟨by rfl, ?_⟩; intro w hSw; (try dsimp only at hSw); go_simp; all_goals with_reducible rfl)
          try simp only [Act.put, List.setIfInBounds_toArray, List.set_cons_zero, List.set_cons_succ]
          refine wpAnyH_take (i := 6) (oi := ?oir69_6) (v := ?vr69_6) ?hir69_6 (by kernel_rfl) (by kernel_rfl) (by kernel_rfl) ?hqr69_6 ?hyr69_6 (by assumption) ?restr69_6
          case hir69_6 => simp only [List.getElem?_toArray, List.getElem?_cons_succ, List.getElem?_cons_zero]; rfl
          case hqr69_6 => exact fun _ _ _ h => h
          case hyr69_6 => (refine Or.inl ⟨by rfl, ?_⟩; intro w hSw; (try dsimp only at hSw); go_simp; all_goals with_reducible rfl)
          try simp only [Act.put, List.setIfInBounds_toArray, List.set_cons_zero, List.set_cons_succ]
          refine wpAnyH_take (i := 7) (oi := ?oir69_7) (v := ?vr69_7) ?hir69_7 (by kernel_rfl) (by kernel_rfl) (by kernel_rfl) ?hqr69_7 ?hyr69_7 (by assumption) ?restr69_7
          case hir69_7 => simp only [List.getElem?_toArray, List.getElem?_cons_succ, List.getElem?_cons_zero]; rfl
          case hqr69_7 => exact fun _ _ _ h => h
          case hyr69_7 => (refine Or.inl ⟨by rfl, ?_⟩; intro w hSw; (try dsimp only at hSw); go_simp; all_goals with_reducible rfl)
          try simp only [Act.put, List.setIfInBounds_toArray, List.set_cons_zero, List.set_cons_succ]
          refine wpAnyH_take (i := 8) (oi := ?oir69_8) (v := ?vr69_8) ?hir69_8 (by kernel_rfl) (by kernel_rfl) (by kernel_rfl) ?hqr69_8 ?hyr69_8 (by assumption) ?restr69_8
          case hir69_8 => simp only [List.getElem?_toArray, List.getElem?_cons_succ, List.getElem?_cons_zero]; rfl
          case hqr69_8 => exact fun _ _ _ h => h
          case hyr69_8 => (refine Or.inl ⟨by rfl, ?_⟩; intro w hSw; (try dsimp only at hSw); go_simp; all_goals with_reducible rfl)
          try simp only [Act.put, List.setIfInBounds_toArray, List.set_cons_zero, List.set_cons_succ]
          refine wpAnyH_take (i := 9) (oi := ?oir69_9) (v := ?vr69_9) ?hir69_9 (by kernel_rfl) (by kernel_rfl) (by kernel_rfl) ?hqr69_9 ?hyr69_9 (by assumption) ?restr69_9
          case hir69_9 => simp only [List.getElem?_toArray, List.getElem?_cons_succ, List.getElem?_cons_zero]; rfl
          case hqr69_9 => exact fun _ _ _ h => h
          case hyr69_9 => (refine Or.inl ⟨by rfl, ?_⟩; intro w hSw; (try dsimp only at hSw); go_simp; all_goals with_reducible rfl)
          try simp only [Act.put, List.setIfInBounds_toArray, List.set_cons_zero, List.set_cons_succ]
          refine wpAnyH_ready (rs := [10]) (by kernel_rfl) (by simp) ?_
          refine AllReadyH.cons (o := ?or70_10) ?hor70_10 (fun K hK => ?kr70_10) AllReadyH.nil
          case hor70_10 => simp only [List.getElem?_toArray, List.getElem?_cons_succ, List.getElem?_cons_zero]; rfl
          go_simp
          have cc := cmAtMost_any wD yz rb1
          rw [BL.out] at cc
          refine cc.mono ?_
          rintro e2 wE ⟨rfl, hb⟩
          clear cc
          have R2 := R2.later hb
          have yz := yz.below hb
          have rb1 := rb1.below hb
          clear hb
          go_wp2_with fail
          refine hK.out _ _ ?_ (fun hHeld => ?_)
          · exact ⟨R2.cell 8 _ rfl, R2.cell 9 _ rfl⟩
          clear hK K
          try simp only [Act.put, List.setIfInBounds_toArray, List.set_cons_zero, List.set_cons_succ]
          refine wpAnyH_take (i := 11) (oi := ?oir71_11) (v := ?vr71_11) ?hir71_11 (by kernel_rfl) (by kernel_rfl) (by kernel_rfl) ?hqr71_11 ?hyr71_11 (by assumption) ?restr71_11
          case hir71_11 => simp only [List.getElem?_toArray, List.getElem?_cons_succ, List.getElem?_cons_zero]; rfl
          case hqr71_11 => exact fun _ _ _ h => h
          case hyr71_11 => (refine Or.inl ⟨by rfl, ?_⟩; intro w hSw; (try dsimp only at hSw); go_simp; all_goals with_reducible rfl)
          try simp only [Act.put, List.setIfInBounds_toArray, List.set_cons_zero, List.set_cons_succ]
          refine wpAnyH_done (by kernel_rfl) ?_ _
          clear hHeld
          have k8 : wE.cell? ⟨k, 8, none⟩ = some (.slice az nz cz) := R2.cell 8 _ rfl
          go_wp2_with fail
          refine (Clone_any wE yz (by have h1 := yz.len; have h2 := limbs_len_le (k := 96) (show nextC q L (0 : Int) < pw 96 from Nat.lt_of_le_of_lt (Nat.min_le_right _ _) most_pw); omega)).mono ?_
          rintro e2 wF ⟨ak, nk, ck, rfl, yk, hb⟩
          have R2 := R2.later hb
          have yz := yz.below hb
          have rb1 := rb1.below hb
          clear hb k8
          have fr9 := R2.free 9
          have k9 := R2.cell 9 _ rfl
          have R4 : PRow 66 wb (wF.setCell ⟨k, 9, none⟩ (.slice ak nk ck)) k (cmC (bumpC q (0 : Int)) az nz cz ak nk ck) := R2.set 9 (.slice ak nk ck)
          have yk := rd_setcell (i := 9) yk R2.row (cm_noint _ _ _ _ _ _ _) (.slice ak nk ck)
          have yl := rd_setcell (i := 9) yz R2.row (cm_noint _ _ _ _ _ _ _) (.slice ak nk ck)
          go_wp2_with fail
          go_ret
          refine .inr ⟨_, _, _, _, _, _, e.out, rfl, R4, ?_, ?_⟩
          · rw [(show (stepC q (0 : Int)).lev = limbs (nextC q L (0 : Int)) by show limbs (nextC q (val q.lev) (0 : Int)) = _; rw [vld.out.lev, val_limbs])]; exact yl
          · rw [(show (stepC q (0 : Int)).best = limbs (nextC q L (0 : Int)) by show limbs (max (val q.best) (nextC q (val q.lev) (0 : Int))) = _; rw [vld.out.lev, vld.out.best, val_limbs, val_limbs, Nat.max_eq_right (Nat.le_of_lt (Nat.lt_of_not_le HB.out))])]; exact yk
      · have NX := Lib.hid (show nextC q L (0 : Int) = mostN by unfold nextC timesN; exact Nat.min_eq_right (Nat.le_of_lt (Nat.lt_of_not_le hD)))
        have DL := Lib.hid (show leC (limbs (L * factC q (0 : Int) / wholeC q)) [0, 0, 0, 0, 1] = false by rw [← most_limbs, leC_ok (Nat.lt_of_le_of_lt (Nat.div_le_self _ _) LF.out) most_pw]; exact decide_eq_false hD)
        clear hD
        have hb := (Below.refl w7.heap.size w7).drew
        have R2 := R2.later hb
        have yz := yz.below hb
        have rb1 := rb1.below hb
        clear hb
        refine wp_region_held_drew (S := (fun w' => w'.cell? ⟨k, 8, none⟩ = some (.slice az nz cz) ∧ True)) (by kernel_rfl) ?_ (fun hHeld => ?_)
        · exact ⟨R2.cell 8 _ rfl, trivial⟩
        generalize w7.drew = w8 at *
        refine wpAnyH_take (i := 0) (oi := ?oir72_0) (v := ?vr72_0) ?hir72_0 (by kernel_rfl) (by kernel_rfl) (by kernel_rfl) ?hqr72_0 ?hyr72_0 (by assumption) ?restr72_0
        case hir72_0 => simp only [List.getElem?_toArray, List.getElem?_cons_succ, List.getElem?_cons_zero]; rfl
        case hqr72_0 => exact fun _ _ _ h => h
        case hyr72_0 => (refine Or.inl ⟨by rfl, ?_⟩; intro w hSw; (try dsimp only at hSw); go_simp; all_goals with_reducible rfl)
        try simp only [Act.put, List.setIfInBounds_toArray, List.set_cons_zero, List.set_cons_succ]
        refine wpAnyH_take (i := 1) (oi := ?oir72_1) (v := ?vr72_1) ?hir72_1 (by kernel_rfl) (by kernel_rfl) (by kernel_rfl) ?hqr72_1 ?hyr72_1 (by assumption) ?restr72_1
        case hir72_1 => simp only [List.getElem?_toArray, List.getElem?_cons_succ, List.getElem?_cons_zero]; rfl
        case hqr72_1 => exact fun _ _ _ h => h
        case hyr72_1 => (refine Or.inl ⟨by rfl, ?_⟩; intro w hSw; (try dsimp only at hSw); go_simp; all_goals with_reducible rfl)
        try simp only [Act.put, List.setIfInBounds_toArray, List.set_cons_zero, List.set_cons_succ]
        refine wpAnyH_take (i := 2) (oi := ?oir72_2) (v := ?vr72_2) ?hir72_2 (by kernel_rfl) (by kernel_rfl) (by kernel_rfl) ?hqr72_2 ?hyr72_2 (by assumption) ?restr72_2
        case hir72_2 => simp only [List.getElem?_toArray, List.getElem?_cons_succ, List.getElem?_cons_zero]; rfl
        case hqr72_2 => exact fun _ _ _ h => h
        case hyr72_2 => (refine Or.inl ⟨by rfl, ?_⟩; intro w hSw; (try dsimp only at hSw); go_simp; all_goals with_reducible rfl)
        try simp only [Act.put, List.setIfInBounds_toArray, List.set_cons_zero, List.set_cons_succ]
        refine wpAnyH_take (i := 3) (oi := ?oir72_3) (v := ?vr72_3) ?hir72_3 (by kernel_rfl) (by kernel_rfl) (by kernel_rfl) ?hqr72_3 ?hyr72_3 (by assumption) ?restr72_3
        case hir72_3 => simp only [List.getElem?_toArray, List.getElem?_cons_succ, List.getElem?_cons_zero]; rfl
        case hqr72_3 => exact fun _ _ _ h => h
        case hyr72_3 => (refine Or.inl ⟨by rfl, ?_⟩; intro w hSw; (try dsimp only at hSw); go_simp; all_goals with_reducible rfl)
        try simp only [Act.put, List.setIfInBounds_toArray, List.set_cons_zero, List.set_cons_succ]
        refine wpAnyH_take (i := 4) (oi := ?oir72_4) (v := ?vr72_4) ?hir72_4 (by kernel_rfl) (by kernel_rfl) (by kernel_rfl) ?hqr72_4 ?hyr72_4 (by assumption) ?restr72_4
        case hir72_4 => simp only [List.getElem?_toArray, List.getElem?_cons_succ, List.getElem?_cons_zero]; rfl
        case hqr72_4 => exact fun _ _ _ h => h
        case hyr72_4 => (refine Or.inl ⟨by rfl, ?_⟩; intro w hSw; (try dsimp only at hSw); go_simp; all_goals with_reducible rfl)
        try simp only [Act.put, List.setIfInBounds_toArray, List.set_cons_zero, List.set_cons_succ]
        refine wpAnyH_ready (rs := [5]) (by kernel_rfl) (by simp) ?_
        refine AllReadyH.cons (o := ?or73_5) ?hor73_5 (fun K hK => ?kr73_5) AllReadyH.nil
        case hor73_5 => simp only [List.getElem?_toArray, List.getElem?_cons_succ, List.getElem?_cons_zero]; rfl
        go_simp
        refine (cmMost_any w8).mono ?_
        rintro e2 w9 ⟨am, nm, cm, rfl, ym, hb⟩
        have R2 := R2.later hb
        have yz := yz.below hb
        have rb1 := rb1.below hb
        clear hb
        go_wp2_with fail
        refine hK.out _ _ ?_ (fun hHeld => ?_)
        · exact ⟨R2.cell 8 _ rfl, trivial⟩
        clear hK K
        try simp only [Act.put, List.setIfInBounds_toArray, List.set_cons_zero, List.set_cons_succ]
        refine wpAnyH_ready (rs := [6]) (by kernel_rfl) (by simp) ?_
        refine AllReadyH.cons (o := ?or74_6) ?hor74_6 (fun K hK => ?kr74_6) AllReadyH.nil
        case hor74_6 => simp only [List.getElem?_toArray, List.getElem?_cons_succ, List.getElem?_cons_zero]; rfl
        go_simp
        have cc := cmAtMost_any w9 yz ym
        rw [DL.out] at cc
        refine cc.mono ?_
        rintro e2 wA ⟨rfl, hb⟩
        clear cc
        have R2 := R2.later hb
        have yz := yz.below hb
        have rb1 := rb1.below hb
        clear hb ym
        go_wp2_with fail
        refine hK.out _ _ ?_ (fun hHeld => ?_)
        · exact ⟨R2.cell 8 _ rfl, trivial⟩
        clear hK K
        try simp only [Act.put, List.setIfInBounds_toArray, List.set_cons_zero, List.set_cons_succ]
        refine wpAnyH_take (i := 7) (oi := ?oir75_7) (v := ?vr75_7) ?hir75_7 (by kernel_rfl) (by kernel_rfl) (by kernel_rfl) ?hqr75_7 ?hyr75_7 (by assumption) ?restr75_7
        case hir75_7 => simp only [List.getElem?_toArray, List.getElem?_cons_succ, List.getElem?_cons_zero]; rfl
        case hqr75_7 => exact fun _ _ _ h => h
        case hyr75_7 => (refine Or.inl ⟨by rfl, ?_⟩; intro w hSw; (try dsimp only at hSw); go_simp; all_goals with_reducible rfl)
        try simp only [Act.put, List.setIfInBounds_toArray, List.set_cons_zero, List.set_cons_succ]
        refine wpAnyH_done (by kernel_rfl) ?_ _
        clear hHeld
        go_wp2_with fail
        refine (cmMost_any wA).mono ?_
        rintro e2 wB ⟨as', ns', cs', rfl, ys, hb⟩
        have R2 := R2.later hb
        have yz := yz.below hb
        have rb1 := rb1.below hb
        clear hb
        have fr8 := R2.free 8
        have k8 := R2.cell 8 _ rfl
        have R3 : PRow 66 wb (wB.setCell ⟨k, 8, none⟩ (.slice as' ns' cs')) k (cmC (bumpC q (0 : Int)) as' ns' cs' b m d) := R2.set 8 (.slice as' ns' cs')
        have ys := rd_setcell (i := 8) ys R2.row (cm_noint _ _ _ _ _ _ _) (.slice as' ns' cs')
        have rb1 := rd_setcell (i := 8) rb1 R2.row (cm_noint _ _ _ _ _ _ _) (.slice as' ns' cs')
        clear R2 yz
        rw [← most_limbs, ← NX.out] at ys
        go_upto_region 10 with fail
        clear fr8 k8
        generalize wB.setCell ⟨k, 8, none⟩ (.slice as' ns' cs') = wC at *
        by_cases hB : nextC q L (0 : Int) ≤ B
        · have BL := Lib.hid (show leC (limbs (nextC q L (0 : Int))) (limbs B) = true by rw [leC_ok nextC_lt vld.out.pw.2]; exact decide_eq_true hB)
          have HB := Lib.hid hB
          clear hB
          have hb := (Below.refl wC.heap.size wC).drew
          have R3 := R3.later hb
          have ys := ys.below hb
          have rb1 := rb1.below hb
          clear hb
          refine wp_region_held_drew (S := (fun w' => w'.cell? ⟨k, 8, none⟩ = some (.slice as' ns' cs') ∧ w'.cell? ⟨k, 9, none⟩ = some (.slice b m d))) (by kernel_rfl) ?_ (fun hHeld => ?_)
          · exact ⟨R3.cell 8 _ rfl, R3.cell 9 _ rfl⟩
          generalize wC.drew = wD at *
          refine wpAnyH_take (i := 0) (oi := ?oir76_0) (v := ?vr76_0) ?hir76_0 (by kernel_rfl) (by kernel_rfl) (by kernel_rfl) ?hqr76_0 ?hyr76_0 (by assumption) ?restr76_0
          case hir76_0 => simp only [List.getElem?_toArray, List.getElem?_cons_succ, List.getElem?_cons_zero]; rfl
          case hqr76_0 => exact fun _ _ _ h => h
          case hyr76_0 => (refine Or.inl ⟨by rfl, ?_⟩; intro w hSw; (try dsimp only at hSw); go_simp; all_goals with_reducible rfl)
          try simp only [Act.put, List.setIfInBounds_toArray, List.set_cons_zero, List.set_cons_succ]
          refine wpAnyH_take (i := 1) (oi := ?oir76_1) (v := ?vr76_1) ?hir76_1 (by kernel_rfl) (by kernel_rfl) (by kernel_rfl) ?hqr76_1 ?hyr76_1 (by assumption) ?restr76_1
          case hir76_1 => simp only [List.getElem?_toArray, List.getElem?_cons_succ, List.getElem?_cons_zero]; rfl
          case hqr76_1 => exact fun _ _ _ h => h
          case hyr76_1 => (refine Or.inl ⟨by rfl, ?_⟩; intro w hSw; (try dsimp only at hSw); go_simp; all_goals with_reducible rfl)
          try simp only [Act.put, List.setIfInBounds_toArray, List.set_cons_zero, List.set_cons_succ]
          refine wpAnyH_take (i := 2) (oi := ?oir76_2) (v := ?vr76_2) ?hir76_2 (by kernel_rfl) (by kernel_rfl) (by kernel_rfl) ?hqr76_2 ?hyr76_2 (by assumption) ?restr76_2
          case hir76_2 => simp only [List.getElem?_toArray, List.getElem?_cons_succ, List.getElem?_cons_zero]; rfl
          case hqr76_2 => exact fun _ _ _ h => h
          case hyr76_2 => (refine Or.inl ⟨by rfl, ?_⟩; intro w hSw; (try dsimp only at hSw); go_simp; all_goals with_reducible rfl)
          try simp only [Act.put, List.setIfInBounds_toArray, List.set_cons_zero, List.set_cons_succ]
          refine wpAnyH_take (i := 3) (oi := ?oir76_3) (v := ?vr76_3) ?hir76_3 (by kernel_rfl) (by kernel_rfl) (by kernel_rfl) ?hqr76_3 ?hyr76_3 (by assumption) ?restr76_3
          case hir76_3 => simp only [List.getElem?_toArray, List.getElem?_cons_succ, List.getElem?_cons_zero]; rfl
          case hqr76_3 => exact fun _ _ _ h => h
          case hyr76_3 => (refine Or.inl ⟨by rfl, ?_⟩; intro w hSw; (try dsimp only at hSw); go_simp; all_goals with_reducible rfl)
          try simp only [Act.put, List.setIfInBounds_toArray, List.set_cons_zero, List.set_cons_succ]
          refine wpAnyH_take (i := 4) (oi := ?oir76_4) (v := ?vr76_4) ?hir76_4 (by kernel_rfl) (by kernel_rfl) (by kernel_rfl) ?hqr76_4 ?hyr76_4 (by assumption) ?restr76_4
          case hir76_4 => simp only [List.getElem?_toArray, List.getElem?_cons_succ, List.getElem?_cons_zero]; rfl
          case hqr76_4 => exact fun _ _ _ h => h
          case hyr76_4 => (refine Or.inl ⟨by rfl, ?_⟩; intro w hSw; (try dsimp only at hSw); go_simp; all_goals with_reducible rfl)
          try simp only [Act.put, List.setIfInBounds_toArray, List.set_cons_zero, List.set_cons_succ]
          refine wpAnyH_take (i := 5) (oi := ?oir76_5) (v := ?vr76_5) ?hir76_5 (by kernel_rfl) (by kernel_rfl) (by kernel_rfl) ?hqr76_5 ?hyr76_5 (by assumption) ?restr76_5
          case hir76_5 => simp only [List.getElem?_toArray, List.getElem?_cons_succ, List.getElem?_cons_zero]; rfl
          case hqr76_5 => exact fun _ _ _ h => h
          case hyr76_5 => (refine Or.inl ⟨by rfl, ?_⟩; intro w hSw; (try dsimp only at hSw); go_simp; all_goals with_reducible rfl)
          try simp only [Act.put, List.setIfInBounds_toArray, List.set_cons_zero, List.set_cons_succ]
          refine wpAnyH_take (i := 6) (oi := ?oir76_6) (v := ?vr76_6) ?hir76_6 (by kernel_rfl) (by kernel_rfl) (by kernel_rfl) ?hqr76_6 ?hyr76_6 (by assumption) ?restr76_6
          case hir76_6 => simp only [List.getElem?_toArray, List.getElem?_cons_succ, List.getElem?_cons_zero]; rfl
          case hqr76_6 => exact fun _ _ _ h => h
          case hyr76_6 => (refine Or.inl ⟨by rfl, ?_⟩; intro w hSw; (try dsimp only at hSw); go_simp; all_goals with_reducible rfl)
          try simp only [Act.put, List.setIfInBounds_toArray, List.set_cons_zero, List.set_cons_succ]
          refine wpAnyH_take (i := 7) (oi := ?oir76_7) (v := ?vr76_7) ?hir76_7 (by kernel_rfl) (by kernel_rfl) (by kernel_rfl) ?hqr76_7 ?hyr76_7 (by assumption) ?restr76_7
          case hir76_7 => simp only [List.getElem?_toArray, List.getElem?_cons_succ, List.getElem?_cons_zero]; rfl
          case hqr76_7 => exact fun _ _ _ h => h
          case hyr76_7 => (refine Or.inl ⟨by rfl, ?_⟩; intro w hSw; (try dsimp only at hSw); go_simp; all_goals with_reducible rfl)
          try simp only [Act.put, List.setIfInBounds_toArray, List.set_cons_zero, List.set_cons_succ]
          refine wpAnyH_take (i := 8) (oi := ?oir76_8) (v := ?vr76_8) ?hir76_8 (by kernel_rfl) (by kernel_rfl) (by kernel_rfl) ?hqr76_8 ?hyr76_8 (by assumption) ?restr76_8
          case hir76_8 => simp only [List.getElem?_toArray, List.getElem?_cons_succ, List.getElem?_cons_zero]; rfl
          case hqr76_8 => exact fun _ _ _ h => h
          case hyr76_8 => (refine Or.inl ⟨by rfl, ?_⟩; intro w hSw; (try dsimp only at hSw); go_simp; all_goals with_reducible rfl)
          try simp only [Act.put, List.setIfInBounds_toArray, List.set_cons_zero, List.set_cons_succ]
          refine wpAnyH_take (i := 9) (oi := ?oir76_9) (v := ?vr76_9) ?hir76_9 (by kernel_rfl) (by kernel_rfl) (by kernel_rfl) ?hqr76_9 ?hyr76_9 (by assumption) ?restr76_9
          case hir76_9 => simp only [List.getElem?_toArray, List.getElem?_cons_succ, List.getElem?_cons_zero]; rfl
          case hqr76_9 => exact fun _ _ _ h => h
          case hyr76_9 => (refine Or.inl ⟨by rfl, ?_⟩; intro w hSw; (try dsimp only at hSw); go_simp; all_goals with_reducible rfl)
          try simp only [Act.put, List.setIfInBounds_toArray, List.set_cons_zero, List.set_cons_succ]
          refine wpAnyH_ready (rs := [10]) (by kernel_rfl) (by simp) ?_
          refine AllReadyH.cons (o := ?or77_10) ?hor77_10 (fun K hK => ?kr77_10) AllReadyH.nil
          case hor77_10 => simp only [List.getElem?_toArray, List.getElem?_cons_succ, List.getElem?_cons_zero]; rfl
          go_simp
          have cc := cmAtMost_any wD ys rb1
          rw [BL.out] at cc
          refine cc.mono ?_
          rintro e2 wE ⟨rfl, hb⟩
          clear cc
          have R3 := R3.later hb
          have ys := ys.below hb
          have rb1 := rb1.below hb
          clear hb
          go_wp2_with fail
          refine hK.out _ _ ?_ (fun hHeld => ?_)
          · exact ⟨R3.cell 8 _ rfl, R3.cell 9 _ rfl⟩
          clear hK K
          try simp only [Act.put, List.setIfInBounds_toArray, List.set_cons_zero, List.set_cons_succ]
          refine wpAnyH_take (i := 11) (oi := ?oir78_11) (v := ?vr78_11) ?hir78_11 (by kernel_rfl) (by kernel_rfl) (by kernel_rfl) ?hqr78_11 ?hyr78_11 (by assumption) ?restr78_11
          case hir78_11 => simp only [List.getElem?_toArray, List.getElem?_cons_succ, List.getElem?_cons_zero]; rfl
          case hqr78_11 => exact fun _ _ _ h => h
          case hyr78_11 => (refine Or.inl ⟨by rfl, ?_⟩; intro w hSw; (try dsimp only at hSw); go_simp; all_goals with_reducible rfl)
          try simp only [Act.put, List.setIfInBounds_toArray, List.set_cons_zero, List.set_cons_succ]
          refine wpAnyH_done (by kernel_rfl) ?_ _
          clear hHeld
          go_wp2_with fail
          go_ret
          refine .inr ⟨_, _, _, _, _, _, e.out, rfl, R3, ?_, ?_⟩
          · rw [(show (stepC q (0 : Int)).lev = limbs (nextC q L (0 : Int)) by show limbs (nextC q (val q.lev) (0 : Int)) = _; rw [vld.out.lev, val_limbs])]; exact ys
          · rw [(show (stepC q (0 : Int)).best = limbs B by show limbs (max (val q.best) (nextC q (val q.lev) (0 : Int))) = _; rw [vld.out.lev, vld.out.best, val_limbs, val_limbs, Nat.max_eq_left HB.out])]; exact rb1
        · have BL := Lib.hid (show leC (limbs (nextC q L (0 : Int))) (limbs B) = false by rw [leC_ok nextC_lt vld.out.pw.2]; exact decide_eq_false hB)
          have HB := Lib.hid hB
          clear hB
          have hb := (Below.refl wC.heap.size wC).drew
          have R3 := R3.later hb
          have ys := ys.below hb
          have rb1 := rb1.below hb
          clear hb
          refine wp_region_held_drew (S := (fun w' => w'.cell? ⟨k, 8, none⟩ = some (.slice as' ns' cs') ∧ w'.cell? ⟨k, 9, none⟩ = some (.slice b m d))) (by kernel_rfl) ?_ (fun hHeld => ?_)
          · exact ⟨R3.cell 8 _ rfl, R3.cell 9 _ rfl⟩
          generalize wC.drew = wD at *
          refine wpAnyH_take (i := 0) (oi := ?oir79_0) (v := ?vr79_0) ?hir79_0 (by kernel_rfl) (by kernel_rfl) (by kernel_rfl) ?hqr79_0 ?hyr79_0 (by assumption) ?restr79_0
          case hir79_0 => simp only [List.getElem?_toArray, List.getElem?_cons_succ, List.getElem?_cons_zero]; rfl
          case hqr79_0 => exact fun _ _ _ h => h
          case hyr79_0 => (refine Or.inl ⟨by rfl, ?_⟩; intro w hSw; (try dsimp only at hSw); go_simp; all_goals with_reducible rfl)
          try simp only [Act.put, List.setIfInBounds_toArray, List.set_cons_zero, List.set_cons_succ]
          refine wpAnyH_take (i := 1) (oi := ?oir79_1) (v := ?vr79_1) ?hir79_1 (by kernel_rfl) (by kernel_rfl) (by kernel_rfl) ?hqr79_1 ?hyr79_1 (by assumption) ?restr79_1
          case hir79_1 => simp only [List.getElem?_toArray, List.getElem?_cons_succ, List.getElem?_cons_zero]; rfl
          case hqr79_1 => exact fun _ _ _ h => h
          case hyr79_1 => (refine Or.inl ⟨by rfl, ?_⟩; intro w hSw; (try dsimp only at hSw); go_simp; all_goals with_reducible rfl)
          try simp only [Act.put, List.setIfInBounds_toArray, List.set_cons_zero, List.set_cons_succ]
          refine wpAnyH_take (i := 2) (oi := ?oir79_2) (v := ?vr79_2) ?hir79_2 (by kernel_rfl) (by kernel_rfl) (by kernel_rfl) ?hqr79_2 ?hyr79_2 (by assumption) ?restr79_2
          case hir79_2 => simp only [List.getElem?_toArray, List.getElem?_cons_succ, List.getElem?_cons_zero]; rfl
          case hqr79_2 => exact fun _ _ _ h => h
          case hyr79_2 => (refine Or.inl ⟨by rfl, ?_⟩; intro w hSw; (try dsimp only at hSw); go_simp; all_goals with_reducible rfl)
          try simp only [Act.put, List.setIfInBounds_toArray, List.set_cons_zero, List.set_cons_succ]
          refine wpAnyH_take (i := 3) (oi := ?oir79_3) (v := ?vr79_3) ?hir79_3 (by kernel_rfl) (by kernel_rfl) (by kernel_rfl) ?hqr79_3 ?hyr79_3 (by assumption) ?restr79_3
          case hir79_3 => simp only [List.getElem?_toArray, List.getElem?_cons_succ, List.getElem?_cons_zero]; rfl
          case hqr79_3 => exact fun _ _ _ h => h
          case hyr79_3 => (refine Or.inl ⟨by rfl, ?_⟩; intro w hSw; (try dsimp only at hSw); go_simp; all_goals with_reducible rfl)
          try simp only [Act.put, List.setIfInBounds_toArray, List.set_cons_zero, List.set_cons_succ]
          refine wpAnyH_take (i := 4) (oi := ?oir79_4) (v := ?vr79_4) ?hir79_4 (by kernel_rfl) (by kernel_rfl) (by kernel_rfl) ?hqr79_4 ?hyr79_4 (by assumption) ?restr79_4
          case hir79_4 => simp only [List.getElem?_toArray, List.getElem?_cons_succ, List.getElem?_cons_zero]; rfl
          case hqr79_4 => exact fun _ _ _ h => h
          case hyr79_4 => (refine Or.inl ⟨by rfl, ?_⟩; intro w hSw; (try dsimp only at hSw); go_simp; all_goals with_reducible rfl)
          try simp only [Act.put, List.setIfInBounds_toArray, List.set_cons_zero, List.set_cons_succ]
          refine wpAnyH_take (i := 5) (oi := ?oir79_5) (v := ?vr79_5) ?hir79_5 (by kernel_rfl) (by kernel_rfl) (by kernel_rfl) ?hqr79_5 ?hyr79_5 (by assumption) ?restr79_5
          case hir79_5 => simp only [List.getElem?_toArray, List.getElem?_cons_succ, List.getElem?_cons_zero]; rfl
          case hqr79_5 => exact fun _ _ _ h => h
          case hyr79_5 => (refine Or.inl ⟨by rfl, ?_⟩; intro w hSw; (try dsimp only at hSw); go_simp; all_goals with_reducible rfl)
          try simp only [Act.put, List.setIfInBounds_toArray, List.set_cons_zero, List.set_cons_succ]
          refine wpAnyH_take (i := 6) (oi := ?oir79_6) (v := ?vr79_6) ?hir79_6 (by kernel_rfl) (by kernel_rfl) (by kernel_rfl) ?hqr79_6 ?hyr79_6 (by assumption) ?restr79_6
          case hir79_6 => simp only [List.getElem?_toArray, List.getElem?_cons_succ, List.getElem?_cons_zero]; rfl
          case hqr79_6 => exact fun _ _ _ h => h
          case hyr79_6 => (refine Or.inl ⟨by rfl, ?_⟩; intro w hSw; (try dsimp only at hSw); go_simp; all_goals with_reducible rfl)
          try simp only [Act.put, List.setIfInBounds_toArray, List.set_cons_zero, List.set_cons_succ]
          refine wpAnyH_take (i := 7) (oi := ?oir79_7) (v := ?vr79_7) ?hir79_7 (by kernel_rfl) (by kernel_rfl) (by kernel_rfl) ?hqr79_7 ?hyr79_7 (by assumption) ?restr79_7
          case hir79_7 => simp only [List.getElem?_toArray, List.getElem?_cons_succ, List.getElem?_cons_zero]; rfl
          case hqr79_7 => exact fun _ _ _ h => h
          case hyr79_7 => (refine Or.inl ⟨by rfl, ?_⟩; intro w hSw; (try dsimp only at hSw); go_simp; all_goals with_reducible rfl)
          try simp only [Act.put, List.setIfInBounds_toArray, List.set_cons_zero, List.set_cons_succ]
          refine wpAnyH_take (i := 8) (oi := ?oir79_8) (v := ?vr79_8) ?hir79_8 (by kernel_rfl) (by kernel_rfl) (by kernel_rfl) ?hqr79_8 ?hyr79_8 (by assumption) ?restr79_8
          case hir79_8 => simp only [List.getElem?_toArray, List.getElem?_cons_succ, List.getElem?_cons_zero]; rfl
          case hqr79_8 => exact fun _ _ _ h => h
          case hyr79_8 => (refine Or.inl ⟨by rfl, ?_⟩; intro w hSw; (try dsimp only at hSw); go_simp; all_goals with_reducible rfl)
          try simp only [Act.put, List.setIfInBounds_toArray, List.set_cons_zero, List.set_cons_succ]
          refine wpAnyH_take (i := 9) (oi := ?oir79_9) (v := ?vr79_9) ?hir79_9 (by kernel_rfl) (by kernel_rfl) (by kernel_rfl) ?hqr79_9 ?hyr79_9 (by assumption) ?restr79_9
          case hir79_9 => simp only [List.getElem?_toArray, List.getElem?_cons_succ, List.getElem?_cons_zero]; rfl
          case hqr79_9 => exact fun _ _ _ h => h
          case hyr79_9 => (refine Or.inl ⟨by rfl, ?_⟩; intro w hSw; (try dsimp only at hSw); go_simp; all_goals with_reducible rfl)
          try simp only [Act.put, List.setIfInBounds_toArray, List.set_cons_zero, List.set_cons_succ]
          refine wpAnyH_ready (rs := [10]) (by kernel_rfl) (by simp) ?_
          refine AllReadyH.cons (o := ?or80_10) ?hor80_10 (fun K hK => ?kr80_10) AllReadyH.nil
          case hor80_10 => simp only [List.getElem?_toArray, List.getElem?_cons_succ, List.getElem?_cons_zero]; rfl
          go_simp
          have cc := cmAtMost_any wD ys rb1
          rw [BL.out] at cc
          refine cc.mono ?_
          rintro e2 wE ⟨rfl, hb⟩
          clear cc
          have R3 := R3.later hb
          have ys := ys.below hb
          have rb1 := rb1.below hb
          clear hb
          go_wp2_with fail
          refine hK.out _ _ ?_ (fun hHeld => ?_)
          · exact ⟨R3.cell 8 _ rfl, R3.cell 9 _ rfl⟩
          clear hK K
          try simp only [Act.put, List.setIfInBounds_toArray, List.set_cons_zero, List.set_cons_succ]
          refine wpAnyH_take (i := 11) (oi := ?oir81_11) (v := ?vr81_11) ?hir81_11 (by kernel_rfl) (by kernel_rfl) (by kernel_rfl) ?hqr81_11 ?hyr81_11 (by assumption) ?restr81_11
          case hir81_11 => simp only [List.getElem?_toArray, List.getElem?_cons_succ, List.getElem?_cons_zero]; rfl
          case hqr81_11 => exact fun _ _ _ h => h
          case hyr81_11 => (refine Or.inl ⟨by rfl, ?_⟩; intro w hSw; (try dsimp only at hSw); go_simp; all_goals with_reducible rfl)
          try simp only [Act.put, List.setIfInBounds_toArray, List.set_cons_zero, List.set_cons_succ]
          refine wpAnyH_done (by kernel_rfl) ?_ _
          clear hHeld
          have k8 : wE.cell? ⟨k, 8, none⟩ = some (.slice as' ns' cs') := R3.cell 8 _ rfl
          go_wp2_with fail
          refine (Clone_any wE ys (by have h1 := ys.len; have h2 := limbs_len_le (k := 96) (show nextC q L (0 : Int) < pw 96 from Nat.lt_of_le_of_lt (Nat.min_le_right _ _) most_pw); omega)).mono ?_
          rintro e2 wF ⟨ak, nk, ck, rfl, yk, hb⟩
          have R3 := R3.later hb
          have ys := ys.below hb
          have rb1 := rb1.below hb
          clear hb k8
          have fr9 := R3.free 9
          have k9 := R3.cell 9 _ rfl
          have R4 : PRow 66 wb (wF.setCell ⟨k, 9, none⟩ (.slice ak nk ck)) k (cmC (bumpC q (0 : Int)) as' ns' cs' ak nk ck) := R3.set 9 (.slice ak nk ck)
          have yk := rd_setcell (i := 9) yk R3.row (cm_noint _ _ _ _ _ _ _) (.slice ak nk ck)
          have yl := rd_setcell (i := 9) ys R3.row (cm_noint _ _ _ _ _ _ _) (.slice ak nk ck)
          go_wp2_with fail
          go_ret
          refine .inr ⟨_, _, _, _, _, _, e.out, rfl, R4, ?_, ?_⟩
          · rw [(show (stepC q (0 : Int)).lev = limbs (nextC q L (0 : Int)) by show limbs (nextC q (val q.lev) (0 : Int)) = _; rw [vld.out.lev, val_limbs])]; exact yl
          · rw [(show (stepC q (0 : Int)).best = limbs (nextC q L (0 : Int)) by show limbs (max (val q.best) (nextC q (val q.lev) (0 : Int))) = _; rw [vld.out.lev, vld.out.best, val_limbs, val_limbs, Nat.max_eq_right (Nat.le_of_lt (Nat.lt_of_not_le HB.out))])]; exact yk

end Go.Proofs.Ytmkcdlhhbnakiaa
