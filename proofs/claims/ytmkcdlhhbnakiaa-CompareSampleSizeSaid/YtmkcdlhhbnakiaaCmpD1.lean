/- Observing the overstatement -1. -/
import Derived.Test.YtmkcdlhhbnakiaaCmpV
namespace Go.Proofs.Ytmkcdlhhbnakiaa
open Go.RowKit Go.Suf
set_option linter.unusedVariables false
set_option linter.unusedSimpArgs false

set_option maxRecDepth 100000 in
set_option maxHeartbeats 8000000 in
theorem see1_any (wb w : World) {q : CV} {a b : Option Addr} {n m c d k L B : Nat} (R : PRow 66 wb w k (cmC q a n c b m d)) (ra : Rd .u32 w a n c (limbs L)) (rb : Rd .u32 w b m d (limbs B)) (vld' : VldC q L B) :
    Calls Try.prog 42 #[.pointer (some ⟨k, 0, none⟩), .int .i64 (-1)] w (RetSee wb k q (-1)) := by
  have vld := Lib.hid vld'
  clear vld'
  have k0 := R.cell 0 _ rfl
  have k1 := R.cell 1 _ rfl
  have k2 := R.cell 2 _ rfl
  have k3 := R.cell 3 _ rfl
  have k4 := R.cell 4 _ rfl
  have k5 := R.cell 5 _ rfl
  have k6 := R.cell 6 _ rfl
  have k7 := R.cell 7 _ rfl
  have k8 := R.cell 8 _ rfl
  have k9 := R.cell 9 _ rfl
  have fr := R.free 4
  have HF := Lib.hid (show seenAtC q (-1 : Int) = q.s1 from rfl)
  have sv := vld.out.s1
  unfold inS at sv
  by_cases full : q.s1 = 1000000
  · have e := Lib.hid (show obs1C q (-1 : Int) = none from obs1C_out (.inr (.inr (by rw [HF.out]; omega))))
    have d2 : (q.s1 == 1000000) = true := beq_iff_eq.2 full
    clear full sv
    go_enter Try.func42, Try.ntmps42
    go_wp2_with fail
    have cc := within_any w (-1 : Int) (-2) 2
    rw [decide_eq_true (show (-2 : Int) ≤ (-1 : Int) ∧ (-1 : Int) ≤ 2 by decide)] at cc
    refine cc.mono ?_
    rintro e1 w9 ⟨rfl, hw⟩
    have hw := hw.symm
    subst hw
    clear cc
    go_wp2_with fail
    go_ret
    exact .inl ⟨e.out, rfl, R.below⟩
  have d2 : (q.s1 == 1000000) = false := beq_eq_false_iff_ne.2 full
  have e := Lib.hid (show obs1C q (-1 : Int) = some (stepC q (-1 : Int)) from obs1C_in (by rw [HF.out]; omega))
  have sv1 : q.s1 < 1000000 := by omega
  have sv0 : 0 ≤ q.s1 := by omega
  have wi : IntKind.i64.wrap (q.s1 + 1) = q.s1 + 1 := wrap_in (by omega) (by omega)
  clear full sv
  go_enter Try.func42, Try.ntmps42
  go_wp2_with fail
  have cc := within_any w (-1 : Int) (-2) 2
  rw [decide_eq_true (show (-2 : Int) ≤ (-1 : Int) ∧ (-1 : Int) ≤ 2 by decide)] at cc
  refine cc.mono ?_
  rintro e1 w9 ⟨rfl, hw⟩
  have hw := hw.symm
  subst hw
  clear cc
  go_upto_region 4 with fail
  refine wp_region_any (by kernel_rfl) ?_
  change wpAny _ _ _ _ _ _ _ (World.drew _)
  refine wpAny_take (i := 0) (oi := ?oir29_0) (v := ?vr29_0) ?hir29_0 (by kernel_rfl) (by kernel_rfl) (by kernel_rfl) ?hqr29_0 ?hyr29_0 ?restr29_0
  case hir29_0 => simp only [List.getElem?_toArray, List.getElem?_cons_succ, List.getElem?_cons_zero]; rfl
  case hqr29_0 => exact fun _ _ _ h => h
  case hyr29_0 => (refine Or.inl ⟨by rfl, ?_⟩; intro w; go_simp; all_goals with_reducible rfl)
  try simp only [Act.put, List.setIfInBounds_toArray, List.set_cons_zero, List.set_cons_succ]
  refine wpAny_take (i := 1) (oi := ?oir29_1) (v := ?vr29_1) ?hir29_1 (by kernel_rfl) (by kernel_rfl) (by kernel_rfl) ?hqr29_1 ?hyr29_1 ?restr29_1
  case hir29_1 => simp only [List.getElem?_toArray, List.getElem?_cons_succ, List.getElem?_cons_zero]; rfl
  case hqr29_1 => exact fun _ _ _ h => h
  case hyr29_1 => (refine Or.inl ⟨by rfl, ?_⟩; intro w; go_simp; all_goals with_reducible rfl)
  try simp only [Act.put, List.setIfInBounds_toArray, List.set_cons_zero, List.set_cons_succ]
  refine wpAny_take (i := 2) (oi := ?oir29_2) (v := ?vr29_2) ?hir29_2 (by kernel_rfl) (by kernel_rfl) (by kernel_rfl) ?hqr29_2 ?hyr29_2 ?restr29_2
  case hir29_2 => simp only [List.getElem?_toArray, List.getElem?_cons_succ, List.getElem?_cons_zero]; rfl
  case hqr29_2 => exact fun _ _ _ h => h
  case hyr29_2 => (refine Or.inl ⟨by rfl, ?_⟩; intro w; go_simp; all_goals with_reducible rfl)
  try simp only [Act.put, List.setIfInBounds_toArray, List.set_cons_zero, List.set_cons_succ]
  refine wpAny_take (i := 3) (oi := ?oir29_3) (v := ?vr29_3) ?hir29_3 (by kernel_rfl) (by kernel_rfl) (by kernel_rfl) ?hqr29_3 ?hyr29_3 ?restr29_3
  case hir29_3 => simp only [List.getElem?_toArray, List.getElem?_cons_succ, List.getElem?_cons_zero]; rfl
  case hqr29_3 => exact fun _ _ _ h => h
  case hyr29_3 => (refine Or.inl ⟨by rfl, ?_⟩; intro w; go_simp; all_goals with_reducible rfl)
  try simp only [Act.put, List.setIfInBounds_toArray, List.set_cons_zero, List.set_cons_succ]
  refine wpAny_take (i := 4) (oi := ?oir29_4) (v := ?vr29_4) ?hir29_4 (by kernel_rfl) (by kernel_rfl) (by kernel_rfl) ?hqr29_4 ?hyr29_4 ?restr29_4
  case hir29_4 => simp only [List.getElem?_toArray, List.getElem?_cons_succ, List.getElem?_cons_zero]; rfl
  case hqr29_4 => exact fun _ _ _ h => h
  case hyr29_4 => (refine Or.inl ⟨by rfl, ?_⟩; intro w; go_simp; all_goals with_reducible rfl)
  try simp only [Act.put, List.setIfInBounds_toArray, List.set_cons_zero, List.set_cons_succ]
  refine wpAny_take (i := 5) (oi := ?oir29_5) (v := ?vr29_5) ?hir29_5 (by kernel_rfl) (by kernel_rfl) (by kernel_rfl) ?hqr29_5 ?hyr29_5 ?restr29_5
  case hir29_5 => simp only [List.getElem?_toArray, List.getElem?_cons_succ, List.getElem?_cons_zero]; rfl
  case hqr29_5 => exact fun _ _ _ h => h
  case hyr29_5 => (refine Or.inl ⟨by rfl, ?_⟩; intro w; go_simp; all_goals with_reducible rfl)
  try simp only [Act.put, List.setIfInBounds_toArray, List.set_cons_zero, List.set_cons_succ]
  refine wpAny_take (i := 8) (oi := ?oir29_8) (v := ?vr29_8) ?hir29_8 (by kernel_rfl) (by kernel_rfl) (by kernel_rfl) ?hqr29_8 ?hyr29_8 ?restr29_8
  case hir29_8 => simp only [List.getElem?_toArray, List.getElem?_cons_succ, List.getElem?_cons_zero]; rfl
  case hqr29_8 => exact fun _ _ _ h => h
  case hyr29_8 => (refine Or.inl ⟨by rfl, ?_⟩; intro w; go_simp; all_goals with_reducible rfl)
  try simp only [Act.put, List.setIfInBounds_toArray, List.set_cons_zero, List.set_cons_succ]
  refine wpAny_take (i := 9) (oi := ?oir29_9) (v := ?vr29_9) ?hir29_9 (by kernel_rfl) (by kernel_rfl) (by kernel_rfl) ?hqr29_9 ?hyr29_9 ?restr29_9
  case hir29_9 => simp only [List.getElem?_toArray, List.getElem?_cons_succ, List.getElem?_cons_zero]; rfl
  case hqr29_9 => exact fun _ _ _ h => h
  case hyr29_9 => (refine Or.inl ⟨by rfl, ?_⟩; intro w; go_simp; all_goals with_reducible rfl)
  try simp only [Act.put, List.setIfInBounds_toArray, List.set_cons_zero, List.set_cons_succ]
  refine wpAny_take (i := 10) (oi := ?oir29_10) (v := ?vr29_10) ?hir29_10 (by kernel_rfl) (by kernel_rfl) (by kernel_rfl) ?hqr29_10 ?hyr29_10 ?restr29_10
  case hir29_10 => simp only [List.getElem?_toArray, List.getElem?_cons_succ, List.getElem?_cons_zero]; rfl
  case hqr29_10 => exact fun _ _ _ h => h
  case hyr29_10 => (refine Or.inl ⟨by rfl, ?_⟩; intro w; go_simp; all_goals with_reducible rfl)
  try simp only [Act.put, List.setIfInBounds_toArray, List.set_cons_zero, List.set_cons_succ]
  refine wpAny_ready (rs := [6]) (by kernel_rfl) (by simp) ?_
  refine (AllReady.cons (o := ?ob56_6) ?hob56_6 (fun K hK => ?kb56_6) AllReady.nil)
  case hob56_6 => simp only [List.getElem?_toArray, List.getElem?_cons_succ, List.getElem?_cons_zero]; rfl
  case kb56_6 =>
    go_simp
    refine hK _ _ ?_
    clear hK K
    try simp only [Act.put, List.setIfInBounds_toArray, List.set_cons_zero, List.set_cons_succ]
    refine wpAny_take (i := 7) (oi := ?oir55_7) (v := ?vr55_7) ?hir55_7 (by kernel_rfl) (by kernel_rfl) (by kernel_rfl) ?hqr55_7 ?hyr55_7 ?restr55_7
    case hir55_7 => simp only [List.getElem?_toArray, List.getElem?_cons_succ, List.getElem?_cons_zero]; rfl
    case hqr55_7 => exact fun _ _ _ h => h
    case hyr55_7 => (refine Or.inl ⟨by rfl, ?_⟩; intro w; go_simp; all_goals with_reducible rfl)
    try simp only [Act.put, List.setIfInBounds_toArray, List.set_cons_zero, List.set_cons_succ]
    refine wpAny_take (i := 11) (oi := ?oir55_11) (v := ?vr55_11) ?hir55_11 (by kernel_rfl) (by kernel_rfl) (by kernel_rfl) ?hqr55_11 ?hyr55_11 ?restr55_11
    case hir55_11 => simp only [List.getElem?_toArray, List.getElem?_cons_succ, List.getElem?_cons_zero]; rfl
    case hqr55_11 => exact fun _ _ _ h => h
    case hyr55_11 => (refine Or.inl ⟨by rfl, ?_⟩; intro w; go_simp; all_goals with_reducible rfl)
    try simp only [Act.put, List.setIfInBounds_toArray, List.set_cons_zero, List.set_cons_succ]
    refine wpAny_ready (rs := [12]) (by kernel_rfl) (by simp) ?_
    refine (AllReady.cons (o := ?ob54_12) ?hob54_12 (fun K hK => ?kb54_12) AllReady.nil)
    case hob54_12 => simp only [List.getElem?_toArray, List.getElem?_cons_succ, List.getElem?_cons_zero]; rfl
    case kb54_12 =>
      go_simp
      refine hK _ _ ?_
      clear hK K
      try simp only [Act.put, List.setIfInBounds_toArray, List.set_cons_zero, List.set_cons_succ]
      refine wpAny_done (by kernel_rfl) ?_ _
      have R0 : PRow 66 wb (w.setCell ⟨k, 4, none⟩ (.int .i64 (q.s1 + 1))) k (cmC (bumpC q (-1 : Int)) a n c b m d) := R.set 4 (.int .i64 (q.s1 + 1))
      have D0 := (Below.refl (w.setCell ⟨k, 4, none⟩ (.int .i64 (q.s1 + 1))).heap.size (w.setCell ⟨k, 4, none⟩ (.int .i64 (q.s1 + 1)))).drew
      have ra1 := (rd_setcell (i := 4) ra R.row (cm_noint _ _ _ _ _ _ _) (.int .i64 (q.s1 + 1))).below D0
      have rb1 := (rd_setcell (i := 4) rb R.row (cm_noint _ _ _ _ _ _ _) (.int .i64 (q.s1 + 1))).below D0
      have R1 := R0.later D0
      clear k0 k1 k2 k3 k4 k5 k6 k7 k8 k9 fr D0 R0 sv0 sv1 d2 wi
      generalize (w.setCell ⟨k, 4, none⟩ (.int .i64 (q.s1 + 1))).drew = w1 at *
      have k0 : w1.cell? ⟨k, 0, none⟩ = some (.int .i64 q.bet) := R1.cell 0 _ rfl
      have k1 : w1.cell? ⟨k, 1, none⟩ = some (.int .i64 q.ballots) := R1.cell 1 _ rfl
      have k2 : w1.cell? ⟨k, 2, none⟩ = some (.int .i64 q.margin) := R1.cell 2 _ rfl
      have k8 : w1.cell? ⟨k, 8, none⟩ = some (.slice a n c) := R1.cell 8 _ rfl
      have n1' : 1 ≤ q.ballots := vld.out.may.2.1.1
      have n2' : q.ballots ≤ 1000000 := vld.out.may.2.1.2
      have LP := Lib.hid vld.out.pw.1
      have LF := Lib.hid (show L * factC q (-1 : Int) < pw 96 from Nat.lt_of_lt_of_le (mul_lt_pw (show L < pw 5 from Nat.lt_of_le_of_lt (Nat.le_trans vld.out.le vld.out.hi) (by decide)) (show factC q (-1 : Int) < pw 2 from (fact_bd vld.out.may (by decide) (by decide)).1)) (pw_le (by decide)))
      go_upto_region 6 with fail
      have hb := (Below.refl w1.heap.size w1).drew
      have R1 := R1.later hb
      have ra1 := ra1.below hb
      have rb1 := rb1.below hb
      clear hb k0 k1 k2 k8
      refine wp_region_held_drew (S := (fun w' => w'.cell? ⟨k, 0, none⟩ = some (.int .i64 q.bet) ∧ w'.cell? ⟨k, 1, none⟩ = some (.int .i64 q.ballots) ∧ w'.cell? ⟨k, 2, none⟩ = some (.int .i64 q.margin) ∧ w'.cell? ⟨k, 8, none⟩ = some (.slice a n c))) (by kernel_rfl) ?_ (fun hHeld => ?_)
      · exact ⟨R1.cell 0 _ rfl, R1.cell 1 _ rfl, R1.cell 2 _ rfl, R1.cell 8 _ rfl⟩
      generalize w1.drew = w2 at *
      refine wpAnyH_take (i := 0) (oi := ?oir30_0) (v := ?vr30_0) ?hir30_0 (by kernel_rfl) (by kernel_rfl) (by kernel_rfl) ?hqr30_0 ?hyr30_0 (by assumption) ?restr30_0
      case hir30_0 => simp only [List.getElem?_toArray, List.getElem?_cons_succ, List.getElem?_cons_zero]; rfl
      case hqr30_0 => exact fun _ _ _ h => h
      case hyr30_0 => (refine Or.inl ⟨by rfl, ?_⟩; intro w hSw; (try dsimp only at hSw); go_simp; all_goals with_reducible rfl)
      try simp only [Act.put, List.setIfInBounds_toArray, List.set_cons_zero, List.set_cons_succ]
      refine wpAnyH_take (i := 1) (oi := ?oir30_1) (v := ?vr30_1) ?hir30_1 (by kernel_rfl) (by kernel_rfl) (by kernel_rfl) ?hqr30_1 ?hyr30_1 (by assumption) ?restr30_1
      case hir30_1 => simp only [List.getElem?_toArray, List.getElem?_cons_succ, List.getElem?_cons_zero]; rfl
      case hqr30_1 => exact fun _ _ _ h => h
      case hyr30_1 => (refine Or.inl ⟨by rfl, ?_⟩; intro w hSw; (try dsimp only at hSw); go_simp; all_goals with_reducible rfl)
      try simp only [Act.put, List.setIfInBounds_toArray, List.set_cons_zero, List.set_cons_succ]
      refine wpAnyH_take (i := 2) (oi := ?oir30_2) (v := ?vr30_2) ?hir30_2 (by kernel_rfl) (by kernel_rfl) (by kernel_rfl) ?hqr30_2 ?hyr30_2 (by assumption) ?restr30_2
      case hir30_2 => simp only [List.getElem?_toArray, List.getElem?_cons_succ, List.getElem?_cons_zero]; rfl
      case hqr30_2 => exact fun _ _ _ h => h
      case hyr30_2 => (refine Or.inl ⟨by rfl, ?_⟩; intro w hSw; (try dsimp only at hSw); go_simp; all_goals with_reducible rfl)
      try simp only [Act.put, List.setIfInBounds_toArray, List.set_cons_zero, List.set_cons_succ]
      refine wpAnyH_take (i := 3) (oi := ?oir30_3) (v := ?vr30_3) ?hir30_3 (by kernel_rfl) (by kernel_rfl) (by kernel_rfl) ?hqr30_3 ?hyr30_3 (by assumption) ?restr30_3
      case hir30_3 => simp only [List.getElem?_toArray, List.getElem?_cons_succ, List.getElem?_cons_zero]; rfl
      case hqr30_3 => exact fun _ _ _ h => h
      case hyr30_3 => (refine Or.inl ⟨by rfl, ?_⟩; intro w hSw; (try dsimp only at hSw); go_simp; all_goals with_reducible rfl)
      try simp only [Act.put, List.setIfInBounds_toArray, List.set_cons_zero, List.set_cons_succ]
      refine wpAnyH_take (i := 4) (oi := ?oir30_4) (v := ?vr30_4) ?hir30_4 (by kernel_rfl) (by kernel_rfl) (by kernel_rfl) ?hqr30_4 ?hyr30_4 (by assumption) ?restr30_4
      case hir30_4 => simp only [List.getElem?_toArray, List.getElem?_cons_succ, List.getElem?_cons_zero]; rfl
      case hqr30_4 => exact fun _ _ _ h => h
      case hyr30_4 => (refine Or.inl ⟨by rfl, ?_⟩; intro w hSw; (try dsimp only at hSw); go_simp; all_goals with_reducible rfl)
      try simp only [Act.put, List.setIfInBounds_toArray, List.set_cons_zero, List.set_cons_succ]
      refine wpAnyH_take (i := 5) (oi := ?oir30_5) (v := ?vr30_5) ?hir30_5 (by kernel_rfl) (by kernel_rfl) (by kernel_rfl) ?hqr30_5 ?hyr30_5 (by assumption) ?restr30_5
      case hir30_5 => simp only [List.getElem?_toArray, List.getElem?_cons_succ, List.getElem?_cons_zero]; rfl
      case hqr30_5 => exact fun _ _ _ h => h
      case hyr30_5 => (refine Or.inl ⟨by rfl, ?_⟩; intro w hSw; (try dsimp only at hSw); go_simp; all_goals with_reducible rfl)
      try simp only [Act.put, List.setIfInBounds_toArray, List.set_cons_zero, List.set_cons_succ]
      refine wpAnyH_take (i := 6) (oi := ?oir30_6) (v := ?vr30_6) ?hir30_6 (by kernel_rfl) (by kernel_rfl) (by kernel_rfl) ?hqr30_6 ?hyr30_6 (by assumption) ?restr30_6
      case hir30_6 => simp only [List.getElem?_toArray, List.getElem?_cons_succ, List.getElem?_cons_zero]; rfl
      case hqr30_6 => exact fun _ _ _ h => h
      case hyr30_6 => (refine Or.inl ⟨by rfl, ?_⟩; intro w hSw; (try dsimp only at hSw); go_simp; all_goals with_reducible rfl)
      try simp only [Act.put, List.setIfInBounds_toArray, List.set_cons_zero, List.set_cons_succ]
      refine wpAnyH_take (i := 7) (oi := ?oir30_7) (v := ?vr30_7) ?hir30_7 (by kernel_rfl) (by kernel_rfl) (by kernel_rfl) ?hqr30_7 ?hyr30_7 (by assumption) ?restr30_7
      case hir30_7 => simp only [List.getElem?_toArray, List.getElem?_cons_succ, List.getElem?_cons_zero]; rfl
      case hqr30_7 => exact fun _ _ _ h => h
      case hyr30_7 => (refine Or.inl ⟨by rfl, ?_⟩; intro w hSw; (try dsimp only at hSw); go_simp; all_goals with_reducible rfl)
      try simp only [Act.put, List.setIfInBounds_toArray, List.set_cons_zero, List.set_cons_succ]
      refine wpAnyH_take (i := 8) (oi := ?oir30_8) (v := ?vr30_8) ?hir30_8 (by kernel_rfl) (by kernel_rfl) (by kernel_rfl) ?hqr30_8 ?hyr30_8 (by assumption) ?restr30_8
      case hir30_8 => simp only [List.getElem?_toArray, List.getElem?_cons_succ, List.getElem?_cons_zero]; rfl
      case hqr30_8 => exact fun _ _ _ h => h
      case hyr30_8 => (refine Or.inl ⟨by rfl, ?_⟩; intro w hSw; (try dsimp only at hSw); go_simp; all_goals with_reducible rfl)
      try simp only [Act.put, List.setIfInBounds_toArray, List.set_cons_zero, List.set_cons_succ]
      refine wpAnyH_take (i := 9) (oi := ?oir30_9) (v := ?vr30_9) ?hir30_9 (by kernel_rfl) (by kernel_rfl) (by kernel_rfl) ?hqr30_9 ?hyr30_9 (by assumption) ?restr30_9
      case hir30_9 => simp only [List.getElem?_toArray, List.getElem?_cons_succ, List.getElem?_cons_zero]; rfl
      case hqr30_9 => exact fun _ _ _ h => h
      case hyr30_9 => (refine Or.inl ⟨by rfl, ?_⟩; intro w hSw; (try dsimp only at hSw); go_simp; all_goals with_reducible rfl)
      try simp only [Act.put, List.setIfInBounds_toArray, List.set_cons_zero, List.set_cons_succ]
      refine wpAnyH_take (i := 10) (oi := ?oir30_10) (v := ?vr30_10) ?hir30_10 (by kernel_rfl) (by kernel_rfl) (by kernel_rfl) ?hqr30_10 ?hyr30_10 (by assumption) ?restr30_10
      case hir30_10 => simp only [List.getElem?_toArray, List.getElem?_cons_succ, List.getElem?_cons_zero]; rfl
      case hqr30_10 => exact fun _ _ _ h => h
      case hyr30_10 => (refine Or.inl ⟨by rfl, ?_⟩; intro w hSw; (try dsimp only at hSw); go_simp; all_goals with_reducible rfl)
      try simp only [Act.put, List.setIfInBounds_toArray, List.set_cons_zero, List.set_cons_succ]
      refine wpAnyH_take (i := 11) (oi := ?oir30_11) (v := ?vr30_11) ?hir30_11 (by kernel_rfl) (by kernel_rfl) (by kernel_rfl) ?hqr30_11 ?hyr30_11 (by assumption) ?restr30_11
      case hir30_11 => simp only [List.getElem?_toArray, List.getElem?_cons_succ, List.getElem?_cons_zero]; rfl
      case hqr30_11 => exact fun _ _ _ h => h
      case hyr30_11 => (refine Or.inl ⟨by rfl, ?_⟩; intro w hSw; (try dsimp only at hSw); go_simp; all_goals with_reducible rfl)
      try simp only [Act.put, List.setIfInBounds_toArray, List.set_cons_zero, List.set_cons_succ]
      refine wpAnyH_take (i := 12) (oi := ?oir30_12) (v := ?vr30_12) ?hir30_12 (by kernel_rfl) (by kernel_rfl) (by kernel_rfl) ?hqr30_12 ?hyr30_12 (by assumption) ?restr30_12
      case hir30_12 => simp only [List.getElem?_toArray, List.getElem?_cons_succ, List.getElem?_cons_zero]; rfl
      case hqr30_12 => exact fun _ _ _ h => h
      case hyr30_12 => (refine Or.inl ⟨by rfl, ?_⟩; intro w hSw; (try dsimp only at hSw); go_simp; all_goals with_reducible rfl)
      try simp only [Act.put, List.setIfInBounds_toArray, List.set_cons_zero, List.set_cons_succ]
      refine wpAnyH_take (i := 13) (oi := ?oir30_13) (v := ?vr30_13) ?hir30_13 (by kernel_rfl) (by kernel_rfl) (by kernel_rfl) ?hqr30_13 ?hyr30_13 (by assumption) ?restr30_13
      case hir30_13 => simp only [List.getElem?_toArray, List.getElem?_cons_succ, List.getElem?_cons_zero]; rfl
      case hqr30_13 => exact fun _ _ _ h => h
      case hyr30_13 => (refine Or.inl ⟨by rfl, ?_⟩; intro w hSw; (try dsimp only at hSw); go_simp; all_goals with_reducible rfl)
      try simp only [Act.put, List.setIfInBounds_toArray, List.set_cons_zero, List.set_cons_succ]
      refine wpAnyH_take (i := 14) (oi := ?oir30_14) (v := ?vr30_14) ?hir30_14 (by kernel_rfl) (by kernel_rfl) (by kernel_rfl) ?hqr30_14 ?hyr30_14 (by assumption) ?restr30_14
      case hir30_14 => simp only [List.getElem?_toArray, List.getElem?_cons_succ, List.getElem?_cons_zero]; rfl
      case hqr30_14 => exact fun _ _ _ h => h
      case hyr30_14 => (refine Or.inl ⟨by rfl, ?_⟩; intro w hSw; (try dsimp only at hSw); go_simp; all_goals with_reducible rfl)
      try simp only [Act.put, List.setIfInBounds_toArray, List.set_cons_zero, List.set_cons_succ]
      refine wpAnyH_take (i := 15) (oi := ?oir30_15) (v := ?vr30_15) ?hir30_15 (by kernel_rfl) (by kernel_rfl) (by kernel_rfl) ?hqr30_15 ?hyr30_15 (by assumption) ?restr30_15
      case hir30_15 => simp only [List.getElem?_toArray, List.getElem?_cons_succ, List.getElem?_cons_zero]; rfl
      case hqr30_15 => exact fun _ _ _ h => h
      case hyr30_15 => (refine Or.inl ⟨by rfl, ?_⟩; intro w hSw; (try dsimp only at hSw); go_simp; all_goals with_reducible rfl)
      try simp only [Act.put, List.setIfInBounds_toArray, List.set_cons_zero, List.set_cons_succ]
      refine wpAnyH_take (i := 16) (oi := ?oir30_16) (v := ?vr30_16) ?hir30_16 (by kernel_rfl) (by kernel_rfl) (by kernel_rfl) ?hqr30_16 ?hyr30_16 (by assumption) ?restr30_16
      case hir30_16 => simp only [List.getElem?_toArray, List.getElem?_cons_succ, List.getElem?_cons_zero]; rfl
      case hqr30_16 => exact fun _ _ _ h => h
      case hyr30_16 => (refine Or.inl ⟨by rfl, ?_⟩; intro w hSw; (try dsimp only at hSw); go_simp; all_goals with_reducible rfl)
      try simp only [Act.put, List.setIfInBounds_toArray, List.set_cons_zero, List.set_cons_succ]
      refine wpAnyH_take (i := 17) (oi := ?oir30_17) (v := ?vr30_17) ?hir30_17 (by kernel_rfl) (by kernel_rfl) (by kernel_rfl) ?hqr30_17 ?hyr30_17 (by assumption) ?restr30_17
      case hir30_17 => simp only [List.getElem?_toArray, List.getElem?_cons_succ, List.getElem?_cons_zero]; rfl
      case hqr30_17 => exact fun _ _ _ h => h
      case hyr30_17 => (refine Or.inl ⟨by rfl, ?_⟩; intro w hSw; (try dsimp only at hSw); go_simp; all_goals with_reducible rfl)
      try simp only [Act.put, List.setIfInBounds_toArray, List.set_cons_zero, List.set_cons_succ]
      refine wpAnyH_take (i := 18) (oi := ?oir30_18) (v := ?vr30_18) ?hir30_18 (by kernel_rfl) (by kernel_rfl) (by kernel_rfl) ?hqr30_18 ?hyr30_18 (by assumption) ?restr30_18
      case hir30_18 => simp only [List.getElem?_toArray, List.getElem?_cons_succ, List.getElem?_cons_zero]; rfl
      case hqr30_18 => exact fun _ _ _ h => h
      case hyr30_18 => (refine Or.inl ⟨by rfl, ?_⟩; intro w hSw; (try dsimp only at hSw); go_simp; all_goals with_reducible rfl)
      try simp only [Act.put, List.setIfInBounds_toArray, List.set_cons_zero, List.set_cons_succ]
      refine wpAnyH_take (i := 19) (oi := ?oir30_19) (v := ?vr30_19) ?hir30_19 (by kernel_rfl) (by kernel_rfl) (by kernel_rfl) ?hqr30_19 ?hyr30_19 (by assumption) ?restr30_19
      case hir30_19 => simp only [List.getElem?_toArray, List.getElem?_cons_succ, List.getElem?_cons_zero]; rfl
      case hqr30_19 => exact fun _ _ _ h => h
      case hyr30_19 => (refine Or.inl ⟨by rfl, ?_⟩; intro w hSw; (try dsimp only at hSw); go_simp; all_goals with_reducible rfl)
      try simp only [Act.put, List.setIfInBounds_toArray, List.set_cons_zero, List.set_cons_succ]
      refine wpAnyH_take (i := 20) (oi := ?oir30_20) (v := ?vr30_20) ?hir30_20 (by kernel_rfl) (by kernel_rfl) (by kernel_rfl) ?hqr30_20 ?hyr30_20 (by assumption) ?restr30_20
      case hir30_20 => simp only [List.getElem?_toArray, List.getElem?_cons_succ, List.getElem?_cons_zero]; rfl
      case hqr30_20 => exact fun _ _ _ h => h
      case hyr30_20 => (refine Or.inl ⟨by rfl, ?_⟩; intro w hSw; (try dsimp only at hSw); go_simp; all_goals with_reducible rfl)
      try simp only [Act.put, List.setIfInBounds_toArray, List.set_cons_zero, List.set_cons_succ]
      refine wpAnyH_take (i := 21) (oi := ?oir30_21) (v := ?vr30_21) ?hir30_21 (by kernel_rfl) (by kernel_rfl) (by kernel_rfl) ?hqr30_21 ?hyr30_21 (by assumption) ?restr30_21
      case hir30_21 => simp only [List.getElem?_toArray, List.getElem?_cons_succ, List.getElem?_cons_zero]; rfl
      case hqr30_21 => exact fun _ _ _ h => h
      case hyr30_21 => (refine Or.inl ⟨by rfl, ?_⟩; intro w hSw; (try dsimp only at hSw); go_simp; all_goals with_reducible rfl)
      try simp only [Act.put, List.setIfInBounds_toArray, List.set_cons_zero, List.set_cons_succ]
      refine wpAnyH_take (i := 22) (oi := ?oir30_22) (v := ?vr30_22) ?hir30_22 (by kernel_rfl) (by kernel_rfl) (by kernel_rfl) ?hqr30_22 ?hyr30_22 (by assumption) ?restr30_22
      case hir30_22 => simp only [List.getElem?_toArray, List.getElem?_cons_succ, List.getElem?_cons_zero]; rfl
      case hqr30_22 => exact fun _ _ _ h => h
      case hyr30_22 => (refine Or.inl ⟨by rfl, ?_⟩; intro w hSw; (try dsimp only at hSw); go_simp; all_goals with_reducible rfl)
      try simp only [Act.put, List.setIfInBounds_toArray, List.set_cons_zero, List.set_cons_succ]
      refine wpAnyH_take (i := 23) (oi := ?oir30_23) (v := ?vr30_23) ?hir30_23 (by kernel_rfl) (by kernel_rfl) (by kernel_rfl) ?hqr30_23 ?hyr30_23 (by assumption) ?restr30_23
      case hir30_23 => simp only [List.getElem?_toArray, List.getElem?_cons_succ, List.getElem?_cons_zero]; rfl
      case hqr30_23 => exact fun _ _ _ h => h
      case hyr30_23 => (refine Or.inl ⟨by rfl, ?_⟩; intro w hSw; (try dsimp only at hSw); go_simp; all_goals with_reducible rfl)
      try simp only [Act.put, List.setIfInBounds_toArray, List.set_cons_zero, List.set_cons_succ]
      refine wpAnyH_take (i := 24) (oi := ?oir30_24) (v := ?vr30_24) ?hir30_24 (by kernel_rfl) (by kernel_rfl) (by kernel_rfl) ?hqr30_24 ?hyr30_24 (by assumption) ?restr30_24
      case hir30_24 => simp only [List.getElem?_toArray, List.getElem?_cons_succ, List.getElem?_cons_zero]; rfl
      case hqr30_24 => exact fun _ _ _ h => h
      case hyr30_24 => (refine Or.inl ⟨by rfl, ?_⟩; intro w hSw; (try dsimp only at hSw); go_simp; all_goals with_reducible rfl)
      try simp only [Act.put, List.setIfInBounds_toArray, List.set_cons_zero, List.set_cons_succ]
      refine wpAnyH_take (i := 25) (oi := ?oir30_25) (v := ?vr30_25) ?hir30_25 (by kernel_rfl) (by kernel_rfl) (by kernel_rfl) ?hqr30_25 ?hyr30_25 (by assumption) ?restr30_25
      case hir30_25 => simp only [List.getElem?_toArray, List.getElem?_cons_succ, List.getElem?_cons_zero]; rfl
      case hqr30_25 => exact fun _ _ _ h => h
      case hyr30_25 => (refine Or.inl ⟨by rfl, ?_⟩; intro w hSw; (try dsimp only at hSw); go_simp; all_goals with_reducible rfl)
      try simp only [Act.put, List.setIfInBounds_toArray, List.set_cons_zero, List.set_cons_succ]
      refine wpAnyH_take (i := 26) (oi := ?oir30_26) (v := ?vr30_26) ?hir30_26 (by kernel_rfl) (by kernel_rfl) (by kernel_rfl) ?hqr30_26 ?hyr30_26 (by assumption) ?restr30_26
      case hir30_26 => simp only [List.getElem?_toArray, List.getElem?_cons_succ, List.getElem?_cons_zero]; rfl
      case hqr30_26 => exact fun _ _ _ h => h
      case hyr30_26 => (refine Or.inl ⟨by rfl, ?_⟩; intro w hSw; (try dsimp only at hSw); go_simp; all_goals with_reducible rfl)
      try simp only [Act.put, List.setIfInBounds_toArray, List.set_cons_zero, List.set_cons_succ]
      have SF := see_fact vld.out.may (x := (-1 : Int)) (Y := -q.ballots) (by decide) (by decide) (by omega)
      rw [SF]
      clear SF
      refine wpAnyH_ready (rs := [27]) (by kernel_rfl) (by simp) ?_
      refine AllReadyH.cons (o := ?or31_27) ?hor31_27 (fun K hK => ?kr31_27) AllReadyH.nil
      case hor31_27 => simp only [List.getElem?_toArray, List.getElem?_cons_succ, List.getElem?_cons_zero]; rfl
      go_simp
      refine (Of_any w2 (factC q (-1 : Int)) (fact_bd vld.out.may (by decide) (by decide)).1).mono ?_
      rintro e2 w3 ⟨af, nf, cf, rfl, yf, hb⟩
      have R1 := R1.later hb
      have ra1 := ra1.below hb
      have rb1 := rb1.below hb
      clear hb
      go_wp2_with fail
      refine hK.out _ _ ?_ (fun hHeld => ?_)
      · exact ⟨R1.cell 0 _ rfl, R1.cell 1 _ rfl, R1.cell 2 _ rfl, R1.cell 8 _ rfl⟩
      clear hK K
      try simp only [Act.put, List.setIfInBounds_toArray, List.set_cons_zero, List.set_cons_succ]
      refine wpAnyH_ready (rs := [28]) (by kernel_rfl) (by simp) ?_
      refine AllReadyH.cons (o := ?or32_28) ?hor32_28 (fun K hK => ?kr32_28) AllReadyH.nil
      case hor32_28 => simp only [List.getElem?_toArray, List.getElem?_cons_succ, List.getElem?_cons_zero]; rfl
      go_simp
      have cc := Mul_any w3 ra1 yf
      rw [mul_ok LP.out (Nat.lt_of_lt_of_le (show factC q (-1 : Int) < pw 2 from (fact_bd vld.out.may (by decide) (by decide)).1) (pw_le (by decide))) LF.out] at cc
      refine cc.mono ?_
      rintro e2 w4 ⟨ax, nx, cx, rfl, yx, hb⟩
      clear cc
      have R1 := R1.later hb
      have ra1 := ra1.below hb
      have rb1 := rb1.below hb
      clear hb yf
      go_wp2_with fail
      refine hK.out _ _ ?_ (fun hHeld => ?_)
      · exact ⟨R1.cell 0 _ rfl, R1.cell 1 _ rfl, R1.cell 2 _ rfl, R1.cell 8 _ rfl⟩
      clear hK K
      try simp only [Act.put, List.setIfInBounds_toArray, List.set_cons_zero, List.set_cons_succ]
      refine wpAnyH_take (i := 29) (oi := ?oir33_29) (v := ?vr33_29) ?hir33_29 (by kernel_rfl) (by kernel_rfl) (by kernel_rfl) ?hqr33_29 ?hyr33_29 (by assumption) ?restr33_29
      case hir33_29 => simp only [List.getElem?_toArray, List.getElem?_cons_succ, List.getElem?_cons_zero]; rfl
      case hqr33_29 => exact fun _ _ _ h => h
      case hyr33_29 => (refine Or.inl ⟨by rfl, ?_⟩; intro w hSw; (try dsimp only at hSw); go_simp; all_goals with_reducible rfl)
      try simp only [Act.put, List.setIfInBounds_toArray, List.set_cons_zero, List.set_cons_succ]
      refine wpAnyH_take (i := 30) (oi := ?oir33_30) (v := ?vr33_30) ?hir33_30 (by kernel_rfl) (by kernel_rfl) (by kernel_rfl) ?hqr33_30 ?hyr33_30 (by assumption) ?restr33_30
      case hir33_30 => simp only [List.getElem?_toArray, List.getElem?_cons_succ, List.getElem?_cons_zero]; rfl
      case hqr33_30 => exact fun _ _ _ h => h
      case hyr33_30 => (refine Or.inl ⟨by rfl, ?_⟩; intro w hSw; (try dsimp only at hSw); go_simp; all_goals with_reducible rfl)
      try simp only [Act.put, List.setIfInBounds_toArray, List.set_cons_zero, List.set_cons_succ]
      refine wpAnyH_take (i := 31) (oi := ?oir33_31) (v := ?vr33_31) ?hir33_31 (by kernel_rfl) (by kernel_rfl) (by kernel_rfl) ?hqr33_31 ?hyr33_31 (by assumption) ?restr33_31
      case hir33_31 => simp only [List.getElem?_toArray, List.getElem?_cons_succ, List.getElem?_cons_zero]; rfl
      case hqr33_31 => exact fun _ _ _ h => h
      case hyr33_31 => (refine Or.inl ⟨by rfl, ?_⟩; intro w hSw; (try dsimp only at hSw); go_simp; all_goals with_reducible rfl)
      try simp only [Act.put, List.setIfInBounds_toArray, List.set_cons_zero, List.set_cons_succ]
      refine wpAnyH_take (i := 32) (oi := ?oir33_32) (v := ?vr33_32) ?hir33_32 (by kernel_rfl) (by kernel_rfl) (by kernel_rfl) ?hqr33_32 ?hyr33_32 (by assumption) ?restr33_32
      case hir33_32 => simp only [List.getElem?_toArray, List.getElem?_cons_succ, List.getElem?_cons_zero]; rfl
      case hqr33_32 => exact fun _ _ _ h => h
      case hyr33_32 => (refine Or.inl ⟨by rfl, ?_⟩; intro w hSw; (try dsimp only at hSw); go_simp; all_goals with_reducible rfl)
      try simp only [Act.put, List.setIfInBounds_toArray, List.set_cons_zero, List.set_cons_succ]
      refine wpAnyH_take (i := 33) (oi := ?oir33_33) (v := ?vr33_33) ?hir33_33 (by kernel_rfl) (by kernel_rfl) (by kernel_rfl) ?hqr33_33 ?hyr33_33 (by assumption) ?restr33_33
      case hir33_33 => simp only [List.getElem?_toArray, List.getElem?_cons_succ, List.getElem?_cons_zero]; rfl
      case hqr33_33 => exact fun _ _ _ h => h
      case hyr33_33 => (refine Or.inl ⟨by rfl, ?_⟩; intro w hSw; (try dsimp only at hSw); go_simp; all_goals with_reducible rfl)
      try simp only [Act.put, List.setIfInBounds_toArray, List.set_cons_zero, List.set_cons_succ]
      refine wpAnyH_done (by kernel_rfl) ?_ _
      clear hHeld
      have cW := see_whole vld.out.may
      go_wp2_with fail
      refine (Of_any w4 (wholeC q) (fact_bd vld.out.may (x := 0) (by decide) (by decide)).2).mono ?_
      rintro e2 w5 ⟨ay, ny, cy, rfl, yy, hb⟩
      have R1 := R1.later hb
      have ra1 := ra1.below hb
      have rb1 := rb1.below hb
      have yx := yx.below hb
      clear hb
      go_wp2_with fail
      have cc := Div_any w5 yx yy
      rw [div_ok LF.out (Nat.lt_of_lt_of_le (show wholeC q < pw 2 from (fact_bd vld.out.may (x := 0) (by decide) (by decide)).2) (pw_le (by decide))) (fact_whole vld.out.may).2] at cc
      refine cc.mono ?_
      rintro e2 w6 ⟨az, nz, cz, ar, nr, cr, rfl, yz, -, hb⟩
      clear cc
      have R1 := R1.later hb
      have ra1 := ra1.below hb
      have rb1 := rb1.below hb
      clear hb yx yy
      have fr8 := R1.free 8
      have k8 := R1.cell 8 _ rfl
      have R2 : PRow 66 wb (w6.setCell ⟨k, 8, none⟩ (.slice az nz cz)) k (cmC (bumpC q (-1 : Int)) az nz cz b m d) := R1.set 8 (.slice az nz cz)
      have yz := rd_setcell (i := 8) yz R1.row (cm_noint _ _ _ _ _ _ _) (.slice az nz cz)
      have rb1 := rd_setcell (i := 8) rb1 R1.row (cm_noint _ _ _ _ _ _ _) (.slice az nz cz)
      clear ra1 R1
      go_upto_region 8 with fail
      clear fr8 k8 cW n1' n2'
      generalize w6.setCell ⟨k, 8, none⟩ (.slice az nz cz) = w7 at *
      by_cases hD : (L * factC q (-1 : Int) / wholeC q) ≤ mostN
      · have NX := Lib.hid (show nextC q L (-1 : Int) = (L * factC q (-1 : Int) / wholeC q) by unfold nextC timesN; exact Nat.min_eq_left hD)
        have DL := Lib.hid (show leC (limbs (L * factC q (-1 : Int) / wholeC q)) [0, 0, 0, 0, 1] = true by rw [← most_limbs, leC_ok (Nat.lt_of_le_of_lt hD most_pw) most_pw]; exact decide_eq_true hD)
        clear hD
        have hb := (Below.refl w7.heap.size w7).drew
        have R2 := R2.later hb
        have yz := yz.below hb
        have rb1 := rb1.below hb
        clear hb
        refine wp_region_held_drew (S := (fun w' => w'.cell? ⟨k, 8, none⟩ = some (.slice az nz cz) ∧ True)) (by kernel_rfl) ?_ (fun hHeld => ?_)
        · exact ⟨R2.cell 8 _ rfl, trivial⟩
        generalize w7.drew = w8 at *
        refine wpAnyH_take (i := 0) (oi := ?oir34_0) (v := ?vr34_0) ?hir34_0 (by kernel_rfl) (by kernel_rfl) (by kernel_rfl) ?hqr34_0 ?hyr34_0 (by assumption) ?restr34_0
        case hir34_0 => simp only [List.getElem?_toArray, List.getElem?_cons_succ, List.getElem?_cons_zero]; rfl
        case hqr34_0 => exact fun _ _ _ h => h
        case hyr34_0 => (refine Or.inl ⟨by rfl, ?_⟩; intro w hSw; (try dsimp only at hSw); go_simp; all_goals with_reducible rfl)
        try simp only [Act.put, List.setIfInBounds_toArray, List.set_cons_zero, List.set_cons_succ]
        refine wpAnyH_take (i := 1) (oi := ?oir34_1) (v := ?vr34_1) ?hir34_1 (by kernel_rfl) (by kernel_rfl) (by kernel_rfl) ?hqr34_1 ?hyr34_1 (by assumption) ?restr34_1
        case hir34_1 => simp only [List.getElem?_toArray, List.getElem?_cons_succ, List.getElem?_cons_zero]; rfl
        case hqr34_1 => exact fun _ _ _ h => h
        case hyr34_1 => (refine Or.inl ⟨by rfl, ?_⟩; intro w hSw; (try dsimp only at hSw); go_simp; all_goals with_reducible rfl)
        try simp only [Act.put, List.setIfInBounds_toArray, List.set_cons_zero, List.set_cons_succ]
        refine wpAnyH_take (i := 2) (oi := ?oir34_2) (v := ?vr34_2) ?hir34_2 (by kernel_rfl) (by kernel_rfl) (by kernel_rfl) ?hqr34_2 ?hyr34_2 (by assumption) ?restr34_2
        case hir34_2 => simp only [List.getElem?_toArray, List.getElem?_cons_succ, List.getElem?_cons_zero]; rfl
        case hqr34_2 => exact fun _ _ _ h => h
        case hyr34_2 => (refine Or.inl ⟨by rfl, ?_⟩; intro w hSw; (try dsimp only at hSw); go_simp; all_goals with_reducible rfl)
        try simp only [Act.put, List.setIfInBounds_toArray, List.set_cons_zero, List.set_cons_succ]
        refine wpAnyH_take (i := 3) (oi := ?oir34_3) (v := ?vr34_3) ?hir34_3 (by kernel_rfl) (by kernel_rfl) (by kernel_rfl) ?hqr34_3 ?hyr34_3 (by assumption) ?restr34_3
        case hir34_3 => simp only [List.getElem?_toArray, List.getElem?_cons_succ, List.getElem?_cons_zero]; rfl
        case hqr34_3 => exact fun _ _ _ h => h
        case hyr34_3 => (refine Or.inl ⟨by rfl, ?_⟩; intro w hSw; (try dsimp only at hSw); go_simp; all_goals with_reducible rfl)
        try simp only [Act.put, List.setIfInBounds_toArray, List.set_cons_zero, List.set_cons_succ]
        refine wpAnyH_take (i := 4) (oi := ?oir34_4) (v := ?vr34_4) ?hir34_4 (by kernel_rfl) (by kernel_rfl) (by kernel_rfl) ?hqr34_4 ?hyr34_4 (by assumption) ?restr34_4
        case hir34_4 => simp only [List.getElem?_toArray, List.getElem?_cons_succ, List.getElem?_cons_zero]; rfl
        case hqr34_4 => exact fun _ _ _ h => h
        case hyr34_4 => (refine Or.inl ⟨by rfl, ?_⟩; intro w hSw; (try dsimp only at hSw); go_simp; all_goals with_reducible rfl)
        try simp only [Act.put, List.setIfInBounds_toArray, List.set_cons_zero, List.set_cons_succ]
        refine wpAnyH_ready (rs := [5]) (by kernel_rfl) (by simp) ?_
        refine AllReadyH.cons (o := ?or35_5) ?hor35_5 (fun K hK => ?kr35_5) AllReadyH.nil
        case hor35_5 => simp only [List.getElem?_toArray, List.getElem?_cons_succ, List.getElem?_cons_zero]; rfl
        go_simp
        refine (cmMost_any w8).mono ?_
        rintro e2 w9 ⟨am, nm, cm, rfl, ym, hb⟩
        have R2 := R2.later hb
        have yz := yz.below hb
        have rb1 := rb1.below hb
        clear hb
        go_wp2_with fail
        refine hK.out _ _ ?_ (fun hHeld => ?_)
        · exact ⟨R2.cell 8 _ rfl, trivial⟩
        clear hK K
        try simp only [Act.put, List.setIfInBounds_toArray, List.set_cons_zero, List.set_cons_succ]
        refine wpAnyH_ready (rs := [6]) (by kernel_rfl) (by simp) ?_
        refine AllReadyH.cons (o := ?or36_6) ?hor36_6 (fun K hK => ?kr36_6) AllReadyH.nil
        case hor36_6 => simp only [List.getElem?_toArray, List.getElem?_cons_succ, List.getElem?_cons_zero]; rfl
        go_simp
        have cc := cmAtMost_any w9 yz ym
        rw [DL.out] at cc
        refine cc.mono ?_
        rintro e2 wA ⟨rfl, hb⟩
        clear cc
        have R2 := R2.later hb
        have yz := yz.below hb
        have rb1 := rb1.below hb
        clear hb ym
        go_wp2_with fail
        refine hK.out _ _ ?_ (fun hHeld => ?_)
        · exact ⟨R2.cell 8 _ rfl, trivial⟩
        clear hK K
        try simp only [Act.put, List.setIfInBounds_toArray, List.set_cons_zero, List.set_cons_succ]
        refine wpAnyH_take (i := 7) (oi := ?oir37_7) (v := ?vr37_7) ?hir37_7 (by kernel_rfl) (by kernel_rfl) (by kernel_rfl) ?hqr37_7 ?hyr37_7 (by assumption) ?restr37_7
        case hir37_7 => simp only [List.getElem?_toArray, List.getElem?_cons_succ, List.getElem?_cons_zero]; rfl
        case hqr37_7 => exact fun _ _ _ h => h
        case hyr37_7 => (refine Or.inl ⟨by rfl, ?_⟩; intro w hSw; (try dsimp only at hSw); go_simp; all_goals with_reducible rfl)
        try simp only [Act.put, List.setIfInBounds_toArray, List.set_cons_zero, List.set_cons_succ]
        refine wpAnyH_done (by kernel_rfl) ?_ _
        clear hHeld
        rw [← NX.out] at yz
        by_cases hB : nextC q L (-1 : Int) ≤ B
        · have BL := Lib.hid (show leC (limbs (nextC q L (-1 : Int))) (limbs B) = true by rw [leC_ok nextC_lt vld.out.pw.2]; exact decide_eq_true hB)
          have HB := Lib.hid hB
          clear hB
          go_upto_region 10 with fail
          have hb := (Below.refl wA.heap.size wA).drew
          have R2 := R2.later hb
          have yz := yz.below hb
          have rb1 := rb1.below hb
          clear hb
          refine wp_region_held_drew (S := (fun w' => w'.cell? ⟨k, 8, none⟩ = some (.slice az nz cz) ∧ w'.cell? ⟨k, 9, none⟩ = some (.slice b m d))) (by kernel_rfl) ?_ (fun hHeld => ?_)
          · exact ⟨R2.cell 8 _ rfl, R2.cell 9 _ rfl⟩
          generalize wA.drew = wD at *
          refine wpAnyH_take (i := 0) (oi := ?oir38_0) (v := ?vr38_0) ?hir38_0 (by kernel_rfl) (by kernel_rfl) (by kernel_rfl) ?hqr38_0 ?hyr38_0 (by assumption) ?restr38_0
          case hir38_0 => simp only [List.getElem?_toArray, List.getElem?_cons_succ, List.getElem?_cons_zero]; rfl
          case hqr38_0 => exact fun _ _ _ h => h
          case hyr38_0 => (refine Or.inl ⟨by rfl, ?_⟩; intro w hSw; (try dsimp only at hSw); go_simp; all_goals with_reducible rfl)
          try simp only [Act.put, List.setIfInBounds_toArray, List.set_cons_zero, List.set_cons_succ]
          refine wpAnyH_take (i := 1) (oi := ?oir38_1) (v := ?vr38_1) ?hir38_1 (by kernel_rfl) (by kernel_rfl) (by kernel_rfl) ?hqr38_1 ?hyr38_1 (by assumption) ?restr38_1
          case hir38_1 => simp only [List.getElem?_toArray, List.getElem?_cons_succ, List.getElem?_cons_zero]; rfl
          case hqr38_1 => exact fun _ _ _ h => h
          case hyr38_1 => (refine Or.inl ⟨by rfl, ?_⟩; intro w hSw; (try dsimp only at hSw); go_simp; all_goals with_reducible rfl)
          try simp only [Act.put, List.setIfInBounds_toArray, List.set_cons_zero, List.set_cons_succ]
          refine wpAnyH_take (i := 2) (oi := ?oir38_2) (v := ?vr38_2) ?hir38_2 (by kernel_rfl) (by kernel_rfl) (by kernel_rfl) ?hqr38_2 ?hyr38_2 (by assumption) ?restr38_2
          case hir38_2 => simp only [List.getElem?_toArray, List.getElem?_cons_succ, List.getElem?_cons_zero]; rfl
          case hqr38_2 => exact fun _ _ _ h => h
          case hyr38_2 => (refine Or.inl ⟨by rfl, ?_⟩; intro w hSw; (try dsimp only at hSw); go_simp; all_goals with_reducible rfl)
          try simp only [Act.put, List.setIfInBounds_toArray, List.set_cons_zero, List.set_cons_succ]
          refine wpAnyH_take (i := 3) (oi := ?oir38_3) (v := ?vr38_3) ?hir38_3 (by kernel_rfl) (by kernel_rfl) (by kernel_rfl) ?hqr38_3 ?hyr38_3 (by assumption) ?restr38_3
          case hir38_3 => simp only [List.getElem?_toArray, List.getElem?_cons_succ, List.getElem?_cons_zero]; rfl
          case hqr38_3 => exact fun _ _ _ h => h
          case hyr38_3 => (refine Or.inl ⟨by rfl, ?_⟩; intro w hSw; (try dsimp only at hSw); go_simp; all_goals with_reducible rfl)
          try simp only [Act.put, List.setIfInBounds_toArray, List.set_cons_zero, List.set_cons_succ]
          refine wpAnyH_take (i := 4) (oi := ?oir38_4) (v := ?vr38_4) ?hir38_4 (by kernel_rfl) (by kernel_rfl) (by kernel_rfl) ?hqr38_4 ?hyr38_4 (by assumption) ?restr38_4
          case hir38_4 => simp only [List.getElem?_toArray, List.getElem?_cons_succ, List.getElem?_cons_zero]; rfl
          case hqr38_4 => exact fun _ _ _ h => h
          case hyr38_4 => (refine Or.inl ⟨by rfl, ?_⟩; intro w hSw; (try dsimp only at hSw); go_simp; all_goals with_reducible rfl)
          try simp only [Act.put, List.setIfInBounds_toArray, List.set_cons_zero, List.set_cons_succ]
          refine wpAnyH_take (i := 5) (oi := ?oir38_5) (v := ?vr38_5) ?hir38_5 (by kernel_rfl) (by kernel_rfl) (by kernel_rfl) ?hqr38_5 ?hyr38_5 (by assumption) ?restr38_5
          case hir38_5 => simp only [List.getElem?_toArray, List.getElem?_cons_succ, List.getElem?_cons_zero]; rfl
          case hqr38_5 => exact fun _ _ _ h => h
          case hyr38_5 => (refine Or.inl ⟨by rfl, ?_⟩; intro w hSw; (try dsimp only at hSw); go_simp; all_goals with_reducible rfl)
          try simp only [Act.put, List.setIfInBounds_toArray, List.set_cons_zero, List.set_cons_succ]
          refine wpAnyH_take (i := 6) (oi := ?oir38_6) (v := ?vr38_6) ?hir38_6 (by kernel_rfl) (by kernel_rfl) (by kernel_rfl) ?hqr38_6 ?hyr38_6 (by assumption) ?restr38_6
          case hir38_6 => simp only [List.getElem?_toArray, List.getElem?_cons_succ, List.getElem?_cons_zero]; rfl
          case hqr38_6 => exact fun _ _ _ h => h
          case hyr38_6 => (refine Or.inl ⟨by rfl, ?_⟩; intro w hSw; (try dsimp only at hSw); go_simp; all_goals with_reducible rfl)
          try simp only [Act.put, List.setIfInBounds_toArray, List.set_cons_zero, List.set_cons_succ]
          refine wpAnyH_take (i := 7) (oi := ?oir38_7) (v := ?vr38_7) ?hir38_7 (by kernel_rfl) (by kernel_rfl) (by kernel_rfl) ?hqr38_7 ?hyr38_7 (by assumption) ?restr38_7
          case hir38_7 => simp only [List.getElem?_toArray, List.getElem?_cons_succ, List.getElem?_cons_zero]; rfl
          case hqr38_7 => exact fun _ _ _ h => h
          case hyr38_7 => (refine Or.inl ⟨by rfl, ?_⟩; intro w hSw; (try dsimp only at hSw); go_simp; all_goals with_reducible rfl)
          try simp only [Act.put, List.setIfInBounds_toArray, List.set_cons_zero, List.set_cons_succ]
          refine wpAnyH_take (i := 8) (oi := ?oir38_8) (v := ?vr38_8) ?hir38_8 (by kernel_rfl) (by kernel_rfl) (by kernel_rfl) ?hqr38_8 ?hyr38_8 (by assumption) ?restr38_8
          case hir38_8 => simp only [List.getElem?_toArray, List.getElem?_cons_succ, List.getElem?_cons_zero]; rfl
          case hqr38_8 => exact fun _ _ _ h => h
          case hyr38_8 => (refine Or.inl ⟨by rfl, ?_⟩; intro w hSw; (try dsimp only at hSw); go_simp; all_goals with_reducible rfl)
          try simp only [Act.put, List.setIfInBounds_toArray, List.set_cons_zero, List.set_cons_succ]
          refine wpAnyH_take (i := 9) (oi := ?oir38_9) (v := ?vr38_9) ?hir38_9 (by kernel_rfl) (by kernel_rfl) (by kernel_rfl) ?hqr38_9 ?hyr38_9 (by assumption) ?restr38_9
          case hir38_9 => simp only [List.getElem?_toArray, List.getElem?_cons_succ, List.getElem?_cons_zero]; rfl
          case hqr38_9 => exact fun _ _ _ h => h
          case hyr38_9 => (refine Or.inl ⟨by rfl, ?_⟩; intro w hSw; (try dsimp only at hSw); go_simp; all_goals with_reducible rfl)
          try simp only [Act.put, List.setIfInBounds_toArray, List.set_cons_zero, List.set_cons_succ]
          refine wpAnyH_ready (rs := [10]) (by kernel_rfl) (by simp) ?_
          refine AllReadyH.cons (o := ?or39_10) ?hor39_10 (fun K hK => ?kr39_10) AllReadyH.nil
          case hor39_10 => simp only [List.getElem?_toArray, List.getElem?_cons_succ, List.getElem?_cons_zero]; rfl
          go_simp
          have cc := cmAtMost_any wD yz rb1
          rw [BL.out] at cc
          refine cc.mono ?_
          rintro e2 wE ⟨rfl, hb⟩
          clear cc
          have R2 := R2.later hb
          have yz := yz.below hb
          have rb1 := rb1.below hb
          clear hb
          go_wp2_with fail
          refine hK.out _ _ ?_ (fun hHeld => ?_)
          · exact ⟨R2.cell 8 _ rfl, R2.cell 9 _ rfl⟩
          clear hK K
          try simp only [Act.put, List.setIfInBounds_toArray, List.set_cons_zero, List.set_cons_succ]
          refine wpAnyH_take (i := 11) (oi := ?oir40_11) (v := ?vr40_11) ?hir40_11 (by kernel_rfl) (by kernel_rfl) (by kernel_rfl) ?hqr40_11 ?hyr40_11 (by assumption) ?restr40_11
          case hir40_11 => simp only [List.getElem?_toArray, List.getElem?_cons_succ, List.getElem?_cons_zero]; rfl
          case hqr40_11 => exact fun _ _ _ h => h
          case hyr40_11 => (refine Or.inl ⟨by rfl, ?_⟩; intro w hSw; (try dsimp only at hSw); go_simp; all_goals with_reducible rfl)
          try simp only [Act.put, List.setIfInBounds_toArray, List.set_cons_zero, List.set_cons_succ]
          refine wpAnyH_done (by kernel_rfl) ?_ _
          clear hHeld
          go_wp2_with fail
          go_ret
          refine .inr ⟨_, _, _, _, _, _, e.out, rfl, R2, ?_, ?_⟩
          · rw [(show (stepC q (-1 : Int)).lev = limbs (nextC q L (-1 : Int)) by show limbs (nextC q (val q.lev) (-1 : Int)) = _; rw [vld.out.lev, val_limbs])]; exact yz
          · rw [(show (stepC q (-1 : Int)).best = limbs B by show limbs (max (val q.best) (nextC q (val q.lev) (-1 : Int))) = _; rw [vld.out.lev, vld.out.best, val_limbs, val_limbs, Nat.max_eq_left HB.out])]; exact rb1
        · have BL := Lib.hid (show leC (limbs (nextC q L (-1 : Int))) (limbs B) = false by rw [leC_ok nextC_lt vld.out.pw.2]; exact decide_eq_false hB)
          have HB := Lib.hid hB
          clear hB
          go_upto_region 10 with fail
          have hb := (Below.refl wA.heap.size wA).drew
          have R2 := R2.later hb
          have yz := yz.below hb
          have rb1 := rb1.below hb
          clear hb
          refine wp_region_held_drew (S := (fun w' => w'.cell? ⟨k, 8, none⟩ = some (.slice az nz cz) ∧ w'.cell? ⟨k, 9, none⟩ = some (.slice b m d))) (by kernel_rfl) ?_ (fun hHeld => ?_)
          · exact ⟨R2.cell 8 _ rfl, R2.cell 9 _ rfl⟩
          generalize wA.drew = wD at *
          refine wpAnyH_take (i := 0) (oi := ?oir41_0) (v := ?vr41_0) ?hir41_0 (by kernel_rfl) (by kernel_rfl) (by kernel_rfl) ?hqr41_0 ?hyr41_0 (by assumption) ?restr41_0
          case hir41_0 => simp only [List.getElem?_toArray, List.getElem?_cons_succ, List.getElem?_cons_zero]; rfl
          case hqr41_0 => exact fun _ _ _ h => h
          case hyr41_0 => (refine Or.inl ⟨by rfl, ?_⟩; intro w hSw; (try dsimp only at hSw); go_simp; all_goals with_reducible rfl)
          try simp only [Act.put, List.setIfInBounds_toArray, List.set_cons_zero, List.set_cons_succ]
          refine wpAnyH_take (i := 1) (oi := ?oir41_1) (v := ?vr41_1) ?hir41_1 (by kernel_rfl) (by kernel_rfl) (by kernel_rfl) ?hqr41_1 ?hyr41_1 (by assumption) ?restr41_1
          case hir41_1 => simp only [List.getElem?_toArray, List.getElem?_cons_succ, List.getElem?_cons_zero]; rfl
          case hqr41_1 => exact fun _ _ _ h => h
          case hyr41_1 => (refine Or.inl ⟨by rfl, ?_⟩; intro w hSw; (try dsimp only at hSw); go_simp; all_goals with_reducible rfl)
          try simp only [Act.put, List.setIfInBounds_toArray, List.set_cons_zero, List.set_cons_succ]
          refine wpAnyH_take (i := 2) (oi := ?oir41_2) (v := ?vr41_2) ?hir41_2 (by kernel_rfl) (by kernel_rfl) (by kernel_rfl) ?hqr41_2 ?hyr41_2 (by assumption) ?restr41_2
          case hir41_2 => simp only [List.getElem?_toArray, List.getElem?_cons_succ, List.getElem?_cons_zero]; rfl
          case hqr41_2 => exact fun _ _ _ h => h
          case hyr41_2 => (refine Or.inl ⟨by rfl, ?_⟩; intro w hSw; (try dsimp only at hSw); go_simp; all_goals with_reducible rfl)
          try simp only [Act.put, List.setIfInBounds_toArray, List.set_cons_zero, List.set_cons_succ]
          refine wpAnyH_take (i := 3) (oi := ?oir41_3) (v := ?vr41_3) ?hir41_3 (by kernel_rfl) (by kernel_rfl) (by kernel_rfl) ?hqr41_3 ?hyr41_3 (by assumption) ?restr41_3
          case hir41_3 => simp only [List.getElem?_toArray, List.getElem?_cons_succ, List.getElem?_cons_zero]; rfl
          case hqr41_3 => exact fun _ _ _ h => h
          case hyr41_3 => (refine Or.inl ⟨by rfl, ?_⟩; intro w hSw; (try dsimp only at hSw); go_simp; all_goals with_reducible rfl)
          try simp only [Act.put, List.setIfInBounds_toArray, List.set_cons_zero, List.set_cons_succ]
          refine wpAnyH_take (i := 4) (oi := ?oir41_4) (v := ?vr41_4) ?hir41_4 (by kernel_rfl) (by kernel_rfl) (by kernel_rfl) ?hqr41_4 ?hyr41_4 (by assumption) ?restr41_4
          case hir41_4 => simp only [List.getElem?_toArray, List.getElem?_cons_succ, List.getElem?_cons_zero]; rfl
          case hqr41_4 => exact fun _ _ _ h => h
          case hyr41_4 => (refine Or.inl ⟨by rfl, ?_⟩; intro w hSw; (try dsimp only at hSw); go_simp; all_goals with_reducible rfl)
          try simp only [Act.put, List.setIfInBounds_toArray, List.set_cons_zero, List.set_cons_succ]
          refine wpAnyH_take (i := 5) (oi := ?oir41_5) (v := ?vr41_5) ?hir41_5 (by kernel_rfl) (by kernel_rfl) (by kernel_rfl) ?hqr41_5 ?hyr41_5 (by assumption) ?restr41_5
          case hir41_5 => simp only [List.getElem?_toArray, List.getElem?_cons_succ, List.getElem?_cons_zero]; rfl
          case hqr41_5 => exact fun _ _ _ h => h
          case hyr41_5 => (refine Or.inl ⟨by rfl, ?_⟩; intro w hSw; (try dsimp only at hSw); go_simp; all_goals with_reducible rfl)
          try simp only [Act.put, List.setIfInBounds_toArray, List.set_cons_zero, List.set_cons_succ]
          refine wpAnyH_take (i := 6) (oi := ?oir41_6) (v := ?vr41_6) ?hir41_6 (by kernel_rfl) (by kernel_rfl) (by kernel_rfl) ?hqr41_6 ?hyr41_6 (by assumption) ?restr41_6
          case hir41_6 => simp only [List.getElem?_toArray, List.getElem?_cons_succ, List.getElem?_cons_zero]; rfl
          case hqr41_6 => exact fun _ _ _ h => h
          case hyr41_6 => (refine Or.inl ⟨by rfl, ?_⟩; intro w hSw; (try dsimp only at hSw); go_simp; all_goals with_reducible rfl)
          try simp only [Act.put, List.setIfInBounds_toArray, List.set_cons_zero, List.set_cons_succ]
          refine wpAnyH_take (i := 7) (oi := ?oir41_7) (v := ?vr41_7) ?hir41_7 (by kernel_rfl) (by kernel_rfl) (by kernel_rfl) ?hqr41_7 ?hyr41_7 (by assumption) ?restr41_7
          case hir41_7 => simp only [List.getElem?_toArray, List.getElem?_cons_succ, List.getElem?_cons_zero]; rfl
          case hqr41_7 => exact fun _ _ _ h => h
          case hyr41_7 => (refine Or.inl ⟨by rfl, ?_⟩; intro w hSw; (try dsimp only at hSw); go_simp; all_goals with_reducible rfl)
          try simp only [Act.put, List.setIfInBounds_toArray, List.set_cons_zero, List.set_cons_succ]
          refine wpAnyH_take (i := 8) (oi := ?oir41_8) (v := ?vr41_8) ?hir41_8 (by kernel_rfl) (by kernel_rfl) (by kernel_rfl) ?hqr41_8 ?hyr41_8 (by assumption) ?restr41_8
          case hir41_8 => simp only [List.getElem?_toArray, List.getElem?_cons_succ, List.getElem?_cons_zero]; rfl
          case hqr41_8 => exact fun _ _ _ h => h
          case hyr41_8 => (refine Or.inl ⟨by rfl, ?_⟩; intro w hSw; (try dsimp only at hSw); go_simp; all_goals with_reducible rfl)
          try simp only [Act.put, List.setIfInBounds_toArray, List.set_cons_zero, List.set_cons_succ]
          refine wpAnyH_take (i := 9) (oi := ?oir41_9) (v := ?vr41_9) ?hir41_9 (by kernel_rfl) (by kernel_rfl) (by kernel_rfl) ?hqr41_9 ?hyr41_9 (by assumption) ?restr41_9
          case hir41_9 => simp only [List.getElem?_toArray, List.getElem?_cons_succ, List.getElem?_cons_zero]; rfl
          case hqr41_9 => exact fun _ _ _ h => h
          case hyr41_9 => (refine Or.inl ⟨by rfl, ?_⟩; intro w hSw; (try dsimp only at hSw); go_simp; all_goals with_reducible rfl)
          try simp only [Act.put, List.setIfInBounds_toArray, List.set_cons_zero, List.set_cons_succ]
          refine wpAnyH_ready (rs := [10]) (by kernel_rfl) (by simp) ?_
          refine AllReadyH.cons (o := ?or42_10) ?hor42_10 (fun K hK => ?kr42_10) AllReadyH.nil
          case hor42_10 => simp only [List.getElem?_toArray, List.getElem?_cons_succ, List.getElem?_cons_zero]; rfl
          go_simp
          have cc := cmAtMost_any wD yz rb1
          rw [BL.out] at cc
          refine cc.mono ?_
          rintro e2 wE ⟨rfl, hb⟩
          clear cc
          have R2 := R2.later hb
          have yz := yz.below hb
          have rb1 := rb1.below hb
          clear hb
          go_wp2_with fail
          refine hK.out _ _ ?_ (fun hHeld => ?_)
          · exact ⟨R2.cell 8 _ rfl, R2.cell 9 _ rfl⟩
          clear hK K
          try simp only [Act.put, List.setIfInBounds_toArray, List.set_cons_zero, List.set_cons_succ]
          refine wpAnyH_take (i := 11) (oi := ?oir43_11) (v := ?vr43_11) ?hir43_11 (by kernel_rfl) (by kernel_rfl) (by kernel_rfl) ?hqr43_11 ?hyr43_11 (by assumption) ?restr43_11
          case hir43_11 => simp only [List.getElem?_toArray, List.getElem?_cons_succ, List.getElem?_cons_zero]; rfl
          case hqr43_11 => exact fun _ _ _ h => h
          case hyr43_11 => (refine Or.inl ⟨by rfl, ?_⟩; intro w hSw; (try dsimp only at hSw); go_simp; all_goals with_reducible rfl)
          try simp only [Act.put, List.setIfInBounds_toArray, List.set_cons_zero, List.set_cons_succ]
          refine wpAnyH_done (by kernel_rfl) ?_ _
          clear hHeld
          have k8 : wE.cell? ⟨k, 8, none⟩ = some (.slice az nz cz) := R2.cell 8 _ rfl
          go_wp2_with fail
          refine (Clone_any wE yz (by have h1 := yz.len; have h2 := limbs_len_le (k := 96) (show nextC q L (-1 : Int) < pw 96 from Nat.lt_of_le_of_lt (Nat.min_le_right _ _) most_pw); omega)).mono ?_
          rintro e2 wF ⟨ak, nk, ck, rfl, yk, hb⟩
          have R2 := R2.later hb
          have yz := yz.below hb
          have rb1 := rb1.below hb
          clear hb k8
          have fr9 := R2.free 9
          have k9 := R2.cell 9 _ rfl
          have R4 : PRow 66 wb (wF.setCell ⟨k, 9, none⟩ (.slice ak nk ck)) k (cmC (bumpC q (-1 : Int)) az nz cz ak nk ck) := R2.set 9 (.slice ak nk ck)
          have yk := rd_setcell (i := 9) yk R2.row (cm_noint _ _ _ _ _ _ _) (.slice ak nk ck)
          have yl := rd_setcell (i := 9) yz R2.row (cm_noint _ _ _ _ _ _ _) (.slice ak nk ck)
          go_wp2_with fail
          go_ret
          refine .inr ⟨_, _, _, _, _, _, e.out, rfl, R4, ?_, ?_⟩
          · rw [(show (stepC q (-1 : Int)).lev = limbs (nextC q L (-1 : Int)) by show limbs (nextC q (val q.lev) (-1 : Int)) = _; rw [vld.out.lev, val_limbs])]; exact yl
          · rw [(show (stepC q (-1 : Int)).best = limbs (nextC q L (-1 : Int)) by show limbs (max (val q.best) (nextC q (val q.lev) (-1 : Int))) = _; rw [vld.out.lev, vld.out.best, val_limbs, val_limbs, Nat.max_eq_right (Nat.le_of_lt (Nat.lt_of_not_le HB.out))])]; exact yk
      · have NX := Lib.hid (show nextC q L (-1 : Int) = mostN by unfold nextC timesN; exact Nat.min_eq_right (Nat.le_of_lt (Nat.lt_of_not_le hD)))
        have DL := Lib.hid (show leC (limbs (L * factC q (-1 : Int) / wholeC q)) [0, 0, 0, 0, 1] = false by rw [← most_limbs, leC_ok (Nat.lt_of_le_of_lt (Nat.div_le_self _ _) LF.out) most_pw]; exact decide_eq_false hD)
        clear hD
        have hb := (Below.refl w7.heap.size w7).drew
        have R2 := R2.later hb
        have yz := yz.below hb
        have rb1 := rb1.below hb
        clear hb
        refine wp_region_held_drew (S := (fun w' => w'.cell? ⟨k, 8, none⟩ = some (.slice az nz cz) ∧ True)) (by kernel_rfl) ?_ (fun hHeld => ?_)
        · exact ⟨R2.cell 8 _ rfl, trivial⟩
        generalize w7.drew = w8 at *
        refine wpAnyH_take (i := 0) (oi := ?oir44_0) (v := ?vr44_0) ?hir44_0 (by kernel_rfl) (by kernel_rfl) (by kernel_rfl) ?hqr44_0 ?hyr44_0 (by assumption) ?restr44_0
        case hir44_0 => simp only [List.getElem?_toArray, List.getElem?_cons_succ, List.getElem?_cons_zero]; rfl
        case hqr44_0 => exact fun _ _ _ h => h
        case hyr44_0 => (refine Or.inl ⟨by rfl, ?_⟩; intro w hSw; (try dsimp only at hSw); go_simp; all_goals with_reducible rfl)
        try simp only [Act.put, List.setIfInBounds_toArray, List.set_cons_zero, List.set_cons_succ]
        refine wpAnyH_take (i := 1) (oi := ?oir44_1) (v := ?vr44_1) ?hir44_1 (by kernel_rfl) (by kernel_rfl) (by kernel_rfl) ?hqr44_1 ?hyr44_1 (by assumption) ?restr44_1
        case hir44_1 => simp only [List.getElem?_toArray, List.getElem?_cons_succ, List.getElem?_cons_zero]; rfl
        case hqr44_1 => exact fun _ _ _ h => h
        case hyr44_1 => (refine Or.inl ⟨by rfl, ?_⟩; intro w hSw; (try dsimp only at hSw); go_simp; all_goals with_reducible rfl)
        try simp only [Act.put, List.setIfInBounds_toArray, List.set_cons_zero, List.set_cons_succ]
        refine wpAnyH_take (i := 2) (oi := ?oir44_2) (v := ?vr44_2) ?hir44_2 (by kernel_rfl) (by kernel_rfl) (by kernel_rfl) ?hqr44_2 ?hyr44_2 (by assumption) ?restr44_2
        case hir44_2 => simp only [List.getElem?_toArray, List.getElem?_cons_succ, List.getElem?_cons_zero]; rfl
        case hqr44_2 => exact fun _ _ _ h => h
        case hyr44_2 => (refine Or.inl ⟨by rfl, ?_⟩; intro w hSw; (try dsimp only at hSw); go_simp; all_goals with_reducible rfl)
        try simp only [Act.put, List.setIfInBounds_toArray, List.set_cons_zero, List.set_cons_succ]
        refine wpAnyH_take (i := 3) (oi := ?oir44_3) (v := ?vr44_3) ?hir44_3 (by kernel_rfl) (by kernel_rfl) (by kernel_rfl) ?hqr44_3 ?hyr44_3 (by assumption) ?restr44_3
        case hir44_3 => simp only [List.getElem?_toArray, List.getElem?_cons_succ, List.getElem?_cons_zero]; rfl
        case hqr44_3 => exact fun _ _ _ h => h
        case hyr44_3 => (refine Or.inl ⟨by rfl, ?_⟩; intro w hSw; (try dsimp only at hSw); go_simp; all_goals with_reducible rfl)
        try simp only [Act.put, List.setIfInBounds_toArray, List.set_cons_zero, List.set_cons_succ]
        refine wpAnyH_take (i := 4) (oi := ?oir44_4) (v := ?vr44_4) ?hir44_4 (by kernel_rfl) (by kernel_rfl) (by kernel_rfl) ?hqr44_4 ?hyr44_4 (by assumption) ?restr44_4
        case hir44_4 => simp only [List.getElem?_toArray, List.getElem?_cons_succ, List.getElem?_cons_zero]; rfl
        case hqr44_4 => exact fun _ _ _ h => h
        case hyr44_4 => (refine Or.inl ⟨by rfl, ?_⟩; intro w hSw; (try dsimp only at hSw); go_simp; all_goals with_reducible rfl)
        try simp only [Act.put, List.setIfInBounds_toArray, List.set_cons_zero, List.set_cons_succ]
        refine wpAnyH_ready (rs := [5]) (by kernel_rfl) (by simp) ?_
        refine AllReadyH.cons (o := ?or45_5) ?hor45_5 (fun K hK => ?kr45_5) AllReadyH.nil
        case hor45_5 => simp only [List.getElem?_toArray, List.getElem?_cons_succ, List.getElem?_cons_zero]; rfl
        go_simp
        refine (cmMost_any w8).mono ?_
        rintro e2 w9 ⟨am, nm, cm, rfl, ym, hb⟩
        have R2 := R2.later hb
        have yz := yz.below hb
        have rb1 := rb1.below hb
        clear hb
        go_wp2_with fail
        refine hK.out _ _ ?_ (fun hHeld => ?_)
        · exact ⟨R2.cell 8 _ rfl, trivial⟩
        clear hK K
        try simp only [Act.put, List.setIfInBounds_toArray, List.set_cons_zero, List.set_cons_succ]
        refine wpAnyH_ready (rs := [6]) (by kernel_rfl) (by simp) ?_
        refine AllReadyH.cons (o := ?or46_6) ?hor46_6 (fun K hK => ?kr46_6) AllReadyH.nil
        case hor46_6 => simp only [List.getElem?_toArray, List.getElem?_cons_succ, List.getElem?_cons_zero]; rfl
        go_simp
        have cc := cmAtMost_any w9 yz ym
        rw [DL.out] at cc
        refine cc.mono ?_
        rintro e2 wA ⟨rfl, hb⟩
        clear cc
        have R2 := R2.later hb
        have yz := yz.below hb
        have rb1 := rb1.below hb
        clear hb ym
        go_wp2_with fail
        refine hK.out _ _ ?_ (fun hHeld => ?_)
        · exact ⟨R2.cell 8 _ rfl, trivial⟩
        clear hK K
        try simp only [Act.put, List.setIfInBounds_toArray, List.set_cons_zero, List.set_cons_succ]
        refine wpAnyH_take (i := 7) (oi := ?oir47_7) (v := ?vr47_7) ?hir47_7 (by kernel_rfl) (by kernel_rfl) (by kernel_rfl) ?hqr47_7 ?hyr47_7 (by assumption) ?restr47_7
        case hir47_7 => simp only [List.getElem?_toArray, List.getElem?_cons_succ, List.getElem?_cons_zero]; rfl
        case hqr47_7 => exact fun _ _ _ h => h
        case hyr47_7 => (refine Or.inl ⟨by rfl, ?_⟩; intro w hSw; (try dsimp only at hSw); go_simp; all_goals with_reducible rfl)
        try simp only [Act.put, List.setIfInBounds_toArray, List.set_cons_zero, List.set_cons_succ]
        refine wpAnyH_done (by kernel_rfl) ?_ _
        clear hHeld
        go_wp2_with fail
        refine (cmMost_any wA).mono ?_
        rintro e2 wB ⟨as', ns', cs', rfl, ys, hb⟩
        have R2 := R2.later hb
        have yz := yz.below hb
        have rb1 := rb1.below hb
        clear hb
        have fr8 := R2.free 8
        have k8 := R2.cell 8 _ rfl
        have R3 : PRow 66 wb (wB.setCell ⟨k, 8, none⟩ (.slice as' ns' cs')) k (cmC (bumpC q (-1 : Int)) as' ns' cs' b m d) := R2.set 8 (.slice as' ns' cs')
        have ys := rd_setcell (i := 8) ys R2.row (cm_noint _ _ _ _ _ _ _) (.slice as' ns' cs')
        have rb1 := rd_setcell (i := 8) rb1 R2.row (cm_noint _ _ _ _ _ _ _) (.slice as' ns' cs')
        clear R2 yz
        rw [← most_limbs, ← NX.out] at ys
        go_upto_region 10 with fail
        clear fr8 k8
        generalize wB.setCell ⟨k, 8, none⟩ (.slice as' ns' cs') = wC at *
        by_cases hB : nextC q L (-1 : Int) ≤ B
        · have BL := Lib.hid (show leC (limbs (nextC q L (-1 : Int))) (limbs B) = true by rw [leC_ok nextC_lt vld.out.pw.2]; exact decide_eq_true hB)
          have HB := Lib.hid hB
          clear hB
          have hb := (Below.refl wC.heap.size wC).drew
          have R3 := R3.later hb
          have ys := ys.below hb
          have rb1 := rb1.below hb
          clear hb
          refine wp_region_held_drew (S := (fun w' => w'.cell? ⟨k, 8, none⟩ = some (.slice as' ns' cs') ∧ w'.cell? ⟨k, 9, none⟩ = some (.slice b m d))) (by kernel_rfl) ?_ (fun hHeld => ?_)
          · exact ⟨R3.cell 8 _ rfl, R3.cell 9 _ rfl⟩
          generalize wC.drew = wD at *
          refine wpAnyH_take (i := 0) (oi := ?oir48_0) (v := ?vr48_0) ?hir48_0 (by kernel_rfl) (by kernel_rfl) (by kernel_rfl) ?hqr48_0 ?hyr48_0 (by assumption) ?restr48_0
          case hir48_0 => simp only [List.getElem?_toArray, List.getElem?_cons_succ, List.getElem?_cons_zero]; rfl
          case hqr48_0 => exact fun _ _ _ h => h
          case hyr48_0 => (refine Or.inl ⟨by rfl, ?_⟩; intro w hSw; (try dsimp only at hSw); go_simp; all_goals with_reducible rfl)
          try simp only [Act.put, List.setIfInBounds_toArray, List.set_cons_zero, List.set_cons_succ]
          refine wpAnyH_take (i := 1) (oi := ?oir48_1) (v := ?vr48_1) ?hir48_1 (by kernel_rfl) (by kernel_rfl) (by kernel_rfl) ?hqr48_1 ?hyr48_1 (by assumption) ?restr48_1
          case hir48_1 => simp only [List.getElem?_toArray, List.getElem?_cons_succ, List.getElem?_cons_zero]; rfl
          case hqr48_1 => exact fun _ _ _ h => h
          case hyr48_1 => (refine Or.inl ⟨by rfl, ?_⟩; intro w hSw; (try dsimp only at hSw); go_simp; all_goals with_reducible rfl)
          try simp only [Act.put, List.setIfInBounds_toArray, List.set_cons_zero, List.set_cons_succ]
          refine wpAnyH_take (i := 2) (oi := ?oir48_2) (v := ?vr48_2) ?hir48_2 (by kernel_rfl) (by kernel_rfl) (by kernel_rfl) ?hqr48_2 ?hyr48_2 (by assumption) ?restr48_2
          case hir48_2 => simp only [List.getElem?_toArray, List.getElem?_cons_succ, List.getElem?_cons_zero]; rfl
          case hqr48_2 => exact fun _ _ _ h => h
          case hyr48_2 => (refine Or.inl ⟨by rfl, ?_⟩; intro w hSw; (try dsimp only at hSw); go_simp; all_goals with_reducible rfl)
          try simp only [Act.put, List.setIfInBounds_toArray, List.set_cons_zero, List.set_cons_succ]
          refine wpAnyH_take (i := 3) (oi := ?oir48_3) (v := ?vr48_3) ?hir48_3 (by kernel_rfl) (by kernel_rfl) (by kernel_rfl) ?hqr48_3 ?hyr48_3 (by assumption) ?restr48_3
          case hir48_3 => simp only [List.getElem?_toArray, List.getElem?_cons_succ, List.getElem?_cons_zero]; rfl
          case hqr48_3 => exact fun _ _ _ h => h
          case hyr48_3 => (refine Or.inl ⟨by rfl, ?_⟩; intro w hSw; (try dsimp only at hSw); go_simp; all_goals with_reducible rfl)
          try simp only [Act.put, List.setIfInBounds_toArray, List.set_cons_zero, List.set_cons_succ]
          refine wpAnyH_take (i := 4) (oi := ?oir48_4) (v := ?vr48_4) ?hir48_4 (by kernel_rfl) (by kernel_rfl) (by kernel_rfl) ?hqr48_4 ?hyr48_4 (by assumption) ?restr48_4
          case hir48_4 => simp only [List.getElem?_toArray, List.getElem?_cons_succ, List.getElem?_cons_zero]; rfl
          case hqr48_4 => exact fun _ _ _ h => h
          case hyr48_4 => (refine Or.inl ⟨by rfl, ?_⟩; intro w hSw; (try dsimp only at hSw); go_simp; all_goals with_reducible rfl)
          try simp only [Act.put, List.setIfInBounds_toArray, List.set_cons_zero, List.set_cons_succ]
          refine wpAnyH_take (i := 5) (oi := ?oir48_5) (v := ?vr48_5) ?hir48_5 (by kernel_rfl) (by kernel_rfl) (by kernel_rfl) ?hqr48_5 ?hyr48_5 (by assumption) ?restr48_5
          case hir48_5 => simp only [List.getElem?_toArray, List.getElem?_cons_succ, List.getElem?_cons_zero]; rfl
          case hqr48_5 => exact fun _ _ _ h => h
          case hyr48_5 => (refine Or.inl ⟨by rfl, ?_⟩; intro w hSw; (try dsimp only at hSw); go_simp; all_goals with_reducible rfl)
          try simp only [Act.put, List.setIfInBounds_toArray, List.set_cons_zero, List.set_cons_succ]
          refine wpAnyH_take (i := 6) (oi := ?oir48_6) (v := ?vr48_6) ?hir48_6 (by kernel_rfl) (by kernel_rfl) (by kernel_rfl) ?hqr48_6 ?hyr48_6 (by assumption) ?restr48_6
          case hir48_6 => simp only [List.getElem?_toArray, List.getElem?_cons_succ, List.getElem?_cons_zero]; rfl
          case hqr48_6 => exact fun _ _ _ h => h
          case hyr48_6 => (refine Or.inl ⟨by rfl, ?_⟩; intro w hSw; (try dsimp only at hSw); go_simp; all_goals with_reducible rfl)
          try simp only [Act.put, List.setIfInBounds_toArray, List.set_cons_zero, List.set_cons_succ]
          refine wpAnyH_take (i := 7) (oi := ?oir48_7) (v := ?vr48_7) ?hir48_7 (by kernel_rfl) (by kernel_rfl) (by kernel_rfl) ?hqr48_7 ?hyr48_7 (by assumption) ?restr48_7
          case hir48_7 => simp only [List.getElem?_toArray, List.getElem?_cons_succ, List.getElem?_cons_zero]; rfl
          case hqr48_7 => exact fun _ _ _ h => h
          case hyr48_7 => (refine Or.inl ⟨by rfl, ?_⟩; intro w hSw; (try dsimp only at hSw); go_simp; all_goals with_reducible rfl)
          try simp only [Act.put, List.setIfInBounds_toArray, List.set_cons_zero, List.set_cons_succ]
          refine wpAnyH_take (i := 8) (oi := ?oir48_8) (v := ?vr48_8) ?hir48_8 (by kernel_rfl) (by kernel_rfl) (by kernel_rfl) ?hqr48_8 ?hyr48_8 (by assumption) ?restr48_8
          case hir48_8 => simp only [List.getElem?_toArray, List.getElem?_cons_succ, List.getElem?_cons_zero]; rfl
          case hqr48_8 => exact fun _ _ _ h => h
          case hyr48_8 => (refine Or.inl ⟨by rfl, ?_⟩; intro w hSw; (try dsimp only at hSw); go_simp; all_goals with_reducible rfl)
          try simp only [Act.put, List.setIfInBounds_toArray, List.set_cons_zero, List.set_cons_succ]
          refine wpAnyH_take (i := 9) (oi := ?oir48_9) (v := ?vr48_9) ?hir48_9 (by kernel_rfl) (by kernel_rfl) (by kernel_rfl) ?hqr48_9 ?hyr48_9 (by assumption) ?restr48_9
          case hir48_9 => simp only [List.getElem?_toArray, List.getElem?_cons_succ, List.getElem?_cons_zero]; rfl
          case hqr48_9 => exact fun _ _ _ h => h
          case hyr48_9 => (refine Or.inl ⟨by rfl, ?_⟩; intro w hSw; (try dsimp only at hSw); go_simp; all_goals with_reducible rfl)
          try simp only [Act.put, List.setIfInBounds_toArray, List.set_cons_zero, List.set_cons_succ]
          refine wpAnyH_ready (rs := [10]) (by kernel_rfl) (by simp) ?_
          refine AllReadyH.cons (o := ?or49_10) ?hor49_10 (fun K hK => ?kr49_10) AllReadyH.nil
          case hor49_10 => simp only [List.getElem?_toArray, List.getElem?_cons_succ, List.getElem?_cons_zero]; rfl
          go_simp
          have cc := cmAtMost_any wD ys rb1
          rw [BL.out] at cc
          refine cc.mono ?_
          rintro e2 wE ⟨rfl, hb⟩
          clear cc
          have R3 := R3.later hb
          have ys := ys.below hb
          have rb1 := rb1.below hb
          clear hb
          go_wp2_with fail
          refine hK.out _ _ ?_ (fun hHeld => ?_)
          · exact ⟨R3.cell 8 _ rfl, R3.cell 9 _ rfl⟩
          clear hK K
          try simp only [Act.put, List.setIfInBounds_toArray, List.set_cons_zero, List.set_cons_succ]
          refine wpAnyH_take (i := 11) (oi := ?oir50_11) (v := ?vr50_11) ?hir50_11 (by kernel_rfl) (by kernel_rfl) (by kernel_rfl) ?hqr50_11 ?hyr50_11 (by assumption) ?restr50_11
          case hir50_11 => simp only [List.getElem?_toArray, List.getElem?_cons_succ, List.getElem?_cons_zero]; rfl
          case hqr50_11 => exact fun _ _ _ h => h
          case hyr50_11 => (refine Or.inl ⟨by rfl, ?_⟩; intro w hSw; (try dsimp only at hSw); go_simp; all_goals with_reducible rfl)
          try simp only [Act.put, List.setIfInBounds_toArray, List.set_cons_zero, List.set_cons_succ]
          refine wpAnyH_done (by kernel_rfl) ?_ _
          clear hHeld
          go_wp2_with fail
          go_ret
          refine .inr ⟨_, _, _, _, _, _, e.out, rfl, R3, ?_, ?_⟩
          · rw [(show (stepC q (-1 : Int)).lev = limbs (nextC q L (-1 : Int)) by show limbs (nextC q (val q.lev) (-1 : Int)) = _; rw [vld.out.lev, val_limbs])]; exact ys
          · rw [(show (stepC q (-1 : Int)).best = limbs B by show limbs (max (val q.best) (nextC q (val q.lev) (-1 : Int))) = _; rw [vld.out.lev, vld.out.best, val_limbs, val_limbs, Nat.max_eq_left HB.out])]; exact rb1
        · have BL := Lib.hid (show leC (limbs (nextC q L (-1 : Int))) (limbs B) = false by rw [leC_ok nextC_lt vld.out.pw.2]; exact decide_eq_false hB)
          have HB := Lib.hid hB
          clear hB
          have hb := (Below.refl wC.heap.size wC).drew
          have R3 := R3.later hb
          have ys := ys.below hb
          have rb1 := rb1.below hb
          clear hb
          refine wp_region_held_drew (S := (fun w' => w'.cell? ⟨k, 8, none⟩ = some (.slice as' ns' cs') ∧ w'.cell? ⟨k, 9, none⟩ = some (.slice b m d))) (by kernel_rfl) ?_ (fun hHeld => ?_)
          · exact ⟨R3.cell 8 _ rfl, R3.cell 9 _ rfl⟩
          generalize wC.drew = wD at *
          refine wpAnyH_take (i := 0) (oi := ?oir51_0) (v := ?vr51_0) ?hir51_0 (by kernel_rfl) (by kernel_rfl) (by kernel_rfl) ?hqr51_0 ?hyr51_0 (by assumption) ?restr51_0
          case hir51_0 => simp only [List.getElem?_toArray, List.getElem?_cons_succ, List.getElem?_cons_zero]; rfl
          case hqr51_0 => exact fun _ _ _ h => h
          case hyr51_0 => (refine Or.inl ⟨by rfl, ?_⟩; intro w hSw; (try dsimp only at hSw); go_simp; all_goals with_reducible rfl)
          try simp only [Act.put, List.setIfInBounds_toArray, List.set_cons_zero, List.set_cons_succ]
          refine wpAnyH_take (i := 1) (oi := ?oir51_1) (v := ?vr51_1) ?hir51_1 (by kernel_rfl) (by kernel_rfl) (by kernel_rfl) ?hqr51_1 ?hyr51_1 (by assumption) ?restr51_1
          case hir51_1 => simp only [List.getElem?_toArray, List.getElem?_cons_succ, List.getElem?_cons_zero]; rfl
          case hqr51_1 => exact fun _ _ _ h => h
          case hyr51_1 => (refine Or.inl ⟨by rfl, ?_⟩; intro w hSw; (try dsimp only at hSw); go_simp; all_goals with_reducible rfl)
          try simp only [Act.put, List.setIfInBounds_toArray, List.set_cons_zero, List.set_cons_succ]
          refine wpAnyH_take (i := 2) (oi := ?oir51_2) (v := ?vr51_2) ?hir51_2 (by kernel_rfl) (by kernel_rfl) (by kernel_rfl) ?hqr51_2 ?hyr51_2 (by assumption) ?restr51_2
          case hir51_2 => simp only [List.getElem?_toArray, List.getElem?_cons_succ, List.getElem?_cons_zero]; rfl
          case hqr51_2 => exact fun _ _ _ h => h
          case hyr51_2 => (refine Or.inl ⟨by rfl, ?_⟩; intro w hSw; (try dsimp only at hSw); go_simp; all_goals with_reducible rfl)
          try simp only [Act.put, List.setIfInBounds_toArray, List.set_cons_zero, List.set_cons_succ]
          refine wpAnyH_take (i := 3) (oi := ?oir51_3) (v := ?vr51_3) ?hir51_3 (by kernel_rfl) (by kernel_rfl) (by kernel_rfl) ?hqr51_3 ?hyr51_3 (by assumption) ?restr51_3
          case hir51_3 => simp only [List.getElem?_toArray, List.getElem?_cons_succ, List.getElem?_cons_zero]; rfl
          case hqr51_3 => exact fun _ _ _ h => h
          case hyr51_3 => (refine Or.inl ⟨by rfl, ?_⟩; intro w hSw; (try dsimp only at hSw); go_simp; all_goals with_reducible rfl)
          try simp only [Act.put, List.setIfInBounds_toArray, List.set_cons_zero, List.set_cons_succ]
          refine wpAnyH_take (i := 4) (oi := ?oir51_4) (v := ?vr51_4) ?hir51_4 (by kernel_rfl) (by kernel_rfl) (by kernel_rfl) ?hqr51_4 ?hyr51_4 (by assumption) ?restr51_4
          case hir51_4 => simp only [List.getElem?_toArray, List.getElem?_cons_succ, List.getElem?_cons_zero]; rfl
          case hqr51_4 => exact fun _ _ _ h => h
          case hyr51_4 => (refine Or.inl ⟨by rfl, ?_⟩; intro w hSw; (try dsimp only at hSw); go_simp; all_goals with_reducible rfl)
          try simp only [Act.put, List.setIfInBounds_toArray, List.set_cons_zero, List.set_cons_succ]
          refine wpAnyH_take (i := 5) (oi := ?oir51_5) (v := ?vr51_5) ?hir51_5 (by kernel_rfl) (by kernel_rfl) (by kernel_rfl) ?hqr51_5 ?hyr51_5 (by assumption) ?restr51_5
          case hir51_5 => simp only [List.getElem?_toArray, List.getElem?_cons_succ, List.getElem?_cons_zero]; rfl
          case hqr51_5 => exact fun _ _ _ h => h
          case hyr51_5 => (refine Or.inl ⟨by rfl, ?_⟩; intro w hSw; (try dsimp only at hSw); go_simp; all_goals with_reducible rfl)
          try simp only [Act.put, List.setIfInBounds_toArray, List.set_cons_zero, List.set_cons_succ]
          refine wpAnyH_take (i := 6) (oi := ?oir51_6) (v := ?vr51_6) ?hir51_6 (by kernel_rfl) (by kernel_rfl) (by kernel_rfl) ?hqr51_6 ?hyr51_6 (by assumption) ?restr51_6
          case hir51_6 => simp only [List.getElem?_toArray, List.getElem?_cons_succ, List.getElem?_cons_zero]; rfl
          case hqr51_6 => exact fun _ _ _ h => h
          case hyr51_6 => (refine Or.inl ⟨by rfl, ?_⟩; intro w hSw; (try dsimp only at hSw); go_simp; all_goals with_reducible rfl)
          try simp only [Act.put, List.setIfInBounds_toArray, List.set_cons_zero, List.set_cons_succ]
          refine wpAnyH_take (i := 7) (oi := ?oir51_7) (v := ?vr51_7) ?hir51_7 (by kernel_rfl) (by kernel_rfl) (by kernel_rfl) ?hqr51_7 ?hyr51_7 (by assumption) ?restr51_7
          case hir51_7 => simp only [List.getElem?_toArray, List.getElem?_cons_succ, List.getElem?_cons_zero]; rfl
          case hqr51_7 => exact fun _ _ _ h => h
          case hyr51_7 => (refine Or.inl ⟨by rfl, ?_⟩; intro w hSw; (try dsimp only at hSw); go_simp; all_goals with_reducible rfl)
          try simp only [Act.put, List.setIfInBounds_toArray, List.set_cons_zero, List.set_cons_succ]
          refine wpAnyH_take (i := 8) (oi := ?oir51_8) (v := ?vr51_8) ?hir51_8 (by kernel_rfl) (by kernel_rfl) (by kernel_rfl) ?hqr51_8 ?hyr51_8 (by assumption) ?restr51_8
          case hir51_8 => simp only [List.getElem?_toArray, List.getElem?_cons_succ, List.getElem?_cons_zero]; rfl
          case hqr51_8 => exact fun _ _ _ h => h
          case hyr51_8 => (refine Or.inl ⟨by rfl, ?_⟩; intro w hSw; (try dsimp only at hSw); go_simp; all_goals with_reducible rfl)
          try simp only [Act.put, List.setIfInBounds_toArray, List.set_cons_zero, List.set_cons_succ]
          refine wpAnyH_take (i := 9) (oi := ?oir51_9) (v := ?vr51_9) ?hir51_9 (by kernel_rfl) (by kernel_rfl) (by kernel_rfl) ?hqr51_9 ?hyr51_9 (by assumption) ?restr51_9
          case hir51_9 => simp only [List.getElem?_toArray, List.getElem?_cons_succ, List.getElem?_cons_zero]; rfl
          case hqr51_9 => exact fun _ _ _ h => h
          case hyr51_9 => (refine Or.inl ⟨by rfl, ?_⟩; intro w hSw; (try dsimp only at hSw); go_simp; all_goals with_reducible rfl)
          try simp only [Act.put, List.setIfInBounds_toArray, List.set_cons_zero, List.set_cons_succ]
          refine wpAnyH_ready (rs := [10]) (by kernel_rfl) (by simp) ?_
          refine AllReadyH.cons (o := ?or52_10) ?hor52_10 (fun K hK => ?kr52_10) AllReadyH.nil
          case hor52_10 => simp only [List.getElem?_toArray, List.getElem?_cons_succ, List.getElem?_cons_zero]; rfl
          go_simp
          have cc := cmAtMost_any wD ys rb1
          rw [BL.out] at cc
          refine cc.mono ?_
          rintro e2 wE ⟨rfl, hb⟩
          clear cc
          have R3 := R3.later hb
          have ys := ys.below hb
          have rb1 := rb1.below hb
          clear hb
          go_wp2_with fail
          refine hK.out _ _ ?_ (fun hHeld => ?_)
          · exact ⟨R3.cell 8 _ rfl, R3.cell 9 _ rfl⟩
          clear hK K
          try simp only [Act.put, List.setIfInBounds_toArray, List.set_cons_zero, List.set_cons_succ]
          refine wpAnyH_take (i := 11) (oi := ?oir53_11) (v := ?vr53_11) ?hir53_11 (by kernel_rfl) (by kernel_rfl) (by kernel_rfl) ?hqr53_11 ?hyr53_11 (by assumption) ?restr53_11
          case hir53_11 => simp only [List.getElem?_toArray, List.getElem?_cons_succ, List.getElem?_cons_zero]; rfl
          case hqr53_11 => exact fun _ _ _ h => h
          case hyr53_11 => (refine Or.inl ⟨by rfl, ?_⟩; intro w hSw; (try dsimp only at hSw); go_simp; all_goals with_reducible rfl)
          try simp only [Act.put, List.setIfInBounds_toArray, List.set_cons_zero, List.set_cons_succ]
          refine wpAnyH_done (by kernel_rfl) ?_ _
          clear hHeld
          have k8 : wE.cell? ⟨k, 8, none⟩ = some (.slice as' ns' cs') := R3.cell 8 _ rfl
          go_wp2_with fail
          refine (Clone_any wE ys (by have h1 := ys.len; have h2 := limbs_len_le (k := 96) (show nextC q L (-1 : Int) < pw 96 from Nat.lt_of_le_of_lt (Nat.min_le_right _ _) most_pw); omega)).mono ?_
          rintro e2 wF ⟨ak, nk, ck, rfl, yk, hb⟩
          have R3 := R3.later hb
          have ys := ys.below hb
          have rb1 := rb1.below hb
          clear hb k8
          have fr9 := R3.free 9
          have k9 := R3.cell 9 _ rfl
          have R4 : PRow 66 wb (wF.setCell ⟨k, 9, none⟩ (.slice ak nk ck)) k (cmC (bumpC q (-1 : Int)) as' ns' cs' ak nk ck) := R3.set 9 (.slice ak nk ck)
          have yk := rd_setcell (i := 9) yk R3.row (cm_noint _ _ _ _ _ _ _) (.slice ak nk ck)
          have yl := rd_setcell (i := 9) ys R3.row (cm_noint _ _ _ _ _ _ _) (.slice ak nk ck)
          go_wp2_with fail
          go_ret
          refine .inr ⟨_, _, _, _, _, _, e.out, rfl, R4, ?_, ?_⟩
          · rw [(show (stepC q (-1 : Int)).lev = limbs (nextC q L (-1 : Int)) by show limbs (nextC q (val q.lev) (-1 : Int)) = _; rw [vld.out.lev, val_limbs])]; exact yl
          · rw [(show (stepC q (-1 : Int)).best = limbs (nextC q L (-1 : Int)) by show limbs (max (val q.best) (nextC q (val q.lev) (-1 : Int))) = _; rw [vld.out.lev, vld.out.best, val_limbs, val_limbs, Nat.max_eq_right (Nat.le_of_lt (Nat.lt_of_not_le HB.out))])]; exact yk

end Go.Proofs.Ytmkcdlhhbnakiaa
