/- Observing the overstatement 1. -/
import Derived.Test.YtmkcdlhhbnakiaaCmpV
namespace Go.Proofs.Ytmkcdlhhbnakiaa
open Go.RowKit Go.Suf
set_option linter.unusedVariables false
set_option linter.unusedSimpArgs false

set_option maxRecDepth 100000 in
set_option maxHeartbeats 8000000 in
theorem see3_any (wb w : World) {q : CV} {a b : Option Addr} {n m c d k L B : Nat} (R : PRow 66 wb w k (cmC q a n c b m d)) (ra : Rd .u32 w a n c (limbs L)) (rb : Rd .u32 w b m d (limbs B)) (vld' : VldC q L B) :
    Calls Try.prog 42 #[.pointer (some ⟨k, 0, none⟩), .int .i64 (1)] w (RetSee wb k q (1)) := by
  have vld := Lib.hid vld'
  clear vld'
  have k0 := R.cell 0 _ rfl
  have k1 := R.cell 1 _ rfl
  have k2 := R.cell 2 _ rfl
  have k3 := R.cell 3 _ rfl
  have k4 := R.cell 4 _ rfl
  have k5 := R.cell 5 _ rfl
  have k6 := R.cell 6 _ rfl
  have k7 := R.cell 7 _ rfl
  have k8 := R.cell 8 _ rfl
  have k9 := R.cell 9 _ rfl
  have fr := R.free 6
  have HF := Lib.hid (show seenAtC q (1 : Int) = q.s3 from rfl)
  have sv := vld.out.s3
  unfold inS at sv
  by_cases full : q.s3 = 1000000
  · have e := Lib.hid (show obs1C q (1 : Int) = none from obs1C_out (.inr (.inr (by rw [HF.out]; omega))))
    have d2 : (q.s3 == 1000000) = true := beq_iff_eq.2 full
    clear full sv
    go_enter Try.func42, Try.ntmps42
    go_wp2_with fail
    have cc := within_any w (1 : Int) (-2) 2
    rw [decide_eq_true (show (-2 : Int) ≤ (1 : Int) ∧ (1 : Int) ≤ 2 by decide)] at cc
    refine cc.mono ?_
    rintro e1 w9 ⟨rfl, hw⟩
    have hw := hw.symm
    subst hw
    clear cc
    go_wp2_with fail
    go_ret
    exact .inl ⟨e.out, rfl, R.below⟩
  have d2 : (q.s3 == 1000000) = false := beq_eq_false_iff_ne.2 full
  have e := Lib.hid (show obs1C q (1 : Int) = some (stepC q (1 : Int)) from obs1C_in (by rw [HF.out]; omega))
  have sv1 : q.s3 < 1000000 := by omega
  have sv0 : 0 ≤ q.s3 := by omega
  have wi : IntKind.i64.wrap (q.s3 + 1) = q.s3 + 1 := wrap_in (by omega) (by omega)
  clear full sv
  go_enter Try.func42, Try.ntmps42
  go_wp2_with fail
  have cc := within_any w (1 : Int) (-2) 2
  rw [decide_eq_true (show (-2 : Int) ≤ (1 : Int) ∧ (1 : Int) ≤ 2 by decide)] at cc
  refine cc.mono ?_
  rintro e1 w9 ⟨rfl, hw⟩
  have hw := hw.symm
  subst hw
  clear cc
  go_upto_region 4 with fail
  refine wp_region_any (by kernel_rfl) ?_
  change wpAny _ _ _ _ _ _ _ (World.drew _)
  refine wpAny_take (i := 0) (oi := ?oir85_0) (v := ?vr85_0) ?hir85_0 (by kernel_rfl) (by kernel_rfl) (by kernel_rfl) ?hqr85_0 ?hyr85_0 ?restr85_0
  case hir85_0 => simp only [List.getElem?_toArray, List.getElem?_cons_succ, List.getElem?_cons_zero]; rfl
  case hqr85_0 => exact fun _ _ _ h => h
  case hyr85_0 => (refine Or.inl ⟨by rfl, ?_⟩; intro w; go_simp; all_goals with_reducible rfl)
  try simp only [Act.put, List.setIfInBounds_toArray, List.set_cons_zero, List.set_cons_succ]
  refine wpAny_take (i := 1) (oi := ?oir85_1) (v := ?vr85_1) ?hir85_1 (by kernel_rfl) (by kernel_rfl) (by kernel_rfl) ?hqr85_1 ?hyr85_1 ?restr85_1
  case hir85_1 => simp only [List.getElem?_toArray, List.getElem?_cons_succ, List.getElem?_cons_zero]; rfl
  case hqr85_1 => exact fun _ _ _ h => h
  case hyr85_1 => (refine Or.inl ⟨by rfl, ?_⟩; intro w; go_simp; all_goals with_reducible rfl)
  try simp only [Act.put, List.setIfInBounds_toArray, List.set_cons_zero, List.set_cons_succ]
  refine wpAny_take (i := 2) (oi := ?oir85_2) (v := ?vr85_2) ?hir85_2 (by kernel_rfl) (by kernel_rfl) (by kernel_rfl) ?hqr85_2 ?hyr85_2 ?restr85_2
  case hir85_2 => simp only [List.getElem?_toArray, List.getElem?_cons_succ, List.getElem?_cons_zero]; rfl
  case hqr85_2 => exact fun _ _ _ h => h
  case hyr85_2 => (refine Or.inl ⟨by rfl, ?_⟩; intro w; go_simp; all_goals with_reducible rfl)
  try simp only [Act.put, List.setIfInBounds_toArray, List.set_cons_zero, List.set_cons_succ]
  refine wpAny_take (i := 3) (oi := ?oir85_3) (v := ?vr85_3) ?hir85_3 (by kernel_rfl) (by kernel_rfl) (by kernel_rfl) ?hqr85_3 ?hyr85_3 ?restr85_3
  case hir85_3 => simp only [List.getElem?_toArray, List.getElem?_cons_succ, List.getElem?_cons_zero]; rfl
  case hqr85_3 => exact fun _ _ _ h => h
  case hyr85_3 => (refine Or.inl ⟨by rfl, ?_⟩; intro w; go_simp; all_goals with_reducible rfl)
  try simp only [Act.put, List.setIfInBounds_toArray, List.set_cons_zero, List.set_cons_succ]
  refine wpAny_take (i := 4) (oi := ?oir85_4) (v := ?vr85_4) ?hir85_4 (by kernel_rfl) (by kernel_rfl) (by kernel_rfl) ?hqr85_4 ?hyr85_4 ?restr85_4
  case hir85_4 => simp only [List.getElem?_toArray, List.getElem?_cons_succ, List.getElem?_cons_zero]; rfl
  case hqr85_4 => exact fun _ _ _ h => h
  case hyr85_4 => (refine Or.inl ⟨by rfl, ?_⟩; intro w; go_simp; all_goals with_reducible rfl)
  try simp only [Act.put, List.setIfInBounds_toArray, List.set_cons_zero, List.set_cons_succ]
  refine wpAny_take (i := 5) (oi := ?oir85_5) (v := ?vr85_5) ?hir85_5 (by kernel_rfl) (by kernel_rfl) (by kernel_rfl) ?hqr85_5 ?hyr85_5 ?restr85_5
  case hir85_5 => simp only [List.getElem?_toArray, List.getElem?_cons_succ, List.getElem?_cons_zero]; rfl
  case hqr85_5 => exact fun _ _ _ h => h
  case hyr85_5 => (refine Or.inl ⟨by rfl, ?_⟩; intro w; go_simp; all_goals with_reducible rfl)
  try simp only [Act.put, List.setIfInBounds_toArray, List.set_cons_zero, List.set_cons_succ]
  refine wpAny_take (i := 8) (oi := ?oir85_8) (v := ?vr85_8) ?hir85_8 (by kernel_rfl) (by kernel_rfl) (by kernel_rfl) ?hqr85_8 ?hyr85_8 ?restr85_8
  case hir85_8 => simp only [List.getElem?_toArray, List.getElem?_cons_succ, List.getElem?_cons_zero]; rfl
  case hqr85_8 => exact fun _ _ _ h => h
  case hyr85_8 => (refine Or.inl ⟨by rfl, ?_⟩; intro w; go_simp; all_goals with_reducible rfl)
  try simp only [Act.put, List.setIfInBounds_toArray, List.set_cons_zero, List.set_cons_succ]
  refine wpAny_take (i := 9) (oi := ?oir85_9) (v := ?vr85_9) ?hir85_9 (by kernel_rfl) (by kernel_rfl) (by kernel_rfl) ?hqr85_9 ?hyr85_9 ?restr85_9
  case hir85_9 => simp only [List.getElem?_toArray, List.getElem?_cons_succ, List.getElem?_cons_zero]; rfl
  case hqr85_9 => exact fun _ _ _ h => h
  case hyr85_9 => (refine Or.inl ⟨by rfl, ?_⟩; intro w; go_simp; all_goals with_reducible rfl)
  try simp only [Act.put, List.setIfInBounds_toArray, List.set_cons_zero, List.set_cons_succ]
  refine wpAny_take (i := 10) (oi := ?oir85_10) (v := ?vr85_10) ?hir85_10 (by kernel_rfl) (by kernel_rfl) (by kernel_rfl) ?hqr85_10 ?hyr85_10 ?restr85_10
  case hir85_10 => simp only [List.getElem?_toArray, List.getElem?_cons_succ, List.getElem?_cons_zero]; rfl
  case hqr85_10 => exact fun _ _ _ h => h
  case hyr85_10 => (refine Or.inl ⟨by rfl, ?_⟩; intro w; go_simp; all_goals with_reducible rfl)
  try simp only [Act.put, List.setIfInBounds_toArray, List.set_cons_zero, List.set_cons_succ]
  refine wpAny_ready (rs := [6]) (by kernel_rfl) (by simp) ?_
  refine (AllReady.cons (o := ?ob112_6) ?hob112_6 (fun K hK => ?kb112_6) AllReady.nil)
  case hob112_6 => simp only [List.getElem?_toArray, List.getElem?_cons_succ, List.getElem?_cons_zero]; rfl
  case kb112_6 =>
    go_simp
    refine hK _ _ ?_
    clear hK K
    try simp only [Act.put, List.setIfInBounds_toArray, List.set_cons_zero, List.set_cons_succ]
    refine wpAny_take (i := 7) (oi := ?oir111_7) (v := ?vr111_7) ?hir111_7 (by kernel_rfl) (by kernel_rfl) (by kernel_rfl) ?hqr111_7 ?hyr111_7 ?restr111_7
    case hir111_7 => simp only [List.getElem?_toArray, List.getElem?_cons_succ, List.getElem?_cons_zero]; rfl
    case hqr111_7 => exact fun _ _ _ h => h
    case hyr111_7 => (refine Or.inl ⟨by rfl, ?_⟩; intro w; go_simp; all_goals with_reducible rfl)
    try simp only [Act.put, List.setIfInBounds_toArray, List.set_cons_zero, List.set_cons_succ]
    refine wpAny_take (i := 11) (oi := ?oir111_11) (v := ?vr111_11) ?hir111_11 (by kernel_rfl) (by kernel_rfl) (by kernel_rfl) ?hqr111_11 ?hyr111_11 ?restr111_11
    case hir111_11 => simp only [List.getElem?_toArray, List.getElem?_cons_succ, List.getElem?_cons_zero]; rfl
    case hqr111_11 => exact fun _ _ _ h => h
    case hyr111_11 => (refine Or.inl ⟨by rfl, ?_⟩; intro w; go_simp; all_goals with_reducible rfl)
    try simp only [Act.put, List.setIfInBounds_toArray, List.set_cons_zero, List.set_cons_succ]
    refine wpAny_ready (rs := [12]) (by kernel_rfl) (by simp) ?_
    refine (AllReady.cons (o := ?ob110_12) ?hob110_12 (fun K hK => ?kb110_12) AllReady.nil)
    case hob110_12 => simp only [List.getElem?_toArray, List.getElem?_cons_succ, List.getElem?_cons_zero]; rfl
    case kb110_12 =>
      go_simp
      refine hK _ _ ?_
      clear hK K
      try simp only [Act.put, List.setIfInBounds_toArray, List.set_cons_zero, List.set_cons_succ]
      refine wpAny_done (by kernel_rfl) ?_ _
      have R0 : PRow 66 wb (w.setCell ⟨k, 6, none⟩ (.int .i64 (q.s3 + 1))) k (cmC (bumpC q (1 : Int)) a n c b m d) := R.set 6 (.int .i64 (q.s3 + 1))
      have D0 := (Below.refl (w.setCell ⟨k, 6, none⟩ (.int .i64 (q.s3 + 1))).heap.size (w.setCell ⟨k, 6, none⟩ (.int .i64 (q.s3 + 1)))).drew
      have ra1 := (rd_setcell (i := 6) ra R.row (cm_noint _ _ _ _ _ _ _) (.int .i64 (q.s3 + 1))).below D0
      have rb1 := (rd_setcell (i := 6) rb R.row (cm_noint _ _ _ _ _ _ _) (.int .i64 (q.s3 + 1))).below D0
      have R1 := R0.later D0
      clear k0 k1 k2 k3 k4 k5 k6 k7 k8 k9 fr D0 R0 sv0 sv1 d2 wi
      generalize (w.setCell ⟨k, 6, none⟩ (.int .i64 (q.s3 + 1))).drew = w1 at *
      have k0 : w1.cell? ⟨k, 0, none⟩ = some (.int .i64 q.bet) := R1.cell 0 _ rfl
      have k1 : w1.cell? ⟨k, 1, none⟩ = some (.int .i64 q.ballots) := R1.cell 1 _ rfl
      have k2 : w1.cell? ⟨k, 2, none⟩ = some (.int .i64 q.margin) := R1.cell 2 _ rfl
      have k8 : w1.cell? ⟨k, 8, none⟩ = some (.slice a n c) := R1.cell 8 _ rfl
      have n1' : 1 ≤ q.ballots := vld.out.may.2.1.1
      have n2' : q.ballots ≤ 1000000 := vld.out.may.2.1.2
      have LP := Lib.hid vld.out.pw.1
      have LF := Lib.hid (show L * factC q (1 : Int) < pw 96 from Nat.lt_of_lt_of_le (mul_lt_pw (show L < pw 5 from Nat.lt_of_le_of_lt (Nat.le_trans vld.out.le vld.out.hi) (by decide)) (show factC q (1 : Int) < pw 2 from (fact_bd vld.out.may (by decide) (by decide)).1)) (pw_le (by decide)))
      go_upto_region 6 with fail
      have hb := (Below.refl w1.heap.size w1).drew
      have R1 := R1.later hb
      have ra1 := ra1.below hb
      have rb1 := rb1.below hb
      clear hb k0 k1 k2 k8
      refine wp_region_held_drew (S := (fun w' => w'.cell? ⟨k, 0, none⟩ = some (.int .i64 q.bet) ∧ w'.cell? ⟨k, 1, none⟩ = some (.int .i64 q.ballots) ∧ w'.cell? ⟨k, 2, none⟩ = some (.int .i64 q.margin) ∧ w'.cell? ⟨k, 8, none⟩ = some (.slice a n c))) (by kernel_rfl) ?_ (fun hHeld => ?_)
      · exact ⟨R1.cell 0 _ rfl, R1.cell 1 _ rfl, R1.cell 2 _ rfl, R1.cell 8 _ rfl⟩
      generalize w1.drew = w2 at *
      refine wpAnyH_take (i := 0) (oi := ?oir86_0) (v := ?vr86_0) ?hir86_0 (by kernel_rfl) (by kernel_rfl) (by kernel_rfl) ?hqr86_0 ?hyr86_0 (by assumption) ?restr86_0
      case hir86_0 => simp only [List.getElem?_toArray, List.getElem?_cons_succ, List.getElem?_cons_zero]; rfl
      case hqr86_0 => exact fun _ _ _ h => h
      case hyr86_0 => (refine Or.inl ⟨by rfl, ?_⟩; intro w hSw; (try dsimp only at hSw); go_simp; all_goals with_reducible rfl)
      try simp only [Act.put, List.setIfInBounds_toArray, List.set_cons_zero, List.set_cons_succ]
      refine wpAnyH_take (i := 1) (oi := ?oir86_1) (v := ?vr86_1) ?hir86_1 (by kernel_rfl) (by kernel_rfl) (by kernel_rfl) ?hqr86_1 ?hyr86_1 (by assumption) ?restr86_1
      case hir86_1 => simp only [List.getElem?_toArray, List.getElem?_cons_succ, List.getElem?_cons_zero]; rfl
      case hqr86_1 => exact fun _ _ _ h => h
      case hyr86_1 => (refine Or.inl ⟨by rfl, ?_⟩; intro w hSw; (try dsimp only at hSw); go_simp; all_goals with_reducible rfl)
      try simp only [Act.put, List.setIfInBounds_toArray, List.set_cons_zero, List.set_cons_succ]
      refine wpAnyH_take (i := 2) (oi := ?oir86_2) (v := ?vr86_2) ?hir86_2 (by kernel_rfl) (by kernel_rfl) (by kernel_rfl) ?hqr86_2 ?hyr86_2 (by assumption) ?restr86_2
      case hir86_2 => simp only [List.getElem?_toArray, List.getElem?_cons_succ, List.getElem?_cons_zero]; rfl
      case hqr86_2 => exact fun _ _ _ h => h
      case hyr86_2 => (refine Or.inl ⟨by rfl, ?_⟩; intro w hSw; (try dsimp only at hSw); go_simp; all_goals with_reducible rfl)
      try simp only [Act.put, List.setIfInBounds_toArray, List.set_cons_zero, List.set_cons_succ]
      refine wpAnyH_take (i := 3) (oi := ?oir86_3) (v := ?vr86_3) ?hir86_3 (by kernel_rfl) (by kernel_rfl) (by kernel_rfl) ?hqr86_3 ?hyr86_3 (by assumption) ?restr86_3
      case hir86_3 => simp only [List.getElem?_toArray, List.getElem?_cons_succ, List.getElem?_cons_zero]; rfl
      case hqr86_3 => exact fun _ _ _ h => h
      case hyr86_3 => (refine Or.inl ⟨by rfl, ?_⟩; intro w hSw; (try dsimp only at hSw); go_simp; all_goals with_reducible rfl)
      try simp only [Act.put, List.setIfInBounds_toArray, List.set_cons_zero, List.set_cons_succ]
      refine wpAnyH_take (i := 4) (oi := ?oir86_4) (v := ?vr86_4) ?hir86_4 (by kernel_rfl) (by kernel_rfl) (by kernel_rfl) ?hqr86_4 ?hyr86_4 (by assumption) ?restr86_4
      case hir86_4 => simp only [List.getElem?_toArray, List.getElem?_cons_succ, List.getElem?_cons_zero]; rfl
      case hqr86_4 => exact fun _ _ _ h => h
      case hyr86_4 => (refine Or.inl ⟨by rfl, ?_⟩; intro w hSw; (try dsimp only at hSw); go_simp; all_goals with_reducible rfl)
      try simp only [Act.put, List.setIfInBounds_toArray, List.set_cons_zero, List.set_cons_succ]
      refine wpAnyH_take (i := 5) (oi := ?oir86_5) (v := ?vr86_5) ?hir86_5 (by kernel_rfl) (by kernel_rfl) (by kernel_rfl) ?hqr86_5 ?hyr86_5 (by assumption) ?restr86_5
      case hir86_5 => simp only [List.getElem?_toArray, List.getElem?_cons_succ, List.getElem?_cons_zero]; rfl
      case hqr86_5 => exact fun _ _ _ h => h
      case hyr86_5 => (refine Or.inl ⟨by rfl, ?_⟩; intro w hSw; (try dsimp only at hSw); go_simp; all_goals with_reducible rfl)
      try simp only [Act.put, List.setIfInBounds_toArray, List.set_cons_zero, List.set_cons_succ]
      refine wpAnyH_take (i := 6) (oi := ?oir86_6) (v := ?vr86_6) ?hir86_6 (by kernel_rfl) (by kernel_rfl) (by kernel_rfl) ?hqr86_6 ?hyr86_6 (by assumption) ?restr86_6
      case hir86_6 => simp only [List.getElem?_toArray, List.getElem?_cons_succ, List.getElem?_cons_zero]; rfl
      case hqr86_6 => exact fun _ _ _ h => h
      case hyr86_6 => (refine Or.inl ⟨by rfl, ?_⟩; intro w hSw; (try dsimp only at hSw); go_simp; all_goals with_reducible rfl)
      try simp only [Act.put, List.setIfInBounds_toArray, List.set_cons_zero, List.set_cons_succ]
      refine wpAnyH_take (i := 7) (oi := ?oir86_7) (v := ?vr86_7) ?hir86_7 (by kernel_rfl) (by kernel_rfl) (by kernel_rfl) ?hqr86_7 ?hyr86_7 (by assumption) ?restr86_7
      case hir86_7 => simp only [List.getElem?_toArray, List.getElem?_cons_succ, List.getElem?_cons_zero]; rfl
      case hqr86_7 => exact fun _ _ _ h => h
      case hyr86_7 => (refine Or.inl ⟨by rfl, ?_⟩; intro w hSw; (try dsimp only at hSw); go_simp; all_goals with_reducible rfl)
      try simp only [Act.put, List.setIfInBounds_toArray, List.set_cons_zero, List.set_cons_succ]
      refine wpAnyH_take (i := 8) (oi := ?oir86_8) (v := ?vr86_8) ?hir86_8 (by kernel_rfl) (by kernel_rfl) (by kernel_rfl) ?hqr86_8 ?hyr86_8 (by assumption) ?restr86_8
      case hir86_8 => simp only [List.getElem?_toArray, List.getElem?_cons_succ, List.getElem?_cons_zero]; rfl
      case hqr86_8 => exact fun _ _ _ h => h
      case hyr86_8 => (refine Or.inl ⟨by rfl, ?_⟩; intro w hSw; (try dsimp only at hSw); go_simp; all_goals with_reducible rfl)
      try simp only [Act.put, List.setIfInBounds_toArray, List.set_cons_zero, List.set_cons_succ]
      refine wpAnyH_take (i := 9) (oi := ?oir86_9) (v := ?vr86_9) ?hir86_9 (by kernel_rfl) (by kernel_rfl) (by kernel_rfl) ?hqr86_9 ?hyr86_9 (by assumption) ?restr86_9
      case hir86_9 => simp only [List.getElem?_toArray, List.getElem?_cons_succ, List.getElem?_cons_zero]; rfl
      case hqr86_9 => exact fun _ _ _ h => h
      case hyr86_9 => (refine Or.inl ⟨by rfl, ?_⟩; intro w hSw; (try dsimp only at hSw); go_simp; all_goals with_reducible rfl)
      try simp only [Act.put, List.setIfInBounds_toArray, List.set_cons_zero, List.set_cons_succ]
      refine wpAnyH_take (i := 10) (oi := ?oir86_10) (v := ?vr86_10) ?hir86_10 (by kernel_rfl) (by kernel_rfl) (by kernel_rfl) ?hqr86_10 ?hyr86_10 (by assumption) ?restr86_10
      case hir86_10 => simp only [List.getElem?_toArray, List.getElem?_cons_succ, List.getElem?_cons_zero]; rfl
      case hqr86_10 => exact fun _ _ _ h => h
      case hyr86_10 => (refine Or.inl ⟨by rfl, ?_⟩; intro w hSw; (try dsimp only at hSw); go_simp; all_goals with_reducible rfl)
      try simp only [Act.put, List.setIfInBounds_toArray, List.set_cons_zero, List.set_cons_succ]
      refine wpAnyH_take (i := 11) (oi := ?oir86_11) (v := ?vr86_11) ?hir86_11 (by kernel_rfl) (by kernel_rfl) (by kernel_rfl) ?hqr86_11 ?hyr86_11 (by assumption) ?restr86_11
      case hir86_11 => simp only [List.getElem?_toArray, List.getElem?_cons_succ, List.getElem?_cons_zero]; rfl
      case hqr86_11 => exact fun _ _ _ h => h
      case hyr86_11 => (refine Or.inl ⟨by rfl, ?_⟩; intro w hSw; (try dsimp only at hSw); go_simp; all_goals with_reducible rfl)
      try simp only [Act.put, List.setIfInBounds_toArray, List.set_cons_zero, List.set_cons_succ]
      refine wpAnyH_take (i := 12) (oi := ?oir86_12) (v := ?vr86_12) ?hir86_12 (by kernel_rfl) (by kernel_rfl) (by kernel_rfl) ?hqr86_12 ?hyr86_12 (by assumption) ?restr86_12
      case hir86_12 => simp only [List.getElem?_toArray, List.getElem?_cons_succ, List.getElem?_cons_zero]; rfl
      case hqr86_12 => exact fun _ _ _ h => h
      case hyr86_12 => (refine Or.inl ⟨by rfl, ?_⟩; intro w hSw; (try dsimp only at hSw); go_simp; all_goals with_reducible rfl)
      try simp only [Act.put, List.setIfInBounds_toArray, List.set_cons_zero, List.set_cons_succ]
      refine wpAnyH_take (i := 13) (oi := ?oir86_13) (v := ?vr86_13) ?hir86_13 (by kernel_rfl) (by kernel_rfl) (by kernel_rfl) ?hqr86_13 ?hyr86_13 (by assumption) ?restr86_13
      case hir86_13 => simp only [List.getElem?_toArray, List.getElem?_cons_succ, List.getElem?_cons_zero]; rfl
      case hqr86_13 => exact fun _ _ _ h => h
      case hyr86_13 => (refine Or.inl ⟨by rfl, ?_⟩; intro w hSw; (try dsimp only at hSw); go_simp; all_goals with_reducible rfl)
      try simp only [Act.put, List.setIfInBounds_toArray, List.set_cons_zero, List.set_cons_succ]
      refine wpAnyH_take (i := 14) (oi := ?oir86_14) (v := ?vr86_14) ?hir86_14 (by kernel_rfl) (by kernel_rfl) (by kernel_rfl) ?hqr86_14 ?hyr86_14 (by assumption) ?restr86_14
      case hir86_14 => simp only [List.getElem?_toArray, List.getElem?_cons_succ, List.getElem?_cons_zero]; rfl
      case hqr86_14 => exact fun _ _ _ h => h
      case hyr86_14 => (refine Or.inl ⟨by rfl, ?_⟩; intro w hSw; (try dsimp only at hSw); go_simp; all_goals with_reducible rfl)
      try simp only [Act.put, List.setIfInBounds_toArray, List.set_cons_zero, List.set_cons_succ]
      refine wpAnyH_take (i := 15) (oi := ?oir86_15) (v := ?vr86_15) ?hir86_15 (by kernel_rfl) (by kernel_rfl) (by kernel_rfl) ?hqr86_15 ?hyr86_15 (by assumption) ?restr86_15
      case hir86_15 => simp only [List.getElem?_toArray, List.getElem?_cons_succ, List.getElem?_cons_zero]; rfl
      case hqr86_15 => exact fun _ _ _ h => h
      case hyr86_15 => (refine Or.inl ⟨by rfl, ?_⟩; intro w hSw; (try dsimp only at hSw); go_simp; all_goals with_reducible rfl)
      try simp only [Act.put, List.setIfInBounds_toArray, List.set_cons_zero, List.set_cons_succ]
      refine wpAnyH_take (i := 16) (oi := ?oir86_16) (v := ?vr86_16) ?hir86_16 (by kernel_rfl) (by kernel_rfl) (by kernel_rfl) ?hqr86_16 ?hyr86_16 (by assumption) ?restr86_16
      case hir86_16 => simp only [List.getElem?_toArray, List.getElem?_cons_succ, List.getElem?_cons_zero]; rfl
      case hqr86_16 => exact fun _ _ _ h => h
      case hyr86_16 => (refine Or.inl ⟨by rfl, ?_⟩; intro w hSw; (try dsimp only at hSw); go_simp; all_goals with_reducible rfl)
      try simp only [Act.put, List.setIfInBounds_toArray, List.set_cons_zero, List.set_cons_succ]
      refine wpAnyH_take (i := 17) (oi := ?oir86_17) (v := ?vr86_17) ?hir86_17 (by kernel_rfl) (by kernel_rfl) (by kernel_rfl) ?hqr86_17 ?hyr86_17 (by assumption) ?restr86_17
      case hir86_17 => simp only [List.getElem?_toArray, List.getElem?_cons_succ, List.getElem?_cons_zero]; rfl
      case hqr86_17 => exact fun _ _ _ h => h
      case hyr86_17 => (refine Or.inl ⟨by rfl, ?_⟩; intro w hSw; (try dsimp only at hSw); go_simp; all_goals with_reducible rfl)
      try simp only [Act.put, List.setIfInBounds_toArray, List.set_cons_zero, List.set_cons_succ]
      refine wpAnyH_take (i := 18) (oi := ?oir86_18) (v := ?vr86_18) ?hir86_18 (by kernel_rfl) (by kernel_rfl) (by kernel_rfl) ?hqr86_18 ?hyr86_18 (by assumption) ?restr86_18
      case hir86_18 => simp only [List.getElem?_toArray, List.getElem?_cons_succ, List.getElem?_cons_zero]; rfl
      case hqr86_18 => exact fun _ _ _ h => h
      case hyr86_18 => (refine Or.inl ⟨by rfl, ?_⟩; intro w hSw; (try dsimp only at hSw); go_simp; all_goals with_reducible rfl)
      try simp only [Act.put, List.setIfInBounds_toArray, List.set_cons_zero, List.set_cons_succ]
      refine wpAnyH_take (i := 19) (oi := ?oir86_19) (v := ?vr86_19) ?hir86_19 (by kernel_rfl) (by kernel_rfl) (by kernel_rfl) ?hqr86_19 ?hyr86_19 (by assumption) ?restr86_19
      case hir86_19 => simp only [List.getElem?_toArray, List.getElem?_cons_succ, List.getElem?_cons_zero]; rfl
      case hqr86_19 => exact fun _ _ _ h => h
      case hyr86_19 => (refine Or.inl ⟨by rfl, ?_⟩; intro w hSw; (try dsimp only at hSw); go_simp; all_goals with_reducible rfl)
      try simp only [Act.put, List.setIfInBounds_toArray, List.set_cons_zero, List.set_cons_succ]
      refine wpAnyH_take (i := 20) (oi := ?oir86_20) (v := ?vr86_20) ?hir86_20 (by kernel_rfl) (by kernel_rfl) (by kernel_rfl) ?hqr86_20 ?hyr86_20 (by assumption) ?restr86_20
      case hir86_20 => simp only [List.getElem?_toArray, List.getElem?_cons_succ, List.getElem?_cons_zero]; rfl
      case hqr86_20 => exact fun _ _ _ h => h
      case hyr86_20 => (refine Or.inl ⟨by rfl, ?_⟩; intro w hSw; (try dsimp only at hSw); go_simp; all_goals with_reducible rfl)
      try simp only [Act.put, List.setIfInBounds_toArray, List.set_cons_zero, List.set_cons_succ]
      refine wpAnyH_take (i := 21) (oi := ?oir86_21) (v := ?vr86_21) ?hir86_21 (by kernel_rfl) (by kernel_rfl) (by kernel_rfl) ?hqr86_21 ?hyr86_21 (by assumption) ?restr86_21
      case hir86_21 => simp only [List.getElem?_toArray, List.getElem?_cons_succ, List.getElem?_cons_zero]; rfl
      case hqr86_21 => exact fun _ _ _ h => h
      case hyr86_21 => (refine Or.inl ⟨by rfl, ?_⟩; intro w hSw; (try dsimp only at hSw); go_simp; all_goals with_reducible rfl)
      try simp only [Act.put, List.setIfInBounds_toArray, List.set_cons_zero, List.set_cons_succ]
      refine wpAnyH_take (i := 22) (oi := ?oir86_22) (v := ?vr86_22) ?hir86_22 (by kernel_rfl) (by kernel_rfl) (by kernel_rfl) ?hqr86_22 ?hyr86_22 (by assumption) ?restr86_22
      case hir86_22 => simp only [List.getElem?_toArray, List.getElem?_cons_succ, List.getElem?_cons_zero]; rfl
      case hqr86_22 => exact fun _ _ _ h => h
      case hyr86_22 => (refine Or.inl ⟨by rfl, ?_⟩; intro w hSw; (try dsimp only at hSw); go_simp; all_goals with_reducible rfl)
      try simp only [Act.put, List.setIfInBounds_toArray, List.set_cons_zero, List.set_cons_succ]
      refine wpAnyH_take (i := 23) (oi := ?oir86_23) (v := ?vr86_23) ?hir86_23 (by kernel_rfl) (by kernel_rfl) (by kernel_rfl) ?hqr86_23 ?hyr86_23 (by assumption) ?restr86_23
      case hir86_23 => simp only [List.getElem?_toArray, List.getElem?_cons_succ, List.getElem?_cons_zero]; rfl
      case hqr86_23 => exact fun _ _ _ h => h
      case hyr86_23 => (refine Or.inl ⟨by rfl, ?_⟩; intro w hSw; (try dsimp only at hSw); go_simp; all_goals with_reducible rfl)
      try simp only [Act.put, List.setIfInBounds_toArray, List.set_cons_zero, List.set_cons_succ]
      refine wpAnyH_take (i := 24) (oi := ?oir86_24) (v := ?vr86_24) ?hir86_24 (by kernel_rfl) (by kernel_rfl) (by kernel_rfl) ?hqr86_24 ?hyr86_24 (by assumption) ?restr86_24
      case hir86_24 => simp only [List.getElem?_toArray, List.getElem?_cons_succ, List.getElem?_cons_zero]; rfl
      case hqr86_24 => exact fun _ _ _ h => h
      case hyr86_24 => (refine Or.inl ⟨by rfl, ?_⟩; intro w hSw; (try dsimp only at hSw); go_simp; all_goals with_reducible rfl)
      try simp only [Act.put, List.setIfInBounds_toArray, List.set_cons_zero, List.set_cons_succ]
      refine wpAnyH_take (i := 25) (oi := ?oir86_25) (v := ?vr86_25) ?hir86_25 (by kernel_rfl) (by kernel_rfl) (by kernel_rfl) ?hqr86_25 ?hyr86_25 (by assumption) ?restr86_25
      case hir86_25 => simp only [List.getElem?_toArray, List.getElem?_cons_succ, List.getElem?_cons_zero]; rfl
      case hqr86_25 => exact fun _ _ _ h => h
      case hyr86_25 => (refine Or.inl ⟨by rfl, ?_⟩; intro w hSw; (try dsimp only at hSw); go_simp; all_goals with_reducible rfl)
      try simp only [Act.put, List.setIfInBounds_toArray, List.set_cons_zero, List.set_cons_succ]
      refine wpAnyH_take (i := 26) (oi := ?oir86_26) (v := ?vr86_26) ?hir86_26 (by kernel_rfl) (by kernel_rfl) (by kernel_rfl) ?hqr86_26 ?hyr86_26 (by assumption) ?restr86_26
      case hir86_26 => simp only [List.getElem?_toArray, List.getElem?_cons_succ, List.getElem?_cons_zero]; rfl
      case hqr86_26 => exact fun _ _ _ h => h
      case hyr86_26 => (refine Or.inl ⟨by rfl, ?_⟩; intro w hSw; (try dsimp only at hSw); go_simp; all_goals with_reducible rfl)
      try simp only [Act.put, List.setIfInBounds_toArray, List.set_cons_zero, List.set_cons_succ]
      have SF := see_fact vld.out.may (x := (1 : Int)) (Y := q.ballots) (by decide) (by decide) (by omega)
      rw [SF]
      clear SF
      refine wpAnyH_ready (rs := [27]) (by kernel_rfl) (by simp) ?_
      refine AllReadyH.cons (o := ?or87_27) ?hor87_27 (fun K hK => ?kr87_27) AllReadyH.nil
      case hor87_27 => simp only [List.getElem?_toArray, List.getElem?_cons_succ, List.getElem?_cons_zero]; rfl
      go_simp
      refine (Of_any w2 (factC q (1 : Int)) (fact_bd vld.out.may (by decide) (by decide)).1).mono ?_
      rintro e2 w3 ⟨af, nf, cf, rfl, yf, hb⟩
      have R1 := R1.later hb
      have ra1 := ra1.below hb
      have rb1 := rb1.below hb
      clear hb
      go_wp2_with fail
      refine hK.out _ _ ?_ (fun hHeld => ?_)
      · exact ⟨R1.cell 0 _ rfl, R1.cell 1 _ rfl, R1.cell 2 _ rfl, R1.cell 8 _ rfl⟩
      clear hK K
      try simp only [Act.put, List.setIfInBounds_toArray, List.set_cons_zero, List.set_cons_succ]
      refine wpAnyH_ready (rs := [28]) (by kernel_rfl) (by simp) ?_
      refine AllReadyH.cons (o := ?or88_28) ?hor88_28 (fun K hK => ?kr88_28) AllReadyH.nil
      case hor88_28 => simp only [List.getElem?_toArray, List.getElem?_cons_succ, List.getElem?_cons_zero]; rfl
      go_simp
      have cc := Mul_any w3 ra1 yf
      rw [mul_ok LP.out (Nat.lt_of_lt_of_le (show factC q (1 : Int) < pw 2 from (fact_bd vld.out.may (by decide) (by decide)).1) (pw_le (by decide))) LF.out] at cc
      refine cc.mono ?_
      rintro e2 w4 ⟨ax, nx, cx, rfl, yx, hb⟩
      clear cc
      have R1 := R1.later hb
      have ra1 := ra1.below hb
      have rb1 := rb1.below hb
      clear hb yf
      go_wp2_with fail
      refine hK.out _ _ ?_ (fun hHeld => ?_)
      · exact ⟨R1.cell 0 _ rfl, R1.cell 1 _ rfl, R1.cell 2 _ rfl, R1.cell 8 _ rfl⟩
      clear hK K
      try simp only [Act.put, List.setIfInBounds_toArray, List.set_cons_zero, List.set_cons_succ]
      refine wpAnyH_take (i := 29) (oi := ?oir89_29) (v := ?vr89_29) ?hir89_29 (by kernel_rfl) (by kernel_rfl) (by kernel_rfl) ?hqr89_29 ?hyr89_29 (by assumption) ?restr89_29
      case hir89_29 => simp only [List.getElem?_toArray, List.getElem?_cons_succ, List.getElem?_cons_zero]; rfl
      case hqr89_29 => exact fun _ _ _ h => h
      case hyr89_29 => (refine Or.inl ⟨by rfl, ?_⟩; intro w hSw; (try dsimp only at hSw); go_simp; all_goals with_reducible rfl)
      try simp only [Act.put, List.setIfInBounds_toArray, List.set_cons_zero, List.set_cons_succ]
      refine wpAnyH_take (i := 30) (oi := ?oir89_30) (v := ?vr89_30) ?hir89_30 (by kernel_rfl) (by kernel_rfl) (by kernel_rfl) ?hqr89_30 ?hyr89_30 (by assumption) ?restr89_30
      case hir89_30 => simp only [List.getElem?_toArray, List.getElem?_cons_succ, List.getElem?_cons_zero]; rfl
      case hqr89_30 => exact fun _ _ _ h => h
      case hyr89_30 => (refine Or.inl ⟨by rfl, ?_⟩; intro w hSw; (try dsimp only at hSw); go_simp; all_goals with_reducible rfl)
      try simp only [Act.put, List.setIfInBounds_toArray, List.set_cons_zero, List.set_cons_succ]
      refine wpAnyH_take (i := 31) (oi := ?oir89_31) (v := ?vr89_31) ?hir89_31 (by kernel_rfl) (by kernel_rfl) (by kernel_rfl) ?hqr89_31 ?hyr89_31 (by assumption) ?restr89_31
      case hir89_31 => simp only [List.getElem?_toArray, List.getElem?_cons_succ, List.getElem?_cons_zero]; rfl
      case hqr89_31 => exact fun _ _ _ h => h
      case hyr89_31 => (refine Or.inl ⟨by rfl, ?_⟩; intro w hSw; (try dsimp only at hSw); go_simp; all_goals with_reducible rfl)
      try simp only [Act.put, List.setIfInBounds_toArray, List.set_cons_zero, List.set_cons_succ]
      refine wpAnyH_take (i := 32) (oi := ?oir89_32) (v := ?vr89_32) ?hir89_32 (by kernel_rfl) (by kernel_rfl) (by kernel_rfl) ?hqr89_32 ?hyr89_32 (by assumption) ?restr89_32
      case hir89_32 => simp only [List.getElem?_toArray, List.getElem?_cons_succ, List.getElem?_cons_zero]; rfl
      case hqr89_32 => exact fun _ _ _ h => h
      case hyr89_32 => (refine Or.inl ⟨by rfl, ?_⟩; intro w hSw; (try dsimp only at hSw); go_simp; all_goals with_reducible rfl)
      try simp only [Act.put, List.setIfInBounds_toArray, List.set_cons_zero, List.set_cons_succ]
      refine wpAnyH_take (i := 33) (oi := ?oir89_33) (v := ?vr89_33) ?hir89_33 (by kernel_rfl) (by kernel_rfl) (by kernel_rfl) ?hqr89_33 ?hyr89_33 (by assumption) ?restr89_33
      case hir89_33 => simp only [List.getElem?_toArray, List.getElem?_cons_succ, List.getElem?_cons_zero]; rfl
      case hqr89_33 => exact fun _ _ _ h => h
      case hyr89_33 => (refine Or.inl ⟨by rfl, ?_⟩; intro w hSw; (try dsimp only at hSw); go_simp; all_goals with_reducible rfl)
      try simp only [Act.put, List.setIfInBounds_toArray, List.set_cons_zero, List.set_cons_succ]
      refine wpAnyH_done (by kernel_rfl) ?_ _
      clear hHeld
      have cW := see_whole vld.out.may
      go_wp2_with fail
      refine (Of_any w4 (wholeC q) (fact_bd vld.out.may (x := 0) (by decide) (by decide)).2).mono ?_
      rintro e2 w5 ⟨ay, ny, cy, rfl, yy, hb⟩
      have R1 := R1.later hb
      have ra1 := ra1.below hb
      have rb1 := rb1.below hb
      have yx := yx.below hb
      clear hb
      go_wp2_with fail
      have cc := Div_any w5 yx yy
      rw [div_ok LF.out (Nat.lt_of_lt_of_le (show wholeC q < pw 2 from (fact_bd vld.out.may (x := 0) (by decide) (by decide)).2) (pw_le (by decide))) (fact_whole vld.out.may).2] at cc
      refine cc.mono ?_
      rintro e2 w6 ⟨az, nz, cz, ar, nr, cr, rfl, yz, -, hb⟩
      clear cc
      have R1 := R1.later hb
      have ra1 := ra1.below hb
      have rb1 := rb1.below hb
      clear hb yx yy
      have fr8 := R1.free 8
      have k8 := R1.cell 8 _ rfl
      have R2 : PRow 66 wb (w6.setCell ⟨k, 8, none⟩ (.slice az nz cz)) k (cmC (bumpC q (1 : Int)) az nz cz b m d) := R1.set 8 (.slice az nz cz)
      have yz := rd_setcell (i := 8) yz R1.row (cm_noint _ _ _ _ _ _ _) (.slice az nz cz)
      have rb1 := rd_setcell (i := 8) rb1 R1.row (cm_noint _ _ _ _ _ _ _) (.slice az nz cz)
      clear ra1 R1
      go_upto_region 8 with fail
      clear fr8 k8 cW n1' n2'
      generalize w6.setCell ⟨k, 8, none⟩ (.slice az nz cz) = w7 at *
      by_cases hD : (L * factC q (1 : Int) / wholeC q) ≤ mostN
      · have NX := Lib.hid (show nextC q L (1 : Int) = (L * factC q (1 : Int) / wholeC q) by unfold nextC timesN; exact Nat.min_eq_left hD)
        have DL := Lib.hid (show leC (limbs (L * factC q (1 : Int) / wholeC q)) [0, 0, 0, 0, 1] = true by rw [← most_limbs, leC_ok (Nat.lt_of_le_of_lt hD most_pw) most_pw]; exact decide_eq_true hD)
        clear hD
        have hb := (Below.refl w7.heap.size w7).drew
        have R2 := R2.later hb
        have yz := yz.below hb
        have rb1 := rb1.below hb
        clear hb
        refine wp_region_held_drew (S := (fun w' => w'.cell? ⟨k, 8, none⟩ = some (.slice az nz cz) ∧ True)) (by kernel_rfl) ?_ (fun hHeld => ?_)
        · exact ⟨R2.cell 8 _ rfl, trivial⟩
        generalize w7.drew = w8 at *
        refine wpAnyH_take (i := 0) (oi := ?oir90_0) (v := ?vr90_0) ?hir90_0 (by kernel_rfl) (by kernel_rfl) (by kernel_rfl) ?hqr90_0 ?hyr90_0 (by assumption) ?restr90_0
        case hir90_0 => simp only [List.getElem?_toArray, List.getElem?_cons_succ, List.getElem?_cons_zero]; rfl
        case hqr90_0 => exact fun _ _ _ h => h
        case hyr90_0 => (refine Or.inl ⟨by rfl, ?_⟩; intro w hSw; (try dsimp only at hSw); go_simp; all_goals with_reducible rfl)
        try simp only [Act.put, List.setIfInBounds_toArray, List.set_cons_zero, List.set_cons_succ]
        refine wpAnyH_take (i := 1) (oi := ?oir90_1) (v := ?vr90_1) ?hir90_1 (by kernel_rfl) (by kernel_rfl) (by kernel_rfl) ?hqr90_1 ?hyr90_1 (by assumption) ?restr90_1
        case hir90_1 => simp only [List.getElem?_toArray, List.getElem?_cons_succ, List.getElem?_cons_zero]; rfl
        case hqr90_1 => exact fun _ _ _ h => h
        case hyr90_1 => (refine Or.inl ⟨by rfl, ?_⟩; intro w hSw; (try dsimp only at hSw); go_simp; all_goals with_reducible rfl)
        try simp only [Act.put, List.setIfInBounds_toArray, List.set_cons_zero, List.set_cons_succ]
        refine wpAnyH_take (i := 2) (oi := ?oir90_2) (v := ?vr90_2) ?hir90_2 (by kernel_rfl) (by kernel_rfl) (by kernel_rfl) ?hqr90_2 ?hyr90_2 (by assumption) ?restr90_2
        case hir90_2 => simp only [List.getElem?_toArray, List.getElem?_cons_succ, List.getElem?_cons_zero]; rfl
        case hqr90_2 => exact fun _ _ _ h => h
        case hyr90_2 => (refine Or.inl ⟨by rfl, ?_⟩; intro w hSw; (try dsimp only at hSw); go_simp; all_goals with_reducible rfl)
        try simp only [Act.put, List.setIfInBounds_toArray, List.set_cons_zero, List.set_cons_succ]
        refine wpAnyH_take (i := 3) (oi := ?oir90_3) (v := ?vr90_3) ?hir90_3 (by kernel_rfl) (by kernel_rfl) (by kernel_rfl) ?hqr90_3 ?hyr90_3 (by assumption) ?restr90_3
        case hir90_3 => simp only [List.getElem?_toArray, List.getElem?_cons_succ, List.getElem?_cons_zero]; rfl
        case hqr90_3 => exact fun _ _ _ h => h
        case hyr90_3 => (refine Or.inl ⟨by rfl, ?_⟩; intro w hSw; (try dsimp only at hSw); go_simp; all_goals with_reducible rfl)
        try simp only [Act.put, List.setIfInBounds_toArray, List.set_cons_zero, List.set_cons_succ]
        refine wpAnyH_take (i := 4) (oi := ?oir90_4) (v := ?vr90_4) ?hir90_4 (by kernel_rfl) (by kernel_rfl) (by kernel_rfl) ?hqr90_4 ?hyr90_4 (by assumption) ?restr90_4
        case hir90_4 => simp only [List.getElem?_toArray, List.getElem?_cons_succ, List.getElem?_cons_zero]; rfl
        case hqr90_4 => exact fun _ _ _ h => h
        case hyr90_4 => (refine Or.inl ⟨by rfl, ?_⟩; intro w hSw; (try dsimp only at hSw); go_simp; all_goals with_reducible rfl)
        try simp only [Act.put, List.setIfInBounds_toArray, List.set_cons_zero, List.set_cons_succ]
        refine wpAnyH_ready (rs := [5]) (by kernel_rfl) (by simp) ?_
        refine AllReadyH.cons (o := ?or91_5) ?hor91_5 (fun K hK => ?kr91_5) AllReadyH.nil
        case hor91_5 => simp only [List.getElem?_toArray, List.getElem?_cons_succ, List.getElem?_cons_zero]; rfl
        go_simp
        refine (cmMost_any w8).mono ?_
        rintro e2 w9 ⟨am, nm, cm, rfl, ym, hb⟩
        have R2 := R2.later hb
        have yz := yz.below hb
        have rb1 := rb1.below hb
        clear hb
        go_wp2_with fail
        refine hK.out _ _ ?_ (fun hHeld => ?_)
        · exact ⟨R2.cell 8 _ rfl, trivial⟩
        clear hK K
        try simp only [Act.put, List.setIfInBounds_toArray, List.set_cons_zero, List.set_cons_succ]
        refine wpAnyH_ready (rs := [6]) (by kernel_rfl) (by simp) ?_
        refine AllReadyH.cons (o := ?or92_6) ?hor92_6 (fun K hK => ?kr92_6) AllReadyH.nil
        case hor92_6 => simp only [List.getElem?_toArray, List.getElem?_cons_succ, List.getElem?_cons_zero]; rfl
        go_simp
        have cc := cmAtMost_any w9 yz ym
        rw [DL.out] at cc
        refine cc.mono ?_
        rintro e2 wA ⟨rfl, hb⟩
        clear cc
        have R2 := R2.later hb
        have yz := yz.below hb
        have rb1 := rb1.below hb
        clear hb ym
        go_wp2_with fail
        refine hK.out _ _ ?_ (fun hHeld => ?_)
        · exact ⟨R2.cell 8 _ rfl, trivial⟩
        clear hK K
        try simp only [Act.put, List.setIfInBounds_toArray, List.set_cons_zero, List.set_cons_succ]
        refine wpAnyH_take (i := 7) (oi := ?oir93_7) (v := ?vr93_7) ?hir93_7 (by kernel_rfl) (by kernel_rfl) (by kernel_rfl) ?hqr93_7 ?hyr93_7 (by assumption) ?restr93_7
        case hir93_7 => simp only [List.getElem?_toArray, List.getElem?_cons_succ, List.getElem?_cons_zero]; rfl
        case hqr93_7 => exact fun _ _ _ h => h
        case hyr93_7 => (refine Or.inl ⟨by rfl, ?_⟩; intro w hSw; (try dsimp only at hSw); go_simp; all_goals with_reducible rfl)
        try simp only [Act.put, List.setIfInBounds_toArray, List.set_cons_zero, List.set_cons_succ]
        refine wpAnyH_done (by kernel_rfl) ?_ _
        clear hHeld
        rw [← NX.out] at yz
        by_cases hB : nextC q L (1 : Int) ≤ B
        · have BL := Lib.hid (show leC (limbs (nextC q L (1 : Int))) (limbs B) = true by rw [leC_ok nextC_lt vld.out.pw.2]; exact decide_eq_true hB)
          have HB := Lib.hid hB
          clear hB
          go_upto_region 10 with fail
          have hb := (Below.refl wA.heap.size wA).drew
          have R2 := R2.later hb
          have yz := yz.below hb
          have rb1 := rb1.below hb
          clear hb
          refine wp_region_held_drew (S := (fun w' => w'.cell? ⟨k, 8, none⟩ = some (.slice az nz cz) ∧ w'.cell? ⟨k, 9, none⟩ = some (.slice b m d))) (by kernel_rfl) ?_ (fun hHeld => ?_)
          · exact ⟨R2.cell 8 _ rfl, R2.cell 9 _ rfl⟩
          generalize wA.drew = wD at *
          refine wpAnyH_take (i := 0) (oi := ?oir94_0) (v := ?vr94_0) ?hir94_0 (by kernel_rfl) (by kernel_rfl) (by kernel_rfl) ?hqr94_0 ?hyr94_0 (by assumption) ?restr94_0
          case hir94_0 => simp only [List.getElem?_toArray, List.getElem?_cons_succ, List.getElem?_cons_zero]; rfl
          case hqr94_0 => exact fun _ _ _ h => h
          case hyr94_0 => (refine Or.inl ⟨by rfl, ?_⟩; intro w hSw; (try dsimp only at hSw); go_simp; all_goals with_reducible rfl)
          try simp only [Act.put, List.setIfInBounds_toArray, List.set_cons_zero, List.set_cons_succ]
          refine wpAnyH_take (i := 1) (oi := ?oir94_1) (v := ?vr94_1) ?hir94_1 (by kernel_rfl) (by kernel_rfl) (by kernel_rfl) ?hqr94_1 ?hyr94_1 (by assumption) ?restr94_1
          case hir94_1 => simp only [List.getElem?_toArray, List.getElem?_cons_succ, List.getElem?_cons_zero]; rfl
          case hqr94_1 => exact fun _ _ _ h => h
          case hyr94_1 => (refine Or.inl ⟨by rfl, ?_⟩; intro w hSw; (try dsimp only at hSw); go_simp; all_goals with_reducible rfl)
          try simp only [Act.put, List.setIfInBounds_toArray, List.set_cons_zero, List.set_cons_succ]
          refine wpAnyH_take (i := 2) (oi := ?oir94_2) (v := ?vr94_2) ?hir94_2 (by kernel_rfl) (by kernel_rfl) (by kernel_rfl) ?hqr94_2 ?hyr94_2 (by assumption) ?restr94_2
          case hir94_2 => simp only [List.getElem?_toArray, List.getElem?_cons_succ, List.getElem?_cons_zero]; rfl
          case hqr94_2 => exact fun _ _ _ h => h
          case hyr94_2 => (refine Or.inl ⟨by rfl, ?_⟩; intro w hSw; (try dsimp only at hSw); go_simp; all_goals with_reducible rfl)
          try simp only [Act.put, List.setIfInBounds_toArray, List.set_cons_zero, List.set_cons_succ]
          refine wpAnyH_take (i := 3) (oi := ?oir94_3) (v := ?vr94_3) ?hir94_3 (by kernel_rfl) (by kernel_rfl) (by kernel_rfl) ?hqr94_3 ?hyr94_3 (by assumption) ?restr94_3
          case hir94_3 => simp only [List.getElem?_toArray, List.getElem?_cons_succ, List.getElem?_cons_zero]; rfl
          case hqr94_3 => exact fun _ _ _ h => h
          case hyr94_3 => (refine Or.inl ⟨by rfl, ?_⟩; intro w hSw; (try dsimp only at hSw); go_simp; all_goals with_reducible rfl)
          try simp only [Act.put, List.setIfInBounds_toArray, List.set_cons_zero, List.set_cons_succ]
          refine wpAnyH_take (i := 4) (oi := ?oir94_4) (v := ?vr94_4) ?hir94_4 (by kernel_rfl) (by kernel_rfl) (by kernel_rfl) ?hqr94_4 ?hyr94_4 (by assumption) ?restr94_4
          case hir94_4 => simp only [List.getElem?_toArray, List.getElem?_cons_succ, List.getElem?_cons_zero]; rfl
          case hqr94_4 => exact fun _ _ _ h => h
          case hyr94_4 => (refine Or.inl ⟨by rfl, ?_⟩; intro w hSw; (try dsimp only at hSw); go_simp; all_goals with_reducible rfl)
          try simp only [Act.put, List.setIfInBounds_toArray, List.set_cons_zero, List.set_cons_succ]
          refine wpAnyH_take (i := 5) (oi := ?oir94_5) (v := ?vr94_5) ?hir94_5 (by kernel_rfl) (by kernel_rfl) (by kernel_rfl) ?hqr94_5 ?hyr94_5 (by assumption) ?restr94_5
          case hir94_5 => simp only [List.getElem?_toArray, List.getElem?_cons_succ, List.getElem?_cons_zero]; rfl
          case hqr94_5 => exact fun _ _ _ h => h
          case hyr94_5 => (refine Or.inl ⟨by rfl, ?_⟩; intro w hSw; (try dsimp only at hSw); go_simp; all_goals with_reducible rfl)
          try simp only [Act.put, List.setIfInBounds_toArray, List.set_cons_zero, List.set_cons_succ]
          refine wpAnyH_take (i := 6) (oi := ?oir94_6) (v := ?vr94_6) ?hir94_6 (by kernel_rfl) (by kernel_rfl) (by kernel_rfl) ?hqr94_6 ?hyr94_6 (by assumption) ?restr94_6
          case hir94_6 => simp only [List.getElem?_toArray, List.getElem?_cons_succ, List.getElem?_cons_zero]; rfl
          case hqr94_6 => exact fun _ _ _ h => h
          case hyr94_6 => (refine Or.inl ⟨by rfl, ?_⟩; intro w hSw; (try dsimp only at hSw); go_simp; all_goals with_reducible rfl)
          try simp only [Act.put, List.setIfInBounds_toArray, List.set_cons_zero, List.set_cons_succ]
          refine wpAnyH_take (i := 7) (oi := ?oir94_7) (v := ?vr94_7) ?hir94_7 (by kernel_rfl) (by kernel_rfl) (by kernel_rfl) ?hqr94_7 ?hyr94_7 (by assumption) ?restr94_7
          case hir94_7 => simp only [List.getElem?_toArray, List.getElem?_cons_succ, List.getElem?_cons_zero]; rfl
          case hqr94_7 => exact fun _ _ _ h => h
          case hyr94_7 => (refine Or.inl ⟨by rfl, ?_⟩; intro w hSw; (try dsimp only at hSw); go_simp; all_goals with_reducible rfl)
          try simp only [Act.put, List.setIfInBounds_toArray, List.set_cons_zero, List.set_cons_succ]
          refine wpAnyH_take (i := 8) (oi := ?oir94_8) (v := ?vr94_8) ?hir94_8 (by kernel_rfl) (by kernel_rfl) (by kernel_rfl) ?hqr94_8 ?hyr94_8 (by assumption) ?restr94_8
          case hir94_8 => simp only [List.getElem?_toArray, List.getElem?_cons_succ, List.getElem?_cons_zero]; rfl
          case hqr94_8 => exact fun _ _ _ h => h
          case hyr94_8 => (refine Or.inl ⟨by rfl, ?_⟩; intro w hSw; (try dsimp only at hSw); go_simp; all_goals with_reducible rfl)
          try simp only [Act.put, List.setIfInBounds_toArray, List.set_cons_zero, List.set_cons_succ]
          refine wpAnyH_take (i := 9) (oi := ?oir94_9) (v := ?vr94_9) ?hir94_9 (by kernel_rfl) (by kernel_rfl) (by kernel_rfl) ?hqr94_9 ?hyr94_9 (by assumption) ?restr94_9
          case hir94_9 => simp only [List.getElem?_toArray, List.getElem?_cons_succ, List.getElem?_cons_zero]; rfl
          case hqr94_9 => exact fun _ _ _ h => h
          case hyr94_9 => (refine Or.inl ⟨by rfl, ?_⟩; intro w hSw; (try dsimp only at hSw); go_simp; all_goals with_reducible rfl)
          try simp only [Act.put, List.setIfInBounds_toArray, List.set_cons_zero, List.set_cons_succ]
          refine wpAnyH_ready (rs := [10]) (by kernel_rfl) (by simp) ?_
          refine AllReadyH.cons (o := ?or95_10) ?hor95_10 (fun K hK => ?kr95_10) AllReadyH.nil
          case hor95_10 => simp only [List.getElem?_toArray, List.getElem?_cons_succ, List.getElem?_cons_zero]; rfl
          go_simp
          have cc := cmAtMost_any wD yz rb1
          rw [BL.out] at cc
          refine cc.mono ?_
          rintro e2 wE ⟨rfl, hb⟩
          clear cc
          have R2 := R2.later hb
          have yz := yz.below hb
          have rb1 := rb1.below hb
          clear hb
          go_wp2_with fail
          refine hK.out _ _ ?_ (fun hHeld => ?_)
          · exact ⟨R2.cell 8 _ rfl, R2.cell 9 _ rfl⟩
          clear hK K
          try simp only [Act.put, List.setIfInBounds_toArray, List.set_cons_zero, List.set_cons_succ]
          refine wpAnyH_take (i := 11) (oi := ?oir96_11) (v := ?vr96_11) ?hir96_11 (by kernel_rfl) (by kernel_rfl) (by kernel_rfl) ?hqr96_11 ?hyr96_11 (by assumption) ?restr96_11
          case hir96_11 => simp only [List.getElem?_toArray, List.getElem?_cons_succ, List.getElem?_cons_zero]; rfl
          case hqr96_11 => exact fun _ _ _ h => h
          case hyr96_11 => (refine Or.inl ⟨by rfl, ?_⟩; intro w hSw; (try dsimp only at hSw); go_simp; all_goals with_reducible rfl)
          try simp only [Act.put, List.setIfInBounds_toArray, List.set_cons_zero, List.set_cons_succ]
          refine wpAnyH_done (by kernel_rfl) ?_ _
          clear hHeld
          go_wp2_with fail
          go_ret
          refine .inr ⟨_, _, _, _, _, _, e.out, rfl, R2, ?_, ?_⟩
          · rw [(show (stepC q (1 : Int)).lev = limbs (nextC q L (1 : Int)) by show limbs (nextC q (val q.lev) (1 : Int)) = _; rw [vld.out.lev, val_limbs])]; exact yz
          · rw [(show (stepC q (1 : Int)).best = limbs B by show limbs (max (val q.best) (nextC q (val q.lev) (1 : Int))) = _; rw [vld.out.lev, vld.out.best, val_limbs, val_limbs, Nat.max_eq_left HB.out])]; exact rb1
        · have BL := Lib.hid (show leC (limbs (nextC q L (1 : Int))) (limbs B) = false by rw [leC_ok nextC_lt vld.out.pw.2]; exact decide_eq_false hB)
          have HB := Lib.hid hB
          clear hB
          go_upto_region 10 with fail
          have hb := (Below.refl wA.heap.size wA).drew
          have R2 := R2.later hb
          have yz := yz.below hb
          have rb1 := rb1.below hb
          clear hb
          refine wp_region_held_drew (S := (fun w' => w'.cell? ⟨k, 8, none⟩ = some (.slice az nz cz) ∧ w'.cell? ⟨k, 9, none⟩ = some (.slice b m d))) (by kernel_rfl) ?_ (fun hHeld => ?_)
          · exact ⟨R2.cell 8 _ rfl, R2.cell 9 _ rfl⟩
          generalize wA.drew = wD at *
          refine wpAnyH_take (i := 0) (oi := ?oir97_0) (v := ?vr97_0) ?hir97_0 (by kernel_rfl) (by kernel_rfl) (by kernel_rfl) ?hqr97_0 ?hyr97_0 (by assumption) ?restr97_0
          case hir97_0 => simp only [List.getElem?_toArray, List.getElem?_cons_succ, List.getElem?_cons_zero]; rfl
          case hqr97_0 => exact fun _ _ _ h => h
          case hyr97_0 => (refine Or.inl ⟨by rfl, ?_⟩; intro w hSw; (try dsimp only at hSw); go_simp; all_goals with_reducible rfl)
          try simp only [Act.put, List.setIfInBounds_toArray, List.set_cons_zero, List.set_cons_succ]
          refine wpAnyH_take (i := 1) (oi := ?oir97_1) (v := ?vr97_1) ?hir97_1 (by kernel_rfl) (by kernel_rfl) (by kernel_rfl) ?hqr97_1 ?hyr97_1 (by assumption) ?restr97_1
          case hir97_1 => simp only [List.getElem?_toArray, List.getElem?_cons_succ, List.getElem?_cons_zero]; rfl
          case hqr97_1 => exact fun _ _ _ h => h
          case hyr97_1 => (refine Or.inl ⟨by rfl, ?_⟩; intro w hSw; (try dsimp only at hSw); go_simp; all_goals with_reducible rfl)
          try simp only [Act.put, List.setIfInBounds_toArray, List.set_cons_zero, List.set_cons_succ]
          refine wpAnyH_take (i := 2) (oi := ?oir97_2) (v := ?vr97_2) ?hir97_2 (by kernel_rfl) (by kernel_rfl) (by kernel_rfl) ?hqr97_2 ?hyr97_2 (by assumption) ?restr97_2
          case hir97_2 => simp only [List.getElem?_toArray, List.getElem?_cons_succ, List.getElem?_cons_zero]; rfl
          case hqr97_2 => exact fun _ _ _ h => h
          case hyr97_2 => (refine Or.inl ⟨by rfl, ?_⟩; intro w hSw; (try dsimp only at hSw); go_simp; all_goals with_reducible rfl)
          try simp only [Act.put, List.setIfInBounds_toArray, List.set_cons_zero, List.set_cons_succ]
          refine wpAnyH_take (i := 3) (oi := ?oir97_3) (v := ?vr97_3) ?hir97_3 (by kernel_rfl) (by kernel_rfl) (by kernel_rfl) ?hqr97_3 ?hyr97_3 (by assumption) ?restr97_3
          case hir97_3 => simp only [List.getElem?_toArray, List.getElem?_cons_succ, List.getElem?_cons_zero]; rfl
          case hqr97_3 => exact fun _ _ _ h => h
          case hyr97_3 => (refine Or.inl ⟨by rfl, ?_⟩; intro w hSw; (try dsimp only at hSw); go_simp; all_goals with_reducible rfl)
          try simp only [Act.put, List.setIfInBounds_toArray, List.set_cons_zero, List.set_cons_succ]
          refine wpAnyH_take (i := 4) (oi := ?oir97_4) (v := ?vr97_4) ?hir97_4 (by kernel_rfl) (by kernel_rfl) (by kernel_rfl) ?hqr97_4 ?hyr97_4 (by assumption) ?restr97_4
          case hir97_4 => simp only [List.getElem?_toArray, List.getElem?_cons_succ, List.getElem?_cons_zero]; rfl
          case hqr97_4 => exact fun _ _ _ h => h
          case hyr97_4 => (refine Or.inl ⟨by rfl, ?_⟩; intro w hSw; (try dsimp only at hSw); go_simp; all_goals with_reducible rfl)
          try simp only [Act.put, List.setIfInBounds_toArray, List.set_cons_zero, List.set_cons_succ]
          refine wpAnyH_take (i := 5) (oi := ?oir97_5) (v := ?vr97_5) ?hir97_5 (by kernel_rfl) (by kernel_rfl) (by kernel_rfl) ?hqr97_5 ?hyr97_5 (by assumption) ?restr97_5
          case hir97_5 => simp only [List.getElem?_toArray, List.getElem?_cons_succ, List.getElem?_cons_zero]; rfl
          case hqr97_5 => exact fun _ _ _ h => h
          case hyr97_5 => (refine Or.inl ⟨by rfl, ?_⟩; intro w hSw; (try dsimp only at hSw); go_simp; all_goals with_reducible rfl)
          try simp only [Act.put, List.setIfInBounds_toArray, List.set_cons_zero, List.set_cons_succ]
          refine wpAnyH_take (i := 6) (oi := ?oir97_6) (v := ?vr97_6) ?hir97_6 (by kernel_rfl) (by kernel_rfl) (by kernel_rfl) ?hqr97_6 ?hyr97_6 (by assumption) ?restr97_6
          case hir97_6 => simp only [List.getElem?_toArray, List.getElem?_cons_succ, List.getElem?_cons_zero]; rfl
          case hqr97_6 => exact fun _ _ _ h => h
          case hyr97_6 => (refine Or.inl ⟨by rfl, ?_⟩; intro w hSw; (try dsimp only at hSw); go_simp; all_goals with_reducible rfl)
          try simp only [Act.put, List.setIfInBounds_toArray, List.set_cons_zero, List.set_cons_succ]
          refine wpAnyH_take (i := 7) (oi := ?oir97_7) (v := ?vr97_7) ?hir97_7 (by kernel_rfl) (by kernel_rfl) (by kernel_rfl) ?hqr97_7 ?hyr97_7 (by assumption) ?restr97_7
          case hir97_7 => simp only [List.getElem?_toArray, List.getElem?_cons_succ, List.getElem?_cons_zero]; rfl
          case hqr97_7 => exact fun _ _ _ h => h
          case hyr97_7 => (refine Or.inl ⟨by rfl, ?_⟩; intro w hSw; (try dsimp only at hSw); go_simp; all_goals with_reducible rfl)
          try simp only [Act.put, List.setIfInBounds_toArray, List.set_cons_zero, List.set_cons_succ]
          refine wpAnyH_take (i := 8) (oi := ?oir97_8) (v := ?vr97_8) ?hir97_8 (by kernel_rfl) (by kernel_rfl) (by kernel_rfl) ?hqr97_8 ?hyr97_8 (by assumption) ?restr97_8
          case hir97_8 => simp only [List.getElem?_toArray, List.getElem?_cons_succ, List.getElem?_cons_zero]; rfl
          case hqr97_8 => exact fun _ _ _ h => h
          case hyr97_8 => (refine Or.inl ⟨by rfl, ?_⟩; intro w hSw; (try dsimp only at hSw); go_simp; all_goals with_reducible rfl)
          try simp only [Act.put, List.setIfInBounds_toArray, List.set_cons_zero, List.set_cons_succ]
          refine wpAnyH_take (i := 9) (oi := ?oir97_9) (v := ?vr97_9) ?hir97_9 (by kernel_rfl) (by kernel_rfl) (by kernel_rfl) ?hqr97_9 ?hyr97_9 (by assumption) ?restr97_9
          case hir97_9 => simp only [List.getElem?_toArray, List.getElem?_cons_succ, List.getElem?_cons_zero]; rfl
          case hqr97_9 => exact fun _ _ _ h => h
          case hyr97_9 => (refine Or.inl ⟨by rfl, ?_⟩; intro w hSw; (try dsimp only at hSw); go_simp; all_goals with_reducible rfl)
          try simp only [Act.put, List.setIfInBounds_toArray, List.set_cons_zero, List.set_cons_succ]
          refine wpAnyH_ready (rs := [10]) (by kernel_rfl) (by simp) ?_
          refine AllReadyH.cons (o := ?or98_10) ?hor98_10 (fun K hK => ?kr98_10) AllReadyH.nil
          case hor98_10 => simp only [List.getElem?_toArray, List.getElem?_cons_succ, List.getElem?_cons_zero]; rfl
          go_simp
          have cc := cmAtMost_any wD yz rb1
          rw [BL.out] at cc
          refine cc.mono ?_
          rintro e2 wE ⟨rfl, hb⟩
          clear cc
          have R2 := R2.later hb
          have yz := yz.below hb
          have rb1 := rb1.below hb
          clear hb
          go_wp2_with fail
          refine hK.out _ _ ?_ (fun hHeld => ?_)
          · exact ⟨R2.cell 8 _ rfl, R2.cell 9 _ rfl⟩
          clear hK K
          try simp only [Act.put, List.setIfInBounds_toArray, List.set_cons_zero, List.set_cons_succ]
          refine wpAnyH_take (i := 11) (oi := ?oir99_11) (v := ?vr99_11) ?hir99_11 (by kernel_rfl) (by kernel_rfl) (by kernel_rfl) ?hqr99_11 ?hyr99_11 (by assumption) ?restr99_11
          case hir99_11 => simp only [List.getElem?_toArray, List.getElem?_cons_succ, List.getElem?_cons_zero]; rfl
          case hqr99_11 => exact fun _ _ _ h => h
          case hyr99_11 => (refine Or.inl ⟨by rfl, ?_⟩; intro w hSw; (try dsimp only at hSw); go_simp; all_goals with_reducible rfl)
          try simp only [Act.put, List.setIfInBounds_toArray, List.set_cons_zero, List.set_cons_succ]
          refine wpAnyH_done (by kernel_rfl) ?_ _
          clear hHeld
          have k8 : wE.cell? ⟨k, 8, none⟩ = some (.slice az nz cz) := R2.cell 8 _ rfl
          go_wp2_with fail
          refine (Clone_any wE yz (by have h1 := yz.len; have h2 := limbs_len_le (k := 96) (show nextC q L (1 : Int) < pw 96 from Nat.lt_of_le_of_lt (Nat.min_le_right _ _) most_pw); omega)).mono ?_
          rintro e2 wF ⟨ak, nk, ck, rfl, yk, hb⟩
          have R2 := R2.later hb
          have yz := yz.below hb
          have rb1 := rb1.below hb
          clear hb k8
          have fr9 := R2.free 9
          have k9 := R2.cell 9 _ rfl
          have R4 : PRow 66 wb (wF.setCell ⟨k, 9, none⟩ (.slice ak nk ck)) k (cmC (bumpC q (1 : Int)) az nz cz ak nk ck) := R2.set 9 (.slice ak nk ck)
          have yk := rd_setcell (i := 9) yk R2.row (cm_noint _ _ _ _ _ _ _) (.slice ak nk ck)
          have yl := rd_setcell (i := 9) yz R2.row (cm_noint _ _ _ _ _ _ _) (.slice ak nk ck)
          go_wp2_with fail
          go_ret
          refine .inr ⟨_, _, _, _, _, _, e.out, rfl, R4, ?_, ?_⟩
          · rw [(show (stepC q (1 : Int)).lev = limbs (nextC q L (1 : Int)) by show limbs (nextC q (val q.lev) (1 : Int)) = _; rw [vld.out.lev, val_limbs])]; exact yl
          · rw [(show (stepC q (1 : Int)).best = limbs (nextC q L (1 : Int)) by show limbs (max (val q.best) (nextC q (val q.lev) (1 : Int))) = _; rw [vld.out.lev, vld.out.best, val_limbs, val_limbs, Nat.max_eq_right (Nat.le_of_lt (Nat.lt_of_not_le HB.out))])]; exact yk
      · have NX := Lib.hid (show nextC q L (1 : Int) = mostN by unfold nextC timesN; exact Nat.min_eq_right (Nat.le_of_lt (Nat.lt_of_not_le hD)))
        have DL := Lib.hid (show leC (limbs (L * factC q (1 : Int) / wholeC q)) [0, 0, 0, 0, 1] = false by rw [← most_limbs, leC_ok (Nat.lt_of_le_of_lt (Nat.div_le_self _ _) LF.out) most_pw]; exact decide_eq_false hD)
        clear hD
        have hb := (Below.refl w7.heap.size w7).drew
        have R2 := R2.later hb
        have yz := yz.below hb
        have rb1 := rb1.below hb
        clear hb
        refine wp_region_held_drew (S := (fun w' => w'.cell? ⟨k, 8, none⟩ = some (.slice az nz cz) ∧ True)) (by kernel_rfl) ?_ (fun hHeld => ?_)
        · exact ⟨R2.cell 8 _ rfl, trivial⟩
        generalize w7.drew = w8 at *
        refine wpAnyH_take (i := 0) (oi := ?oir100_0) (v := ?vr100_0) ?hir100_0 (by kernel_rfl) (by kernel_rfl) (by kernel_rfl) ?hqr100_0 ?hyr100_0 (by assumption) ?restr100_0
        case hir100_0 => simp only [List.getElem?_toArray, List.getElem?_cons_succ, List.getElem?_cons_zero]; rfl
        case hqr100_0 => exact fun _ _ _ h => h
        case hyr100_0 => (refine Or.inl ⟨by rfl, ?_⟩; intro w hSw; (try dsimp only at hSw); go_simp; all_goals with_reducible rfl)
        try simp only [Act.put, List.setIfInBounds_toArray, List.set_cons_zero, List.set_cons_succ]
        refine wpAnyH_take (i := 1) (oi := ?oir100_1) (v := ?vr100_1) ?hir100_1 (by kernel_rfl) (by kernel_rfl) (by kernel_rfl) ?hqr100_1 ?hyr100_1 (by assumption) ?restr100_1
        case hir100_1 => simp only [List.getElem?_toArray, List.getElem?_cons_succ, List.getElem?_cons_zero]; rfl
        case hqr100_1 => exact fun _ _ _ h => h
        case hyr100_1 => (refine Or.inl ⟨by rfl, ?_⟩; intro w hSw; (try dsimp only at hSw); go_simp; all_goals with_reducible rfl)
        try simp only [Act.put, List.setIfInBounds_toArray, List.set_cons_zero, List.set_cons_succ]
        refine wpAnyH_take (i := 2) (oi := ?oir100_2) (v := ?vr100_2) ?hir100_2 (by kernel_rfl) (by kernel_rfl) (by kernel_rfl) ?hqr100_2 ?hyr100_2 (by assumption) ?restr100_2
        case hir100_2 => simp only [List.getElem?_toArray, List.getElem?_cons_succ, List.getElem?_cons_zero]; rfl
        case hqr100_2 => exact fun _ _ _ h => h
        case hyr100_2 => (refine Or.inl ⟨by rfl, ?_⟩; intro w hSw; (try dsimp only at hSw); go_simp; all_goals with_reducible rfl)
        try simp only [Act.put, List.setIfInBounds_toArray, List.set_cons_zero, List.set_cons_succ]
        refine wpAnyH_take (i := 3) (oi := ?oir100_3) (v := ?vr100_3) ?hir100_3 (by kernel_rfl) (by kernel_rfl) (by kernel_rfl) ?hqr100_3 ?hyr100_3 (by assumption) ?restr100_3
        case hir100_3 => simp only [List.getElem?_toArray, List.getElem?_cons_succ, List.getElem?_cons_zero]; rfl
        case hqr100_3 => exact fun _ _ _ h => h
        case hyr100_3 => (refine Or.inl ⟨by rfl, ?_⟩; intro w hSw; (try dsimp only at hSw); go_simp; all_goals with_reducible rfl)
        try simp only [Act.put, List.setIfInBounds_toArray, List.set_cons_zero, List.set_cons_succ]
        refine wpAnyH_take (i := 4) (oi := ?oir100_4) (v := ?vr100_4) ?hir100_4 (by kernel_rfl) (by kernel_rfl) (by kernel_rfl) ?hqr100_4 ?hyr100_4 (by assumption) ?restr100_4
        case hir100_4 => simp only [List.getElem?_toArray, List.getElem?_cons_succ, List.getElem?_cons_zero]; rfl
        case hqr100_4 => exact fun _ _ _ h => h
        case hyr100_4 => (refine Or.inl ⟨by rfl, ?_⟩; intro w hSw; (try dsimp only at hSw); go_simp; all_goals with_reducible rfl)
        try simp only [Act.put, List.setIfInBounds_toArray, List.set_cons_zero, List.set_cons_succ]
        refine wpAnyH_ready (rs := [5]) (by kernel_rfl) (by simp) ?_
        refine AllReadyH.cons (o := ?or101_5) ?hor101_5 (fun K hK => ?kr101_5) AllReadyH.nil
        case hor101_5 => simp only [List.getElem?_toArray, List.getElem?_cons_succ, List.getElem?_cons_zero]; rfl
        go_simp
        refine (cmMost_any w8).mono ?_
        rintro e2 w9 ⟨am, nm, cm, rfl, ym, hb⟩
        have R2 := R2.later hb
        have yz := yz.below hb
        have rb1 := rb1.below hb
        clear hb
        go_wp2_with fail
        refine hK.out _ _ ?_ (fun hHeld => ?_)
        · exact ⟨R2.cell 8 _ rfl, trivial⟩
        clear hK K
        try simp only [Act.put, List.setIfInBounds_toArray, List.set_cons_zero, List.set_cons_succ]
        refine wpAnyH_ready (rs := [6]) (by kernel_rfl) (by simp) ?_
        refine AllReadyH.cons (o := ?or102_6) ?hor102_6 (fun K hK => ?kr102_6) AllReadyH.nil
        case hor102_6 => simp only [List.getElem?_toArray, List.getElem?_cons_succ, List.getElem?_cons_zero]; rfl
        go_simp
        have cc := cmAtMost_any w9 yz ym
        rw [DL.out] at cc
        refine cc.mono ?_
        rintro e2 wA ⟨rfl, hb⟩
        clear cc
        have R2 := R2.later hb
        have yz := yz.below hb
        have rb1 := rb1.below hb
        clear hb ym
        go_wp2_with fail
        refine hK.out _ _ ?_ (fun hHeld => ?_)
        · exact ⟨R2.cell 8 _ rfl, trivial⟩
        clear hK K
        try simp only [Act.put, List.setIfInBounds_toArray, List.set_cons_zero, List.set_cons_succ]
        refine wpAnyH_take (i := 7) (oi := ?oir103_7) (v := ?vr103_7) ?hir103_7 (by kernel_rfl) (by kernel_rfl) (by kernel_rfl) ?hqr103_7 ?hyr103_7 (by assumption) ?restr103_7
        case hir103_7 => simp only [List.getElem?_toArray, List.getElem?_cons_succ, List.getElem?_cons_zero]; rfl
        case hqr103_7 => exact fun _ _ _ h => h
        case hyr103_7 => (refine Or.inl ⟨by rfl, ?_⟩; intro w hSw; (try dsimp only at hSw); go_simp; all_goals with_reducible rfl)
        try simp only [Act.put, List.setIfInBounds_toArray, List.set_cons_zero, List.set_cons_succ]
        refine wpAnyH_done (by kernel_rfl) ?_ _
        clear hHeld
        go_wp2_with fail
        refine (cmMost_any wA).mono ?_
        rintro e2 wB ⟨as', ns', cs', rfl, ys, hb⟩
        have R2 := R2.later hb
        have yz := yz.below hb
        have rb1 := rb1.below hb
        clear hb
        have fr8 := R2.free 8
        have k8 := R2.cell 8 _ rfl
        have R3 : PRow 66 wb (wB.setCell ⟨k, 8, none⟩ (.slice as' ns' cs')) k (cmC (bumpC q (1 : Int)) as' ns' cs' b m d) := R2.set 8 (.slice as' ns' cs')
        have ys := rd_setcell (i := 8) ys R2.row (cm_noint _ _ _ _ _ _ _) (.slice as' ns' cs')
        have rb1 := rd_setcell (i := 8) rb1 R2.row (cm_noint _ _ _ _ _ _ _) (.slice as' ns' cs')
        clear R2 yz
        rw [← most_limbs, ← NX.out] at ys
        go_upto_region 10 with fail
        clear fr8 k8
        generalize wB.setCell ⟨k, 8, none⟩ (.slice as' ns' cs') = wC at *
        by_cases hB : nextC q L (1 : Int) ≤ B
        · have BL := Lib.hid (show leC (limbs (nextC q L (1 : Int))) (limbs B) = true by rw [leC_ok nextC_lt vld.out.pw.2]; exact decide_eq_true hB)
          have HB := Lib.hid hB
          clear hB
          have hb := (Below.refl wC.heap.size wC).drew
          have R3 := R3.later hb
          have ys := ys.below hb
          have rb1 := rb1.below hb
          clear hb
          refine wp_region_held_drew (S := (fun w' => w'.cell? ⟨k, 8, none⟩ = some (.slice as' ns' cs') ∧ w'.cell? ⟨k, 9, none⟩ = some (.slice b m d))) (by kernel_rfl) ?_ (fun hHeld => ?_)
          · exact ⟨R3.cell 8 _ rfl, R3.cell 9 _ rfl⟩
          generalize wC.drew = wD at *
          refine wpAnyH_take (i := 0) (oi := ?oir104_0) (v := ?vr104_0) ?hir104_0 (by kernel_rfl) (by kernel_rfl) (by kernel_rfl) ?hqr104_0 ?hyr104_0 (by assumption) ?restr104_0
          case hir104_0 => simp only [List.getElem?_toArray, List.getElem?_cons_succ, List.getElem?_cons_zero]; rfl
          case hqr104_0 => exact fun _ _ _ h => h
          case hyr104_0 => (refine Or.inl ⟨by rfl, ?_⟩; intro w hSw; (try dsimp only at hSw); go_simp; all_goals with_reducible rfl)
          try simp only [Act.put, List.setIfInBounds_toArray, List.set_cons_zero, List.set_cons_succ]
          refine wpAnyH_take (i := 1) (oi := ?oir104_1) (v := ?vr104_1) ?hir104_1 (by kernel_rfl) (by kernel_rfl) (by kernel_rfl) ?hqr104_1 ?hyr104_1 (by assumption) ?restr104_1
          case hir104_1 => simp only [List.getElem?_toArray, List.getElem?_cons_succ, List.getElem?_cons_zero]; rfl
          case hqr104_1 => exact fun _ _ _ h => h
          case hyr104_1 => (refine Or.inl ⟨by rfl, ?_⟩; intro w hSw; (try dsimp only at hSw); go_simp; all_goals with_reducible rfl)
          try simp only [Act.put, List.setIfInBounds_toArray, List.set_cons_zero, List.set_cons_succ]
          refine wpAnyH_take (i := 2) (oi := ?oir104_2) (v := ?vr104_2) ?hir104_2 (by kernel_rfl) (by kernel_rfl) (by kernel_rfl) ?hqr104_2 ?hyr104_2 (by assumption) ?restr104_2
          case hir104_2 => simp only [List.getElem?_toArray, List.getElem?_cons_succ, List.getElem?_cons_zero]; rfl
          case hqr104_2 => exact fun _ _ _ h => h
          case hyr104_2 => (refine Or.inl ⟨by rfl, ?_⟩; intro w hSw; (try dsimp only at hSw); go_simp; all_goals with_reducible rfl)
          try simp only [Act.put, List.setIfInBounds_toArray, List.set_cons_zero, List.set_cons_succ]
          refine wpAnyH_take (i := 3) (oi := ?oir104_3) (v := ?vr104_3) ?hir104_3 (by kernel_rfl) (by kernel_rfl) (by kernel_rfl) ?hqr104_3 ?hyr104_3 (by assumption) ?restr104_3
          case hir104_3 => simp only [List.getElem?_toArray, List.getElem?_cons_succ, List.getElem?_cons_zero]; rfl
          case hqr104_3 => exact fun _ _ _ h => h
          case hyr104_3 => (refine Or.inl ⟨by rfl, ?_⟩; intro w hSw; (try dsimp only at hSw); go_simp; all_goals with_reducible rfl)
          try simp only [Act.put, List.setIfInBounds_toArray, List.set_cons_zero, List.set_cons_succ]
          refine wpAnyH_take (i := 4) (oi := ?oir104_4) (v := ?vr104_4) ?hir104_4 (by kernel_rfl) (by kernel_rfl) (by kernel_rfl) ?hqr104_4 ?hyr104_4 (by assumption) ?restr104_4
          case hir104_4 => simp only [List.getElem?_toArray, List.getElem?_cons_succ, List.getElem?_cons_zero]; rfl
          case hqr104_4 => exact fun _ _ _ h => h
          case hyr104_4 => (refine Or.inl ⟨by rfl, ?_⟩; intro w hSw; (try dsimp only at hSw); go_simp; all_goals with_reducible rfl)
          try simp only [Act.put, List.setIfInBounds_toArray, List.set_cons_zero, List.set_cons_succ]
          refine wpAnyH_take (i := 5) (oi := ?oir104_5) (v := ?vr104_5) ?hir104_5 (by kernel_rfl) (by kernel_rfl) (by kernel_rfl) ?hqr104_5 ?hyr104_5 (by assumption) ?restr104_5
          case hir104_5 => simp only [List.getElem?_toArray, List.getElem?_cons_succ, List.getElem?_cons_zero]; rfl
          case hqr104_5 => exact fun _ _ _ h => h
          case hyr104_5 => (refine Or.inl ⟨by rfl, ?_⟩; intro w hSw; (try dsimp only at hSw); go_simp; all_goals with_reducible rfl)
          try simp only [Act.put, List.setIfInBounds_toArray, List.set_cons_zero, List.set_cons_succ]
          refine wpAnyH_take (i := 6) (oi := ?oir104_6) (v := ?vr104_6) ?hir104_6 (by kernel_rfl) (by kernel_rfl) (by kernel_rfl) ?hqr104_6 ?hyr104_6 (by assumption) ?restr104_6
          case hir104_6 => simp only [List.getElem?_toArray, List.getElem?_cons_succ, List.getElem?_cons_zero]; rfl
          case hqr104_6 => exact fun _ _ _ h => h
          case hyr104_6 => (refine Or.inl ⟨by rfl, ?_⟩; intro w hSw; (try dsimp only at hSw); go_simp; all_goals with_reducible rfl)
          try simp only [Act.put, List.setIfInBounds_toArray, List.set_cons_zero, List.set_cons_succ]
          refine wpAnyH_take (i := 7) (oi := ?oir104_7) (v := ?vr104_7) ?hir104_7 (by kernel_rfl) (by kernel_rfl) (by kernel_rfl) ?hqr104_7 ?hyr104_7 (by assumption) ?restr104_7
          case hir104_7 => simp only [List.getElem?_toArray, List.getElem?_cons_succ, List.getElem?_cons_zero]; rfl
          case hqr104_7 => exact fun _ _ _ h => h
          case hyr104_7 => (refine Or.inl ⟨by rfl, ?_⟩; intro w hSw; (try dsimp only at hSw); go_simp; all_goals with_reducible rfl)
          try simp only [Act.put, List.setIfInBounds_toArray, List.set_cons_zero, List.set_cons_succ]
          refine wpAnyH_take (i := 8) (oi := ?oir104_8) (v := ?vr104_8) ?hir104_8 (by kernel_rfl) (by kernel_rfl) (by kernel_rfl) ?hqr104_8 ?hyr104_8 (by assumption) ?restr104_8
          case hir104_8 => simp only [List.getElem?_toArray, List.getElem?_cons_succ, List.getElem?_cons_zero]; rfl
          case hqr104_8 => exact fun _ _ _ h => h
          case hyr104_8 => (refine Or.inl ⟨by rfl, ?_⟩; intro w hSw; (try dsimp only at hSw); go_simp; all_goals with_reducible rfl)
          try simp only [Act.put, List.setIfInBounds_toArray, List.set_cons_zero, List.set_cons_succ]
          refine wpAnyH_take (i := 9) (oi := ?oir104_9) (v := ?vr104_9) ?hir104_9 (by kernel_rfl) (by kernel_rfl) (by kernel_rfl) ?hqr104_9 ?hyr104_9 (by assumption) ?restr104_9
          case hir104_9 => simp only [List.getElem?_toArray, List.getElem?_cons_succ, List.getElem?_cons_zero]; rfl
          case hqr104_9 => exact fun _ _ _ h => h
          case hyr104_9 => (refine Or.inl ⟨by rfl, ?_⟩; intro w hSw; (try dsimp only at hSw); go_simp; all_goals with_reducible rfl)
          try simp only [Act.put, List.setIfInBounds_toArray, List.set_cons_zero, List.set_cons_succ]
          refine wpAnyH_ready (rs := [10]) (by kernel_rfl) (by simp) ?_
          refine AllReadyH.cons (o := ?or105_10) ?hor105_10 (fun K hK => ?kr105_10) AllReadyH.nil
          case hor105_10 => simp only [List.getElem?_toArray, List.getElem?_cons_succ, List.getElem?_cons_zero]; rfl
          go_simp
          have cc := cmAtMost_any wD ys rb1
          rw [BL.out] at cc
          refine cc.mono ?_
          rintro e2 wE ⟨rfl, hb⟩
          clear cc
          have R3 := R3.later hb
          have ys := ys.below hb
          have rb1 := rb1.below hb
          clear hb
          go_wp2_with fail
          refine hK.out _ _ ?_ (fun hHeld => ?_)
          · exact ⟨R3.cell 8 _ rfl, R3.cell 9 _ rfl⟩
          clear hK K
          try simp only [Act.put, List.setIfInBounds_toArray, List.set_cons_zero, List.set_cons_succ]
          refine wpAnyH_take (i := 11) (oi := ?oir106_11) (v := ?vr106_11) ?hir106_11 (by kernel_rfl) (by kernel_rfl) (by kernel_rfl) ?hqr106_11 ?hyr106_11 (by assumption) ?restr106_11
          case hir106_11 => simp only [List.getElem?_toArray, List.getElem?_cons_succ, List.getElem?_cons_zero]; rfl
          case hqr106_11 => exact fun _ _ _ h => h
          case hyr106_11 => (refine Or.inl ⟨by rfl, ?_⟩; intro w hSw; (try dsimp only at hSw); go_simp; all_goals with_reducible rfl)
          try simp only [Act.put, List.setIfInBounds_toArray, List.set_cons_zero, List.set_cons_succ]
          refine wpAnyH_done (by kernel_rfl) ?_ _
          clear hHeld
          go_wp2_with fail
          go_ret
          refine .inr ⟨_, _, _, _, _, _, e.out, rfl, R3, ?_, ?_⟩
          · rw [(show (stepC q (1 : Int)).lev = limbs (nextC q L (1 : Int)) by show limbs (nextC q (val q.lev) (1 : Int)) = _; rw [vld.out.lev, val_limbs])]; exact ys
          · rw [(show (stepC q (1 : Int)).best = limbs B by show limbs (max (val q.best) (nextC q (val q.lev) (1 : Int))) = _; rw [vld.out.lev, vld.out.best, val_limbs, val_limbs, Nat.max_eq_left HB.out])]; exact rb1
        · have BL := Lib.hid (show leC (limbs (nextC q L (1 : Int))) (limbs B) = false by rw [leC_ok nextC_lt vld.out.pw.2]; exact decide_eq_false hB)
          have HB := Lib.hid hB
          clear hB
          have hb := (Below.refl wC.heap.size wC).drew
          have R3 := R3.later hb
          have ys := ys.below hb
          have rb1 := rb1.below hb
          clear hb
          refine wp_region_held_drew (S := (fun w' => w'.cell? ⟨k, 8, none⟩ = some (.slice as' ns' cs') ∧ w'.cell? ⟨k, 9, none⟩ = some (.slice b m d))) (by kernel_rfl) ?_ (fun hHeld => ?_)
          · exact ⟨R3.cell 8 _ rfl, R3.cell 9 _ rfl⟩
          generalize wC.drew = wD at *
          refine wpAnyH_take (i := 0) (oi := ?oir107_0) (v := ?vr107_0) ?hir107_0 (by kernel_rfl) (by kernel_rfl) (by kernel_rfl) ?hqr107_0 ?hyr107_0 (by assumption) ?restr107_0
          case hir107_0 => simp only [List.getElem?_toArray, List.getElem?_cons_succ, List.getElem?_cons_zero]; rfl
          case hqr107_0 => exact fun _ _ _ h => h
          case hyr107_0 => (refine Or.inl ⟨by rfl, ?_⟩; intro w hSw; (try dsimp only at hSw); go_simp; all_goals with_reducible rfl)
          try simp only [Act.put, List.setIfInBounds_toArray, List.set_cons_zero, List.set_cons_succ]
          refine wpAnyH_take (i := 1) (oi := ?oir107_1) (v := ?vr107_1) ?hir107_1 (by kernel_rfl) (by kernel_rfl) (by kernel_rfl) ?hqr107_1 ?hyr107_1 (by assumption) ?restr107_1
          case hir107_1 => simp only [List.getElem?_toArray, List.getElem?_cons_succ, List.getElem?_cons_zero]; rfl
          case hqr107_1 => exact fun _ _ _ h => h
          case hyr107_1 => (refine Or.inl ⟨by rfl, ?_⟩; intro w hSw; (try dsimp only at hSw); go_simp; all_goals with_reducible rfl)
          try simp only [Act.put, List.setIfInBounds_toArray, List.set_cons_zero, List.set_cons_succ]
          refine wpAnyH_take (i := 2) (oi := ?oir107_2) (v := ?vr107_2) ?hir107_2 (by kernel_rfl) (by kernel_rfl) (by kernel_rfl) ?hqr107_2 ?hyr107_2 (by assumption) ?restr107_2
          case hir107_2 => simp only [List.getElem?_toArray, List.getElem?_cons_succ, List.getElem?_cons_zero]; rfl
          case hqr107_2 => exact fun _ _ _ h => h
          case hyr107_2 => (refine Or.inl ⟨by rfl, ?_⟩; intro w hSw; (try dsimp only at hSw); go_simp; all_goals with_reducible rfl)
          try simp only [Act.put, List.setIfInBounds_toArray, List.set_cons_zero, List.set_cons_succ]
          refine wpAnyH_take (i := 3) (oi := ?oir107_3) (v := ?vr107_3) ?hir107_3 (by kernel_rfl) (by kernel_rfl) (by kernel_rfl) ?hqr107_3 ?hyr107_3 (by assumption) ?restr107_3
          case hir107_3 => simp only [List.getElem?_toArray, List.getElem?_cons_succ, List.getElem?_cons_zero]; rfl
          case hqr107_3 => exact fun _ _ _ h => h
          case hyr107_3 => (refine Or.inl ⟨by rfl, ?_⟩; intro w hSw; (try dsimp only at hSw); go_simp; all_goals with_reducible rfl)
          try simp only [Act.put, List.setIfInBounds_toArray, List.set_cons_zero, List.set_cons_succ]
          refine wpAnyH_take (i := 4) (oi := ?oir107_4) (v := ?vr107_4) ?hir107_4 (by kernel_rfl) (by kernel_rfl) (by kernel_rfl) ?hqr107_4 ?hyr107_4 (by assumption) ?restr107_4
          case hir107_4 => simp only [List.getElem?_toArray, List.getElem?_cons_succ, List.getElem?_cons_zero]; rfl
          case hqr107_4 => exact fun _ _ _ h => h
          case hyr107_4 => (refine Or.inl ⟨by rfl, ?_⟩; intro w hSw; (try dsimp only at hSw); go_simp; all_goals with_reducible rfl)
          try simp only [Act.put, List.setIfInBounds_toArray, List.set_cons_zero, List.set_cons_succ]
          refine wpAnyH_take (i := 5) (oi := ?oir107_5) (v := ?vr107_5) ?hir107_5 (by kernel_rfl) (by kernel_rfl) (by kernel_rfl) ?hqr107_5 ?hyr107_5 (by assumption) ?restr107_5
          case hir107_5 => simp only [List.getElem?_toArray, List.getElem?_cons_succ, List.getElem?_cons_zero]; rfl
          case hqr107_5 => exact fun _ _ _ h => h
          case hyr107_5 => (refine Or.inl ⟨by rfl, ?_⟩; intro w hSw; (try dsimp only at hSw); go_simp; all_goals with_reducible rfl)
          try simp only [Act.put, List.setIfInBounds_toArray, List.set_cons_zero, List.set_cons_succ]
          refine wpAnyH_take (i := 6) (oi := ?oir107_6) (v := ?vr107_6) ?hir107_6 (by kernel_rfl) (by kernel_rfl) (by kernel_rfl) ?hqr107_6 ?hyr107_6 (by assumption) ?restr107_6
          case hir107_6 => simp only [List.getElem?_toArray, List.getElem?_cons_succ, List.getElem?_cons_zero]; rfl
          case hqr107_6 => exact fun _ _ _ h => h
          case hyr107_6 => (refine Or.inl ⟨by rfl, ?_⟩; intro w hSw; (try dsimp only at hSw); go_simp; all_goals with_reducible rfl)
          try simp only [Act.put, List.setIfInBounds_toArray, List.set_cons_zero, List.set_cons_succ]
          refine wpAnyH_take (i := 7) (oi := ?oir107_7) (v := ?vr107_7) ?hir107_7 (by kernel_rfl) (by kernel_rfl) (by kernel_rfl) ?hqr107_7 ?hyr107_7 (by assumption) ?restr107_7
          case hir107_7 => simp only [List.getElem?_toArray, List.getElem?_cons_succ, List.getElem?_cons_zero]; rfl
          case hqr107_7 => exact fun _ _ _ h => h
          case hyr107_7 => (refine Or.inl ⟨by rfl, ?_⟩; intro w hSw; (try dsimp only at hSw); go_simp; all_goals with_reducible rfl)
          try simp only [Act.put, List.setIfInBounds_toArray, List.set_cons_zero, List.set_cons_succ]
          refine wpAnyH_take (i := 8) (oi := ?oir107_8) (v := ?vr107_8) ?hir107_8 (by kernel_rfl) (by kernel_rfl) (by kernel_rfl) ?hqr107_8 ?hyr107_8 (by assumption) ?restr107_8
          case hir107_8 => simp only [List.getElem?_toArray, List.getElem?_cons_succ, List.getElem?_cons_zero]; rfl
          case hqr107_8 => exact fun _ _ _ h => h
          case hyr107_8 => (refine Or.inl ⟨by rfl, ?_⟩; intro w hSw; (try dsimp only at hSw); go_simp; all_goals with_reducible rfl)
          try simp only [Act.put, List.setIfInBounds_toArray, List.set_cons_zero, List.set_cons_succ]
          refine wpAnyH_take (i := 9) (oi := ?oir107_9) (v := ?vr107_9) ?hir107_9 (by kernel_rfl) (by kernel_rfl) (by kernel_rfl) ?hqr107_9 ?hyr107_9 (by assumption) ?restr107_9
          case hir107_9 => simp only [List.getElem?_toArray, List.getElem?_cons_succ, List.getElem?_cons_zero]; rfl
          case hqr107_9 => exact fun _ _ _ h => h
          case hyr107_9 => (refine Or.inl ⟨by rfl, ?_⟩; intro w hSw; (try dsimp only at hSw); go_simp; all_goals with_reducible rfl)
          try simp only [Act.put, List.setIfInBounds_toArray, List.set_cons_zero, List.set_cons_succ]
          refine wpAnyH_ready (rs := [10]) (by kernel_rfl) (by simp) ?_
          refine AllReadyH.cons (o := ?or108_10) ?hor108_10 (fun K hK => ?kr108_10) AllReadyH.nil
          case hor108_10 => simp only [List.getElem?_toArray, List.getElem?_cons_succ, List.getElem?_cons_zero]; rfl
          go_simp
          have cc := cmAtMost_any wD ys rb1
          rw [BL.out] at cc
          refine cc.mono ?_
          rintro e2 wE ⟨rfl, hb⟩
          clear cc
          have R3 := R3.later hb
          have ys := ys.below hb
          have rb1 := rb1.below hb
          clear hb
          go_wp2_with fail
          refine hK.out _ _ ?_ (fun hHeld => ?_)
          · exact ⟨R3.cell 8 _ rfl, R3.cell 9 _ rfl⟩
          clear hK K
          try simp only [Act.put, List.setIfInBounds_toArray, List.set_cons_zero, List.set_cons_succ]
          refine wpAnyH_take (i := 11) (oi := ?oir109_11) (v := ?vr109_11) ?hir109_11 (by kernel_rfl) (by kernel_rfl) (by kernel_rfl) ?hqr109_11 ?hyr109_11 (by assumption) ?restr109_11
          case hir109_11 => simp only [List.getElem?_toArray, List.getElem?_cons_succ, List.getElem?_cons_zero]; rfl
          case hqr109_11 => exact fun _ _ _ h => h
          case hyr109_11 => (refine Or.inl ⟨by rfl, ?_⟩; intro w hSw; (try dsimp only at hSw); go_simp; all_goals with_reducible rfl)
          try simp only [Act.put, List.setIfInBounds_toArray, List.set_cons_zero, List.set_cons_succ]
          refine wpAnyH_done (by kernel_rfl) ?_ _
          clear hHeld
          have k8 : wE.cell? ⟨k, 8, none⟩ = some (.slice as' ns' cs') := R3.cell 8 _ rfl
          go_wp2_with fail
          refine (Clone_any wE ys (by have h1 := ys.len; have h2 := limbs_len_le (k := 96) (show nextC q L (1 : Int) < pw 96 from Nat.lt_of_le_of_lt (Nat.min_le_right _ _) most_pw); omega)).mono ?_
          rintro e2 wF ⟨ak, nk, ck, rfl, yk, hb⟩
          have R3 := R3.later hb
          have ys := ys.below hb
          have rb1 := rb1.below hb
          clear hb k8
          have fr9 := R3.free 9
          have k9 := R3.cell 9 _ rfl
          have R4 : PRow 66 wb (wF.setCell ⟨k, 9, none⟩ (.slice ak nk ck)) k (cmC (bumpC q (1 : Int)) as' ns' cs' ak nk ck) := R3.set 9 (.slice ak nk ck)
          have yk := rd_setcell (i := 9) yk R3.row (cm_noint _ _ _ _ _ _ _) (.slice ak nk ck)
          have yl := rd_setcell (i := 9) ys R3.row (cm_noint _ _ _ _ _ _ _) (.slice ak nk ck)
          go_wp2_with fail
          go_ret
          refine .inr ⟨_, _, _, _, _, _, e.out, rfl, R4, ?_, ?_⟩
          · rw [(show (stepC q (1 : Int)).lev = limbs (nextC q L (1 : Int)) by show limbs (nextC q (val q.lev) (1 : Int)) = _; rw [vld.out.lev, val_limbs])]; exact yl
          · rw [(show (stepC q (1 : Int)).best = limbs (nextC q L (1 : Int)) by show limbs (max (val q.best) (nextC q (val q.lev) (1 : Int))) = _; rw [vld.out.lev, vld.out.best, val_limbs, val_limbs, Nat.max_eq_right (Nat.le_of_lt (Nat.lt_of_not_le HB.out))])]; exact yk

end Go.Proofs.Ytmkcdlhhbnakiaa
