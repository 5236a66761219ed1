/- Observing the overstatement 2. -/
import Derived.Test.YtmkcdlhhbnakiaaCmpV
namespace Go.Proofs.Ytmkcdlhhbnakiaa
open Go.RowKit Go.Suf
set_option linter.unusedVariables false
set_option linter.unusedSimpArgs false

set_option maxRecDepth 100000 in
set_option maxHeartbeats 8000000 in
theorem see4_any (wb w : World) {q : CV} {a b : Option Addr} {n m c d k L B : Nat} (R : PRow 66 wb w k (cmC q a n c b m d)) (ra : Rd .u32 w a n c (limbs L)) (rb : Rd .u32 w b m d (limbs B)) (vld' : VldC q L B) :
    Calls Try.prog 42 #[.pointer (some ⟨k, 0, none⟩), .int .i64 (2)] w (RetSee wb k q (2)) := by
  have vld := Lib.hid vld'
  clear vld'
  have k0 := R.cell 0 _ rfl
  have k1 := R.cell 1 _ rfl
  have k2 := R.cell 2 _ rfl
  have k3 := R.cell 3 _ rfl
  have k4 := R.cell 4 _ rfl
  have k5 := R.cell 5 _ rfl
  have k6 := R.cell 6 _ rfl
  have k7 := R.cell 7 _ rfl
  have k8 := R.cell 8 _ rfl
  have k9 := R.cell 9 _ rfl
  have fr := R.free 7
  have HF := Lib.hid (show seenAtC q (2 : Int) = q.s4 from rfl)
  have sv := vld.out.s4
  unfold inS at sv
  by_cases full : q.s4 = 1000000
  · have e := Lib.hid (show obs1C q (2 : Int) = none from obs1C_out (.inr (.inr (by rw [HF.out]; omega))))
    have d2 : (q.s4 == 1000000) = true := beq_iff_eq.2 full
    clear full sv
    go_enter Try.func42, Try.ntmps42
    go_wp2_with fail
    have cc := within_any w (2 : Int) (-2) 2
    rw [decide_eq_true (show (-2 : Int) ≤ (2 : Int) ∧ (2 : Int) ≤ 2 by decide)] at cc
    refine cc.mono ?_
    rintro e1 w9 ⟨rfl, hw⟩
    have hw := hw.symm
    subst hw
    clear cc
    go_wp2_with fail
    go_ret
    exact .inl ⟨e.out, rfl, R.below⟩
  have d2 : (q.s4 == 1000000) = false := beq_eq_false_iff_ne.2 full
  have e := Lib.hid (show obs1C q (2 : Int) = some (stepC q (2 : Int)) from obs1C_in (by rw [HF.out]; omega))
  have sv1 : q.s4 < 1000000 := by omega
  have sv0 : 0 ≤ q.s4 := by omega
  have wi : IntKind.i64.wrap (q.s4 + 1) = q.s4 + 1 := wrap_in (by omega) (by omega)
  clear full sv
  go_enter Try.func42, Try.ntmps42
  go_wp2_with fail
  have cc := within_any w (2 : Int) (-2) 2
  rw [decide_eq_true (show (-2 : Int) ≤ (2 : Int) ∧ (2 : Int) ≤ 2 by decide)] at cc
  refine cc.mono ?_
  rintro e1 w9 ⟨rfl, hw⟩
  have hw := hw.symm
  subst hw
  clear cc
  go_upto_region 4 with fail
  refine wp_region_any (by kernel_rfl) ?_
  change wpAny _ _ _ _ _ _ _ (World.drew _)
  refine wpAny_take (i := 0) (oi := ?oir113_0) (v := ?vr113_0) ?hir113_0 (by kernel_rfl) (by kernel_rfl) (by kernel_rfl) ?hqr113_0 ?hyr113_0 ?restr113_0
  case hir113_0 => simp only [List.getElem?_toArray, List.getElem?_cons_succ, List.getElem?_cons_zero]; rfl
  case hqr113_0 => exact fun _ _ _ h => h
  case hyr113_0 => (refine Or.inl ⟨by rfl, ?_⟩; intro w; go_simp; all_goals with_reducible rfl)
  try simp only [Act.put, List.setIfInBounds_toArray, List.set_cons_zero, List.set_cons_succ]
  refine wpAny_take (i := 1) (oi := ?oir113_1) (v := ?vr113_1) ?hir113_1 (by kernel_rfl) (by kernel_rfl) (by kernel_rfl) ?hqr113_1 ?hyr113_1 ?restr113_1
  case hir113_1 => simp only [List.getElem?_toArray, List.getElem?_cons_succ, List.getElem?_cons_zero]; rfl
  case hqr113_1 => exact fun _ _ _ h => h
  case hyr113_1 => (refine Or.inl ⟨by rfl, ?_⟩; intro w; go_simp; all_goals with_reducible rfl)
  try simp only [Act.put, List.setIfInBounds_toArray, List.set_cons_zero, List.set_cons_succ]
  refine wpAny_take (i := 2) (oi := ?oir113_2) (v := ?vr113_2) ?hir113_2 (by kernel_rfl) (by kernel_rfl) (by kernel_rfl) ?hqr113_2 ?hyr113_2 ?restr113_2
  case hir113_2 => simp only [List.getElem?_toArray, List.getElem?_cons_succ, List.getElem?_cons_zero]; rfl
  case hqr113_2 => exact fun _ _ _ h => h
  case hyr113_2 => (refine Or.inl ⟨by rfl, ?_⟩; intro w; go_simp; all_goals with_reducible rfl)
  try simp only [Act.put, List.setIfInBounds_toArray, List.set_cons_zero, List.set_cons_succ]
  refine wpAny_take (i := 3) (oi := ?oir113_3) (v := ?vr113_3) ?hir113_3 (by kernel_rfl) (by kernel_rfl) (by kernel_rfl) ?hqr113_3 ?hyr113_3 ?restr113_3
  case hir113_3 => simp only [List.getElem?_toArray, List.getElem?_cons_succ, List.getElem?_cons_zero]; rfl
  case hqr113_3 => exact fun _ _ _ h => h
  case hyr113_3 => (refine Or.inl ⟨by rfl, ?_⟩; intro w; go_simp; all_goals with_reducible rfl)
  try simp only [Act.put, List.setIfInBounds_toArray, List.set_cons_zero, List.set_cons_succ]
  refine wpAny_take (i := 4) (oi := ?oir113_4) (v := ?vr113_4) ?hir113_4 (by kernel_rfl) (by kernel_rfl) (by kernel_rfl) ?hqr113_4 ?hyr113_4 ?restr113_4
  case hir113_4 => simp only [List.getElem?_toArray, List.getElem?_cons_succ, List.getElem?_cons_zero]; rfl
  case hqr113_4 => exact fun _ _ _ h => h
  case hyr113_4 => (refine Or.inl ⟨by rfl, ?_⟩; intro w; go_simp; all_goals with_reducible rfl)
  try simp only [Act.put, List.setIfInBounds_toArray, List.set_cons_zero, List.set_cons_succ]
  refine wpAny_take (i := 5) (oi := ?oir113_5) (v := ?vr113_5) ?hir113_5 (by kernel_rfl) (by kernel_rfl) (by kernel_rfl) ?hqr113_5 ?hyr113_5 ?restr113_5
  case hir113_5 => simp only [List.getElem?_toArray, List.getElem?_cons_succ, List.getElem?_cons_zero]; rfl
  case hqr113_5 => exact fun _ _ _ h => h
  case hyr113_5 => (refine Or.inl ⟨by rfl, ?_⟩; intro w; go_simp; all_goals with_reducible rfl)
  try simp only [Act.put, List.setIfInBounds_toArray, List.set_cons_zero, List.set_cons_succ]
  refine wpAny_take (i := 8) (oi := ?oir113_8) (v := ?vr113_8) ?hir113_8 (by kernel_rfl) (by kernel_rfl) (by kernel_rfl) ?hqr113_8 ?hyr113_8 ?restr113_8
  case hir113_8 => simp only [List.getElem?_toArray, List.getElem?_cons_succ, List.getElem?_cons_zero]; rfl
  case hqr113_8 => exact fun _ _ _ h => h
  case hyr113_8 => (refine Or.inl ⟨by rfl, ?_⟩; intro w; go_simp; all_goals with_reducible rfl)
  try simp only [Act.put, List.setIfInBounds_toArray, List.set_cons_zero, List.set_cons_succ]
  refine wpAny_take (i := 9) (oi := ?oir113_9) (v := ?vr113_9) ?hir113_9 (by kernel_rfl) (by kernel_rfl) (by kernel_rfl) ?hqr113_9 ?hyr113_9 ?restr113_9
  case hir113_9 => simp only [List.getElem?_toArray, List.getElem?_cons_succ, List.getElem?_cons_zero]; rfl
  case hqr113_9 => exact fun _ _ _ h => h
  case hyr113_9 => (refine Or.inl ⟨by rfl, ?_⟩; intro w; go_simp; all_goals with_reducible rfl)
  try simp only [Act.put, List.setIfInBounds_toArray, List.set_cons_zero, List.set_cons_succ]
  refine wpAny_take (i := 10) (oi := ?oir113_10) (v := ?vr113_10) ?hir113_10 (by kernel_rfl) (by kernel_rfl) (by kernel_rfl) ?hqr113_10 ?hyr113_10 ?restr113_10
  case hir113_10 => simp only [List.getElem?_toArray, List.getElem?_cons_succ, List.getElem?_cons_zero]; rfl
  case hqr113_10 => exact fun _ _ _ h => h
  case hyr113_10 => (refine Or.inl ⟨by rfl, ?_⟩; intro w; go_simp; all_goals with_reducible rfl)
  try simp only [Act.put, List.setIfInBounds_toArray, List.set_cons_zero, List.set_cons_succ]
  refine wpAny_ready (rs := [6]) (by kernel_rfl) (by simp) ?_
  refine (AllReady.cons (o := ?ob140_6) ?hob140_6 (fun K hK => ?kb140_6) AllReady.nil)
  case hob140_6 => simp only [List.getElem?_toArray, List.getElem?_cons_succ, List.getElem?_cons_zero]; rfl
  case kb140_6 =>
    go_simp
    refine hK _ _ ?_
    clear hK K
    try simp only [Act.put, List.setIfInBounds_toArray, List.set_cons_zero, List.set_cons_succ]
    refine wpAny_take (i := 7) (oi := ?oir139_7) (v := ?vr139_7) ?hir139_7 (by kernel_rfl) (by kernel_rfl) (by kernel_rfl) ?hqr139_7 ?hyr139_7 ?restr139_7
    case hir139_7 => simp only [List.getElem?_toArray, List.getElem?_cons_succ, List.getElem?_cons_zero]; rfl
    case hqr139_7 => exact fun _ _ _ h => h
    case hyr139_7 => (refine Or.inl ⟨by rfl, ?_⟩; intro w; go_simp; all_goals with_reducible rfl)
    try simp only [Act.put, List.setIfInBounds_toArray, List.set_cons_zero, List.set_cons_succ]
    refine wpAny_take (i := 11) (oi := ?oir139_11) (v := ?vr139_11) ?hir139_11 (by kernel_rfl) (by kernel_rfl) (by kernel_rfl) ?hqr139_11 ?hyr139_11 ?restr139_11
    case hir139_11 => simp only [List.getElem?_toArray, List.getElem?_cons_succ, List.getElem?_cons_zero]; rfl
    case hqr139_11 => exact fun _ _ _ h => h
    case hyr139_11 => (refine Or.inl ⟨by rfl, ?_⟩; intro w; go_simp; all_goals with_reducible rfl)
    try simp only [Act.put, List.setIfInBounds_toArray, List.set_cons_zero, List.set_cons_succ]
    refine wpAny_ready (rs := [12]) (by kernel_rfl) (by simp) ?_
    refine (AllReady.cons (o := ?ob138_12) ?hob138_12 (fun K hK => ?kb138_12) AllReady.nil)
    case hob138_12 => simp only [List.getElem?_toArray, List.getElem?_cons_succ, List.getElem?_cons_zero]; rfl
    case kb138_12 =>
      go_simp
      refine hK _ _ ?_
      clear hK K
      try simp only [Act.put, List.setIfInBounds_toArray, List.set_cons_zero, List.set_cons_succ]
      refine wpAny_done (by kernel_rfl) ?_ _
      have R0 : PRow 66 wb (w.setCell ⟨k, 7, none⟩ (.int .i64 (q.s4 + 1))) k (cmC (bumpC q (2 : Int)) a n c b m d) := R.set 7 (.int .i64 (q.s4 + 1))
      have D0 := (Below.refl (w.setCell ⟨k, 7, none⟩ (.int .i64 (q.s4 + 1))).heap.size (w.setCell ⟨k, 7, none⟩ (.int .i64 (q.s4 + 1)))).drew
      have ra1 := (rd_setcell (i := 7) ra R.row (cm_noint _ _ _ _ _ _ _) (.int .i64 (q.s4 + 1))).below D0
      have rb1 := (rd_setcell (i := 7) rb R.row (cm_noint _ _ _ _ _ _ _) (.int .i64 (q.s4 + 1))).below D0
      have R1 := R0.later D0
      clear k0 k1 k2 k3 k4 k5 k6 k7 k8 k9 fr D0 R0 sv0 sv1 d2 wi
      generalize (w.setCell ⟨k, 7, none⟩ (.int .i64 (q.s4 + 1))).drew = w1 at *
      have k0 : w1.cell? ⟨k, 0, none⟩ = some (.int .i64 q.bet) := R1.cell 0 _ rfl
      have k1 : w1.cell? ⟨k, 1, none⟩ = some (.int .i64 q.ballots) := R1.cell 1 _ rfl
      have k2 : w1.cell? ⟨k, 2, none⟩ = some (.int .i64 q.margin) := R1.cell 2 _ rfl
      have k8 : w1.cell? ⟨k, 8, none⟩ = some (.slice a n c) := R1.cell 8 _ rfl
      have n1' : 1 ≤ q.ballots := vld.out.may.2.1.1
      have n2' : q.ballots ≤ 1000000 := vld.out.may.2.1.2
      have LP := Lib.hid vld.out.pw.1
      have LF := Lib.hid (show L * factC q (2 : Int) < pw 96 from Nat.lt_of_lt_of_le (mul_lt_pw (show L < pw 5 from Nat.lt_of_le_of_lt (Nat.le_trans vld.out.le vld.out.hi) (by decide)) (show factC q (2 : Int) < pw 2 from (fact_bd vld.out.may (by decide) (by decide)).1)) (pw_le (by decide)))
      go_upto_region 6 with fail
      have hb := (Below.refl w1.heap.size w1).drew
      have R1 := R1.later hb
      have ra1 := ra1.below hb
      have rb1 := rb1.below hb
      clear hb k0 k1 k2 k8
      refine wp_region_held_drew (S := (fun w' => w'.cell? ⟨k, 0, none⟩ = some (.int .i64 q.bet) ∧ w'.cell? ⟨k, 1, none⟩ = some (.int .i64 q.ballots) ∧ w'.cell? ⟨k, 2, none⟩ = some (.int .i64 q.margin) ∧ w'.cell? ⟨k, 8, none⟩ = some (.slice a n c))) (by kernel_rfl) ?_ (fun hHeld => ?_)
      · exact ⟨R1.cell 0 _ rfl, R1.cell 1 _ rfl, R1.cell 2 _ rfl, R1.cell 8 _ rfl⟩
      generalize w1.drew = w2 at *
      refine wpAnyH_take (i := 0) (oi := ?oir114_0) (v := ?vr114_0) ?hir114_0 (by kernel_rfl) (by kernel_rfl) (by kernel_rfl) ?hqr114_0 ?hyr114_0 (by assumption) ?restr114_0
      case hir114_0 => simp only [List.getElem?_toArray, List.getElem?_cons_succ, List.getElem?_cons_zero]; rfl
      case hqr114_0 => exact fun _ _ _ h => h
      case hyr114_0 => (refine Or.inl ⟨by rfl, ?_⟩; intro w hSw; (try dsimp only at hSw); go_simp; all_goals with_reducible rfl)
      try simp only [Act.put, List.setIfInBounds_toArray, List.set_cons_zero, List.set_cons_succ]
      refine wpAnyH_take (i := 1) (oi := ?oir114_1) (v := ?vr114_1) ?hir114_1 (by kernel_rfl) (by kernel_rfl) (by kernel_rfl) ?hqr114_1 ?hyr114_1 (by assumption) ?restr114_1
      case hir114_1 => simp only [List.getElem?_toArray, List.getElem?_cons_succ, List.getElem?_cons_zero]; rfl
      case hqr114_1 => exact fun _ _ _ h => h
      case hyr114_1 => (refine Or.inl ⟨by rfl, ?_⟩; intro w hSw; (try dsimp only at hSw); go_simp; all_goals with_reducible rfl)
      try simp only [Act.put, List.setIfInBounds_toArray, List.set_cons_zero, List.set_cons_succ]
      refine wpAnyH_take (i := 2) (oi := ?oir114_2) (v := ?vr114_2) ?hir114_2 (by kernel_rfl) (by kernel_rfl) (by kernel_rfl) ?hqr114_2 ?hyr114_2 (by assumption) ?restr114_2
      case hir114_2 => simp only [List.getElem?_toArray, List.getElem?_cons_succ, List.getElem?_cons_zero]; rfl
      case hqr114_2 => exact fun _ _ _ h => h
      case hyr114_2 => (refine Or.inl ⟨by rfl, ?_⟩; intro w hSw; (try dsimp only at hSw); go_simp; all_goals with_reducible rfl)
      try simp only [Act.put, List.setIfInBounds_toArray, List.set_cons_zero, List.set_cons_succ]
      refine wpAnyH_take (i := 3) (oi := ?oir114_3) (v := ?vr114_3) ?hir114_3 (by kernel_rfl) (by kernel_rfl) (by kernel_rfl) ?hqr114_3 ?hyr114_3 (by assumption) ?restr114_3
      case hir114_3 => simp only [List.getElem?_toArray, List.getElem?_cons_succ, List.getElem?_cons_zero]; rfl
      case hqr114_3 => exact fun _ _ _ h => h
      case hyr114_3 => (refine Or.inl ⟨by rfl, ?_⟩; intro w hSw; (try dsimp only at hSw); go_simp; all_goals with_reducible rfl)
      try simp only [Act.put, List.setIfInBounds_toArray, List.set_cons_zero, List.set_cons_succ]
      refine wpAnyH_take (i := 4) (oi := ?oir114_4) (v := ?vr114_4) ?hir114_4 (by kernel_rfl) (by kernel_rfl) (by kernel_rfl) ?hqr114_4 ?hyr114_4 (by assumption) ?restr114_4
      case hir114_4 => simp only [List.getElem?_toArray, List.getElem?_cons_succ, List.getElem?_cons_zero]; rfl
      case hqr114_4 => exact fun _ _ _ h => h
      case hyr114_4 => (refine Or.inl ⟨by rfl, ?_⟩; intro w hSw; (try dsimp only at hSw); go_simp; all_goals with_reducible rfl)
      try simp only [Act.put, List.setIfInBounds_toArray, List.set_cons_zero, List.set_cons_succ]
      refine wpAnyH_take (i := 5) (oi := ?oir114_5) (v := ?vr114_5) ?hir114_5 (by kernel_rfl) (by kernel_rfl) (by kernel_rfl) ?hqr114_5 ?hyr114_5 (by assumption) ?restr114_5
      case hir114_5 => simp only [List.getElem?_toArray, List.getElem?_cons_succ, List.getElem?_cons_zero]; rfl
      case hqr114_5 => exact fun _ _ _ h => h
      case hyr114_5 => (refine Or.inl ⟨by rfl, ?_⟩; intro w hSw; (try dsimp only at hSw); go_simp; all_goals with_reducible rfl)
      try simp only [Act.put, List.setIfInBounds_toArray, List.set_cons_zero, List.set_cons_succ]
      refine wpAnyH_take (i := 6) (oi := ?oir114_6) (v := ?vr114_6) ?hir114_6 (by kernel_rfl) (by kernel_rfl) (by kernel_rfl) ?hqr114_6 ?hyr114_6 (by assumption) ?restr114_6
      case hir114_6 => simp only [List.getElem?_toArray, List.getElem?_cons_succ, List.getElem?_cons_zero]; rfl
      case hqr114_6 => exact fun _ _ _ h => h
      case hyr114_6 => (refine Or.inl ⟨by rfl, ?_⟩; intro w hSw; (try dsimp only at hSw); go_simp; all_goals with_reducible rfl)
      try simp only [Act.put, List.setIfInBounds_toArray, List.set_cons_zero, List.set_cons_succ]
      refine wpAnyH_take (i := 7) (oi := ?oir114_7) (v := ?vr114_7) ?hir114_7 (by kernel_rfl) (by kernel_rfl) (by kernel_rfl) ?hqr114_7 ?hyr114_7 (by assumption) ?restr114_7
      case hir114_7 => simp only [List.getElem?_toArray, List.getElem?_cons_succ, List.getElem?_cons_zero]; rfl
      case hqr114_7 => exact fun _ _ _ h => h
      case hyr114_7 => (refine Or.inl ⟨by rfl, ?_⟩; intro w hSw; (try dsimp only at hSw); go_simp; all_goals with_reducible rfl)
      try simp only [Act.put, List.setIfInBounds_toArray, List.set_cons_zero, List.set_cons_succ]
      refine wpAnyH_take (i := 8) (oi := ?oir114_8) (v := ?vr114_8) ?hir114_8 (by kernel_rfl) (by kernel_rfl) (by kernel_rfl) ?hqr114_8 ?hyr114_8 (by assumption) ?restr114_8
      case hir114_8 => simp only [List.getElem?_toArray, List.getElem?_cons_succ, List.getElem?_cons_zero]; rfl
      case hqr114_8 => exact fun _ _ _ h => h
      case hyr114_8 => (refine Or.inl ⟨by rfl, ?_⟩; intro w hSw; (try dsimp only at hSw); go_simp; all_goals with_reducible rfl)
      try simp only [Act.put, List.setIfInBounds_toArray, List.set_cons_zero, List.set_cons_succ]
      refine wpAnyH_take (i := 9) (oi := ?oir114_9) (v := ?vr114_9) ?hir114_9 (by kernel_rfl) (by kernel_rfl) (by kernel_rfl) ?hqr114_9 ?hyr114_9 (by assumption) ?restr114_9
      case hir114_9 => simp only [List.getElem?_toArray, List.getElem?_cons_succ, List.getElem?_cons_zero]; rfl
      case hqr114_9 => exact fun _ _ _ h => h
      case hyr114_9 => (refine Or.inl ⟨by rfl, ?_⟩; intro w hSw; (try dsimp only at hSw); go_simp; all_goals with_reducible rfl)
      try simp only [Act.put, List.setIfInBounds_toArray, List.set_cons_zero, List.set_cons_succ]
      refine wpAnyH_take (i := 10) (oi := ?oir114_10) (v := ?vr114_10) ?hir114_10 (by kernel_rfl) (by kernel_rfl) (by kernel_rfl) ?hqr114_10 ?hyr114_10 (by assumption) ?restr114_10
      case hir114_10 => simp only [List.getElem?_toArray, List.getElem?_cons_succ, List.getElem?_cons_zero]; rfl
      case hqr114_10 => exact fun _ _ _ h => h
      case hyr114_10 => (refine Or.inl ⟨by rfl, ?_⟩; intro w hSw; (try dsimp only at hSw); go_simp; all_goals with_reducible rfl)
      try simp only [Act.put, List.setIfInBounds_toArray, List.set_cons_zero, List.set_cons_succ]
      refine wpAnyH_take (i := 11) (oi := ?oir114_11) (v := ?vr114_11) ?hir114_11 (by kernel_rfl) (by kernel_rfl) (by kernel_rfl) ?hqr114_11 ?hyr114_11 (by assumption) ?restr114_11
      case hir114_11 => simp only [List.getElem?_toArray, List.getElem?_cons_succ, List.getElem?_cons_zero]; rfl
      case hqr114_11 => exact fun _ _ _ h => h
      case hyr114_11 => (refine Or.inl ⟨by rfl, ?_⟩; intro w hSw; (try dsimp only at hSw); go_simp; all_goals with_reducible rfl)
      try simp only [Act.put, List.setIfInBounds_toArray, List.set_cons_zero, List.set_cons_succ]
      refine wpAnyH_take (i := 12) (oi := ?oir114_12) (v := ?vr114_12) ?hir114_12 (by kernel_rfl) (by kernel_rfl) (by kernel_rfl) ?hqr114_12 ?hyr114_12 (by assumption) ?restr114_12
      case hir114_12 => simp only [List.getElem?_toArray, List.getElem?_cons_succ, List.getElem?_cons_zero]; rfl
      case hqr114_12 => exact fun _ _ _ h => h
      case hyr114_12 => (refine Or.inl ⟨by rfl, ?_⟩; intro w hSw; (try dsimp only at hSw); go_simp; all_goals with_reducible rfl)
      try simp only [Act.put, List.setIfInBounds_toArray, List.set_cons_zero, List.set_cons_succ]
      refine wpAnyH_take (i := 13) (oi := ?oir114_13) (v := ?vr114_13) ?hir114_13 (by kernel_rfl) (by kernel_rfl) (by kernel_rfl) ?hqr114_13 ?hyr114_13 (by assumption) ?restr114_13
      case hir114_13 => simp only [List.getElem?_toArray, List.getElem?_cons_succ, List.getElem?_cons_zero]; rfl
      case hqr114_13 => exact fun _ _ _ h => h
      case hyr114_13 => (refine Or.inl ⟨by rfl, ?_⟩; intro w hSw; (try dsimp only at hSw); go_simp; all_goals with_reducible rfl)
      try simp only [Act.put, List.setIfInBounds_toArray, List.set_cons_zero, List.set_cons_succ]
      refine wpAnyH_take (i := 14) (oi := ?oir114_14) (v := ?vr114_14) ?hir114_14 (by kernel_rfl) (by kernel_rfl) (by kernel_rfl) ?hqr114_14 ?hyr114_14 (by assumption) ?restr114_14
      case hir114_14 => simp only [List.getElem?_toArray, List.getElem?_cons_succ, List.getElem?_cons_zero]; rfl
      case hqr114_14 => exact fun _ _ _ h => h
      case hyr114_14 => (refine Or.inl ⟨by rfl, ?_⟩; intro w hSw; (try dsimp only at hSw); go_simp; all_goals with_reducible rfl)
      try simp only [Act.put, List.setIfInBounds_toArray, List.set_cons_zero, List.set_cons_succ]
      refine wpAnyH_take (i := 15) (oi := ?oir114_15) (v := ?vr114_15) ?hir114_15 (by kernel_rfl) (by kernel_rfl) (by kernel_rfl) ?hqr114_15 ?hyr114_15 (by assumption) ?restr114_15
      case hir114_15 => simp only [List.getElem?_toArray, List.getElem?_cons_succ, List.getElem?_cons_zero]; rfl
      case hqr114_15 => exact fun _ _ _ h => h
      case hyr114_15 => (refine Or.inl ⟨by rfl, ?_⟩; intro w hSw; (try dsimp only at hSw); go_simp; all_goals with_reducible rfl)
      try simp only [Act.put, List.setIfInBounds_toArray, List.set_cons_zero, List.set_cons_succ]
      refine wpAnyH_take (i := 16) (oi := ?oir114_16) (v := ?vr114_16) ?hir114_16 (by kernel_rfl) (by kernel_rfl) (by kernel_rfl) ?hqr114_16 ?hyr114_16 (by assumption) ?restr114_16
      case hir114_16 => simp only [List.getElem?_toArray, List.getElem?_cons_succ, List.getElem?_cons_zero]; rfl
      case hqr114_16 => exact fun _ _ _ h => h
      case hyr114_16 => (refine Or.inl ⟨by rfl, ?_⟩; intro w hSw; (try dsimp only at hSw); go_simp; all_goals with_reducible rfl)
      try simp only [Act.put, List.setIfInBounds_toArray, List.set_cons_zero, List.set_cons_succ]
      refine wpAnyH_take (i := 17) (oi := ?oir114_17) (v := ?vr114_17) ?hir114_17 (by kernel_rfl) (by kernel_rfl) (by kernel_rfl) ?hqr114_17 ?hyr114_17 (by assumption) ?restr114_17
      case hir114_17 => simp only [List.getElem?_toArray, List.getElem?_cons_succ, List.getElem?_cons_zero]; rfl
      case hqr114_17 => exact fun _ _ _ h => h
      case hyr114_17 => (refine Or.inl ⟨by rfl, ?_⟩; intro w hSw; (try dsimp only at hSw); go_simp; all_goals with_reducible rfl)
      try simp only [Act.put, List.setIfInBounds_toArray, List.set_cons_zero, List.set_cons_succ]
      refine wpAnyH_take (i := 18) (oi := ?oir114_18) (v := ?vr114_18) ?hir114_18 (by kernel_rfl) (by kernel_rfl) (by kernel_rfl) ?hqr114_18 ?hyr114_18 (by assumption) ?restr114_18
      case hir114_18 => simp only [List.getElem?_toArray, List.getElem?_cons_succ, List.getElem?_cons_zero]; rfl
      case hqr114_18 => exact fun _ _ _ h => h
      case hyr114_18 => (refine Or.inl ⟨by rfl, ?_⟩; intro w hSw; (try dsimp only at hSw); go_simp; all_goals with_reducible rfl)
      try simp only [Act.put, List.setIfInBounds_toArray, List.set_cons_zero, List.set_cons_succ]
      refine wpAnyH_take (i := 19) (oi := ?oir114_19) (v := ?vr114_19) ?hir114_19 (by kernel_rfl) (by kernel_rfl) (by kernel_rfl) ?hqr114_19 ?hyr114_19 (by assumption) ?restr114_19
      case hir114_19 => simp only [List.getElem?_toArray, List.getElem?_cons_succ, List.getElem?_cons_zero]; rfl
      case hqr114_19 => exact fun _ _ _ h => h
      case hyr114_19 => (refine Or.inl ⟨by rfl, ?_⟩; intro w hSw; (try dsimp only at hSw); go_simp; all_goals with_reducible rfl)
      try simp only [Act.put, List.setIfInBounds_toArray, List.set_cons_zero, List.set_cons_succ]
      refine wpAnyH_take (i := 20) (oi := ?oir114_20) (v := ?vr114_20) ?hir114_20 (by kernel_rfl) (by kernel_rfl) (by kernel_rfl) ?hqr114_20 ?hyr114_20 (by assumption) ?restr114_20
      case hir114_20 => simp only [List.getElem?_toArray, List.getElem?_cons_succ, List.getElem?_cons_zero]; rfl
      case hqr114_20 => exact fun _ _ _ h => h
      case hyr114_20 => (refine Or.inl ⟨by rfl, ?_⟩; intro w hSw; (try dsimp only at hSw); go_simp; all_goals with_reducible rfl)
      try simp only [Act.put, List.setIfInBounds_toArray, List.set_cons_zero, List.set_cons_succ]
      refine wpAnyH_take (i := 21) (oi := ?oir114_21) (v := ?vr114_21) ?hir114_21 (by kernel_rfl) (by kernel_rfl) (by kernel_rfl) ?hqr114_21 ?hyr114_21 (by assumption) ?restr114_21
      case hir114_21 => simp only [List.getElem?_toArray, List.getElem?_cons_succ, List.getElem?_cons_zero]; rfl
      case hqr114_21 => exact fun _ _ _ h => h
      case hyr114_21 => (refine Or.inl ⟨by rfl, ?_⟩; intro w hSw; (try dsimp only at hSw); go_simp; all_goals with_reducible rfl)
      try simp only [Act.put, List.setIfInBounds_toArray, List.set_cons_zero, List.set_cons_succ]
      refine wpAnyH_take (i := 22) (oi := ?oir114_22) (v := ?vr114_22) ?hir114_22 (by kernel_rfl) (by kernel_rfl) (by kernel_rfl) ?hqr114_22 ?hyr114_22 (by assumption) ?restr114_22
      case hir114_22 => simp only [List.getElem?_toArray, List.getElem?_cons_succ, List.getElem?_cons_zero]; rfl
      case hqr114_22 => exact fun _ _ _ h => h
      case hyr114_22 => (refine Or.inl ⟨by rfl, ?_⟩; intro w hSw; (try dsimp only at hSw); go_simp; all_goals with_reducible rfl)
      try simp only [Act.put, List.setIfInBounds_toArray, List.set_cons_zero, List.set_cons_succ]
      refine wpAnyH_take (i := 23) (oi := ?oir114_23) (v := ?vr114_23) ?hir114_23 (by kernel_rfl) (by kernel_rfl) (by kernel_rfl) ?hqr114_23 ?hyr114_23 (by assumption) ?restr114_23
      case hir114_23 => simp only [List.getElem?_toArray, List.getElem?_cons_succ, List.getElem?_cons_zero]; rfl
      case hqr114_23 => exact fun _ _ _ h => h
      case hyr114_23 => (refine Or.inl ⟨by rfl, ?_⟩; intro w hSw; (try dsimp only at hSw); go_simp; all_goals with_reducible rfl)
      try simp only [Act.put, List.setIfInBounds_toArray, List.set_cons_zero, List.set_cons_succ]
      refine wpAnyH_take (i := 24) (oi := ?oir114_24) (v := ?vr114_24) ?hir114_24 (by kernel_rfl) (by kernel_rfl) (by kernel_rfl) ?hqr114_24 ?hyr114_24 (by assumption) ?restr114_24
      case hir114_24 => simp only [List.getElem?_toArray, List.getElem?_cons_succ, List.getElem?_cons_zero]; rfl
      case hqr114_24 => exact fun _ _ _ h => h
      case hyr114_24 => (refine Or.inl ⟨by rfl, ?_⟩; intro w hSw; (try dsimp only at hSw); go_simp; all_goals with_reducible rfl)
      try simp only [Act.put, List.setIfInBounds_toArray, List.set_cons_zero, List.set_cons_succ]
      refine wpAnyH_take (i := 25) (oi := ?oir114_25) (v := ?vr114_25) ?hir114_25 (by kernel_rfl) (by kernel_rfl) (by kernel_rfl) ?hqr114_25 ?hyr114_25 (by assumption) ?restr114_25
      case hir114_25 => simp only [List.getElem?_toArray, List.getElem?_cons_succ, List.getElem?_cons_zero]; rfl
      case hqr114_25 => exact fun _ _ _ h => h
      case hyr114_25 => (refine Or.inl ⟨by rfl, ?_⟩; intro w hSw; (try dsimp only at hSw); go_simp; all_goals with_reducible rfl)
      try simp only [Act.put, List.setIfInBounds_toArray, List.set_cons_zero, List.set_cons_succ]
      refine wpAnyH_take (i := 26) (oi := ?oir114_26) (v := ?vr114_26) ?hir114_26 (by kernel_rfl) (by kernel_rfl) (by kernel_rfl) ?hqr114_26 ?hyr114_26 (by assumption) ?restr114_26
      case hir114_26 => simp only [List.getElem?_toArray, List.getElem?_cons_succ, List.getElem?_cons_zero]; rfl
      case hqr114_26 => exact fun _ _ _ h => h
      case hyr114_26 => (refine Or.inl ⟨by rfl, ?_⟩; intro w hSw; (try dsimp only at hSw); go_simp; all_goals with_reducible rfl)
      try simp only [Act.put, List.setIfInBounds_toArray, List.set_cons_zero, List.set_cons_succ]
      have SF := see_fact vld.out.may (x := (2 : Int)) (Y := 2 * q.ballots) (by decide) (by decide) (by omega)
      rw [SF]
      clear SF
      refine wpAnyH_ready (rs := [27]) (by kernel_rfl) (by simp) ?_
      refine AllReadyH.cons (o := ?or115_27) ?hor115_27 (fun K hK => ?kr115_27) AllReadyH.nil
      case hor115_27 => simp only [List.getElem?_toArray, List.getElem?_cons_succ, List.getElem?_cons_zero]; rfl
      go_simp
      refine (Of_any w2 (factC q (2 : Int)) (fact_bd vld.out.may (by decide) (by decide)).1).mono ?_
      rintro e2 w3 ⟨af, nf, cf, rfl, yf, hb⟩
      have R1 := R1.later hb
      have ra1 := ra1.below hb
      have rb1 := rb1.below hb
      clear hb
      go_wp2_with fail
      refine hK.out _ _ ?_ (fun hHeld => ?_)
      · exact ⟨R1.cell 0 _ rfl, R1.cell 1 _ rfl, R1.cell 2 _ rfl, R1.cell 8 _ rfl⟩
      clear hK K
      try simp only [Act.put, List.setIfInBounds_toArray, List.set_cons_zero, List.set_cons_succ]
      refine wpAnyH_ready (rs := [28]) (by kernel_rfl) (by simp) ?_
      refine AllReadyH.cons (o := ?or116_28) ?hor116_28 (fun K hK => ?kr116_28) AllReadyH.nil
      case hor116_28 => simp only [List.getElem?_toArray, List.getElem?_cons_succ, List.getElem?_cons_zero]; rfl
      go_simp
      have cc := Mul_any w3 ra1 yf
      rw [mul_ok LP.out (Nat.lt_of_lt_of_le (show factC q (2 : Int) < pw 2 from (fact_bd vld.out.may (by decide) (by decide)).1) (pw_le (by decide))) LF.out] at cc
      refine cc.mono ?_
      rintro e2 w4 ⟨ax, nx, cx, rfl, yx, hb⟩
      clear cc
      have R1 := R1.later hb
      have ra1 := ra1.below hb
      have rb1 := rb1.below hb
      clear hb yf
      go_wp2_with fail
      refine hK.out _ _ ?_ (fun hHeld => ?_)
      · exact ⟨R1.cell 0 _ rfl, R1.cell 1 _ rfl, R1.cell 2 _ rfl, R1.cell 8 _ rfl⟩
      clear hK K
      try simp only [Act.put, List.setIfInBounds_toArray, List.set_cons_zero, List.set_cons_succ]
      refine wpAnyH_take (i := 29) (oi := ?oir117_29) (v := ?vr117_29) ?hir117_29 (by kernel_rfl) (by kernel_rfl) (by kernel_rfl) ?hqr117_29 ?hyr117_29 (by assumption) ?restr117_29
      case hir117_29 => simp only [List.getElem?_toArray, List.getElem?_cons_succ, List.getElem?_cons_zero]; rfl
      case hqr117_29 => exact fun _ _ _ h => h
      case hyr117_29 => (refine Or.inl ⟨by rfl, ?_⟩; intro w hSw; (try dsimp only at hSw); go_simp; all_goals with_reducible rfl)
      try simp only [Act.put, List.setIfInBounds_toArray, List.set_cons_zero, List.set_cons_succ]
      refine wpAnyH_take (i := 30) (oi := ?oir117_30) (v := ?vr117_30) ?hir117_30 (by kernel_rfl) (by kernel_rfl) (by kernel_rfl) ?hqr117_30 ?hyr117_30 (by assumption) ?restr117_30
      case hir117_30 => simp only [List.getElem?_toArray, List.getElem?_cons_succ, List.getElem?_cons_zero]; rfl
      case hqr117_30 => exact fun _ _ _ h => h
      case hyr117_30 => (refine Or.inl ⟨by rfl, ?_⟩; intro w hSw; (try dsimp only at hSw); go_simp; all_goals with_reducible rfl)
      try simp only [Act.put, List.setIfInBounds_toArray, List.set_cons_zero, List.set_cons_succ]
      refine wpAnyH_take (i := 31) (oi := ?oir117_31) (v := ?vr117_31) ?hir117_31 (by kernel_rfl) (by kernel_rfl) (by kernel_rfl) ?hqr117_31 ?hyr117_31 (by assumption) ?restr117_31
      case hir117_31 => simp only [List.getElem?_toArray, List.getElem?_cons_succ, List.getElem?_cons_zero]; rfl
      case hqr117_31 => exact fun _ _ _ h => h
      case hyr117_31 => (refine Or.inl ⟨by rfl, ?_⟩; intro w hSw; (try dsimp only at hSw); go_simp; all_goals with_reducible rfl)
      try simp only [Act.put, List.setIfInBounds_toArray, List.set_cons_zero, List.set_cons_succ]
      refine wpAnyH_take (i := 32) (oi := ?oir117_32) (v := ?vr117_32) ?hir117_32 (by kernel_rfl) (by kernel_rfl) (by kernel_rfl) ?hqr117_32 ?hyr117_32 (by assumption) ?restr117_32
      case hir117_32 => simp only [List.getElem?_toArray, List.getElem?_cons_succ, List.getElem?_cons_zero]; rfl
      case hqr117_32 => exact fun _ _ _ h => h
      case hyr117_32 => (refine Or.inl ⟨by rfl, ?_⟩; intro w hSw; (try dsimp only at hSw); go_simp; all_goals with_reducible rfl)
      try simp only [Act.put, List.setIfInBounds_toArray, List.set_cons_zero, List.set_cons_succ]
      refine wpAnyH_take (i := 33) (oi := ?oir117_33) (v := ?vr117_33) ?hir117_33 (by kernel_rfl) (by kernel_rfl) (by kernel_rfl) ?hqr117_33 ?hyr117_33 (by assumption) ?restr117_33
      case hir117_33 => simp only [List.getElem?_toArray, List.getElem?_cons_succ, List.getElem?_cons_zero]; rfl
      case hqr117_33 => exact fun _ _ _ h => h
      case hyr117_33 => (refine Or.inl ⟨by rfl, ?_⟩; intro w hSw; (try dsimp only at hSw); go_simp; all_goals with_reducible rfl)
      try simp only [Act.put, List.setIfInBounds_toArray, List.set_cons_zero, List.set_cons_succ]
      refine wpAnyH_done (by kernel_rfl) ?_ _
      clear hHeld
      have cW := see_whole vld.out.may
      go_wp2_with fail
      refine (Of_any w4 (wholeC q) (fact_bd vld.out.may (x := 0) (by decide) (by decide)).2).mono ?_
      rintro e2 w5 ⟨ay, ny, cy, rfl, yy, hb⟩
      have R1 := R1.later hb
      have ra1 := ra1.below hb
      have rb1 := rb1.below hb
      have yx := yx.below hb
      clear hb
      go_wp2_with fail
      have cc := Div_any w5 yx yy
      rw [div_ok LF.out (Nat.lt_of_lt_of_le (show wholeC q < pw 2 from (fact_bd vld.out.may (x := 0) (by decide) (by decide)).2) (pw_le (by decide))) (fact_whole vld.out.may).2] at cc
      refine cc.mono ?_
      rintro e2 w6 ⟨az, nz, cz, ar, nr, cr, rfl, yz, -, hb⟩
      clear cc
      have R1 := R1.later hb
      have ra1 := ra1.below hb
      have rb1 := rb1.below hb
      clear hb yx yy
      have fr8 := R1.free 8
      have k8 := R1.cell 8 _ rfl
      have R2 : PRow 66 wb (w6.setCell ⟨k, 8, none⟩ (.slice az nz cz)) k (cmC (bumpC q (2 : Int)) az nz cz b m d) := R1.set 8 (.slice az nz cz)
      have yz := rd_setcell (i := 8) yz R1.row (cm_noint _ _ _ _ _ _ _) (.slice az nz cz)
      have rb1 := rd_setcell (i := 8) rb1 R1.row (cm_noint _ _ _ _ _ _ _) (.slice az nz cz)
      clear ra1 R1
      go_upto_region 8 with fail
      clear fr8 k8 cW n1' n2'
      generalize w6.setCell ⟨k, 8, none⟩ (.slice az nz cz) = w7 at *
      by_cases hD : (L * factC q (2 : Int) / wholeC q) ≤ mostN
      · have NX := Lib.hid (show nextC q L (2 : Int) = (L * factC q (2 : Int) / wholeC q) by unfold nextC timesN; exact Nat.min_eq_left hD)
        have DL := Lib.hid (show leC (limbs (L * factC q (2 : Int) / wholeC q)) [0, 0, 0, 0, 1] = true by rw [← most_limbs, leC_ok (Nat.lt_of_le_of_lt hD most_pw) most_pw]; exact decide_eq_true hD)
        clear hD
        have hb := (Below.refl w7.heap.size w7).drew
        have R2 := R2.later hb
        have yz := yz.below hb
        have rb1 := rb1.below hb
        clear hb
        refine wp_region_held_drew (S := (fun w' => w'.cell? ⟨k, 8, none⟩ = some (.slice az nz cz) ∧ True)) (by kernel_rfl) ?_ (fun hHeld => ?_)
        · exact ⟨R2.cell 8 _ rfl, trivial⟩
        generalize w7.drew = w8 at *
        refine wpAnyH_take (i := 0) (oi := ?oir118_0) (v := ?vr118_0) ?hir118_0 (by kernel_rfl) (by kernel_rfl) (by kernel_rfl) ?hqr118_0 ?hyr118_0 (by assumption) ?restr118_0
        case hir118_0 => simp only [List.getElem?_toArray, List.getElem?_cons_succ, List.getElem?_cons_zero]; rfl
        case hqr118_0 => exact fun _ _ _ h => h
        case hyr118_0 => (refine Or.inl ⟨by rfl, ?_⟩; intro w hSw; (try dsimp only at hSw); go_simp; all_goals with_reducible rfl)
        try simp only [Act.put, List.setIfInBounds_toArray, List.set_cons_zero, List.set_cons_succ]
        refine wpAnyH_take (i := 1) (oi := ?oir118_1) (v := ?vr118_1) ?hir118_1 (by kernel_rfl) (by kernel_rfl) (by kernel_rfl) ?hqr118_1 ?hyr118_1 (by assumption) ?restr118_1
        case hir118_1 => simp only [List.getElem?_toArray, List.getElem?_cons_succ, List.getElem?_cons_zero]; rfl
        case hqr118_1 => exact fun _ _ _ h => h
        case hyr118_1 => (refine Or.inl ⟨by rfl, ?_⟩; intro w hSw; (try dsimp only at hSw); go_simp; all_goals with_reducible rfl)
        try simp only [Act.put, List.setIfInBounds_toArray, List.set_cons_zero, List.set_cons_succ]
        refine wpAnyH_take (i := 2) (oi := ?oir118_2) (v := ?vr118_2) ?hir118_2 (by kernel_rfl) (by kernel_rfl) (by kernel_rfl) ?hqr118_2 ?hyr118_2 (by assumption) ?restr118_2
        case hir118_2 => simp only [List.getElem?_toArray, List.getElem?_cons_succ, List.getElem?_cons_zero]; rfl
        case hqr118_2 => exact fun _ _ _ h => h
        case hyr118_2 => (refine Or.inl ⟨by rfl, ?_⟩; intro w hSw; (try dsimp only at hSw); go_simp; all_goals with_reducible rfl)
        try simp only [Act.put, List.setIfInBounds_toArray, List.set_cons_zero, List.set_cons_succ]
        refine wpAnyH_take (i := 3) (oi := ?oir118_3) (v := ?vr118_3) ?hir118_3 (by kernel_rfl) (by kernel_rfl) (by kernel_rfl) ?hqr118_3 ?hyr118_3 (by assumption) ?restr118_3
        case hir118_3 => simp only [List.getElem?_toArray, List.getElem?_cons_succ, List.getElem?_cons_zero]; rfl
        case hqr118_3 => exact fun _ _ _ h => h
        case hyr118_3 => (refine Or.inl ⟨by rfl, ?_⟩; intro w hSw; (try dsimp only at hSw); go_simp; all_goals with_reducible rfl)
        try simp only [Act.put, List.setIfInBounds_toArray, List.set_cons_zero, List.set_cons_succ]
        refine wpAnyH_take (i := 4) (oi := ?oir118_4) (v := ?vr118_4) ?hir118_4 (by kernel_rfl) (by kernel_rfl) (by kernel_rfl) ?hqr118_4 ?hyr118_4 (by assumption) ?restr118_4
        case hir118_4 => simp only [List.getElem?_toArray, List.getElem?_cons_succ, List.getElem?_cons_zero]; rfl
        case hqr118_4 => exact fun _ _ _ h => h
        case hyr118_4 => (refine Or.inl ⟨by rfl, ?_⟩; intro w hSw; (try dsimp only at hSw); go_simp; all_goals with_reducible rfl)
        try simp only [Act.put, List.setIfInBounds_toArray, List.set_cons_zero, List.set_cons_succ]
        refine wpAnyH_ready (rs := [5]) (by kernel_rfl) (by simp) ?_
        refine AllReadyH.cons (o := ?or119_5) ?hor119_5 (fun K hK => ?kr119_5) AllReadyH.nil
        case hor119_5 => simp only [List.getElem?_toArray, List.getElem?_cons_succ, List.getElem?_cons_zero]; rfl
        go_simp
        refine (cmMost_any w8).mono ?_
        rintro e2 w9 ⟨am, nm, cm, rfl, ym, hb⟩
        have R2 := R2.later hb
        have yz := yz.below hb
        have rb1 := rb1.below hb
        clear hb
        go_wp2_with fail
        refine hK.out _ _ ?_ (fun hHeld => ?_)
        · exact ⟨R2.cell 8 _ rfl, trivial⟩
        clear hK K
        try simp only [Act.put, List.setIfInBounds_toArray, List.set_cons_zero, List.set_cons_succ]
        refine wpAnyH_ready (rs := [6]) (by kernel_rfl) (by simp) ?_
        refine AllReadyH.cons (o := ?or120_6) ?hor120_6 (fun K hK => ?kr120_6) AllReadyH.nil
        case hor120_6 => simp only [List.getElem?_toArray, List.getElem?_cons_succ, List.getElem?_cons_zero]; rfl
        go_simp
        have cc := cmAtMost_any w9 yz ym
        rw [DL.out] at cc
        refine cc.mono ?_
        rintro e2 wA ⟨rfl, hb⟩
        clear cc
        have R2 := R2.later hb
        have yz := yz.below hb
        have rb1 := rb1.below hb
        clear hb ym
        go_wp2_with fail
        refine hK.out _ _ ?_ (fun hHeld => ?_)
        · exact ⟨R2.cell 8 _ rfl, trivial⟩
        clear hK K
        try simp only [Act.put, List.setIfInBounds_toArray, List.set_cons_zero, List.set_cons_succ]
        refine wpAnyH_take (i := 7) (oi := ?oir121_7) (v := ?vr121_7) ?hir121_7 (by kernel_rfl) (by kernel_rfl) (by kernel_rfl) ?hqr121_7 ?hyr121_7 (by assumption) ?restr121_7
        case hir121_7 => simp only [List.getElem?_toArray, List.getElem?_cons_succ, List.getElem?_cons_zero]; rfl
        case hqr121_7 => exact fun _ _ _ h => h
        case hyr121_7 => (refine Or.inl ⟨by rfl, ?_⟩; intro w hSw; (try dsimp only at hSw); go_simp; all_goals with_reducible rfl)
        try simp only [Act.put, List.setIfInBounds_toArray, List.set_cons_zero, List.set_cons_succ]
        refine wpAnyH_done (by kernel_rfl) ?_ _
        clear hHeld
        rw [← NX.out] at yz
        by_cases hB : nextC q L (2 : Int) ≤ B
        · have BL := Lib.hid (show leC (limbs (nextC q L (2 : Int))) (limbs B) = true by rw [leC_ok nextC_lt vld.out.pw.2]; exact decide_eq_true hB)
          have HB := Lib.hid hB
          clear hB
          go_upto_region 10 with fail
          have hb := (Below.refl wA.heap.size wA).drew
          have R2 := R2.later hb
          have yz := yz.below hb
          have rb1 := rb1.below hb
          clear hb
          refine wp_region_held_drew (S := (fun w' => w'.cell? ⟨k, 8, none⟩ = some (.slice az nz cz) ∧ w'.cell? ⟨k, 9, none⟩ = some (.slice b m d))) (by kernel_rfl) ?_ (fun hHeld => ?_)
          · exact ⟨R2.cell 8 _ rfl, R2.cell 9 _ rfl⟩
          generalize wA.drew = wD at *
          refine wpAnyH_take (i := 0) (oi := ?oir122_0) (v := ?vr122_0) ?hir122_0 (by kernel_rfl) (by kernel_rfl) (by kernel_rfl) ?hqr122_0 ?hyr122_0 (by assumption) ?restr122_0
          case hir122_0 => simp only [List.getElem?_toArray, List.getElem?_cons_succ, List.getElem?_cons_zero]; rfl
          case hqr122_0 => exact fun _ _ _ h => h
          case hyr122_0 => (refine Or.inl ⟨by rfl, ?_⟩; intro w hSw; (try dsimp only at hSw); go_simp; all_goals with_reducible rfl)
          try simp only [Act.put, List.setIfInBounds_toArray, List.set_cons_zero, List.set_cons_succ]
          refine wpAnyH_take (i := 1) (oi := ?oir122_1) (v := ?vr122_1) ?hir122_1 (by kernel_rfl) (by kernel_rfl) (by kernel_rfl) ?hqr122_1 ?hyr122_1 (by assumption) ?restr122_1
          case hir122_1 => simp only [List.getElem?_toArray, List.getElem?_cons_succ, List.getElem?_cons_zero]; rfl
          case hqr122_1 => exact fun _ _ _ h => h
          case hyr122_1 => (refine Or.inl ⟨by rfl, ?_⟩; intro w hSw; (try dsimp only at hSw); go_simp; all_goals with_reducible rfl)
          try simp only [Act.put, List.setIfInBounds_toArray, List.set_cons_zero, List.set_cons_succ]
          refine wpAnyH_take (i := 2) (oi := ?oir122_2) (v := ?vr122_2) ?hir122_2 (by kernel_rfl) (by kernel_rfl) (by kernel_rfl) ?hqr122_2 ?hyr122_2 (by assumption) ?restr122_2
          case hir122_2 => simp only [List.getElem?_toArray, List.getElem?_cons_succ, List.getElem?_cons_zero]; rfl
          case hqr122_2 => exact fun _ _ _ h => h
          case hyr122_2 => (refine Or.inl ⟨by rfl, ?_⟩; intro w hSw; (try dsimp only at hSw); go_simp; all_goals with_reducible rfl)
          try simp only [Act.put, List.setIfInBounds_toArray, List.set_cons_zero, List.set_cons_succ]
          refine wpAnyH_take (i := 3) (oi := ?oir122_3) (v := ?vr122_3) ?hir122_3 (by kernel_rfl) (by kernel_rfl) (by kernel_rfl) ?hqr122_3 ?hyr122_3 (by assumption) ?restr122_3
          case hir122_3 => simp only [List.getElem?_toArray, List.getElem?_cons_succ, List.getElem?_cons_zero]; rfl
          case hqr122_3 => exact fun _ _ _ h => h
          case hyr122_3 => (refine Or.inl ⟨by rfl, ?_⟩; intro w hSw; (try dsimp only at hSw); go_simp; all_goals with_reducible rfl)
          try simp only [Act.put, List.setIfInBounds_toArray, List.set_cons_zero, List.set_cons_succ]
          refine wpAnyH_take (i := 4) (oi := ?oir122_4) (v := ?vr122_4) ?hir122_4 (by kernel_rfl) (by kernel_rfl) (by kernel_rfl) ?hqr122_4 ?hyr122_4 (by assumption) ?restr122_4
          case hir122_4 => simp only [List.getElem?_toArray, List.getElem?_cons_succ, List.getElem?_cons_zero]; rfl
          case hqr122_4 => exact fun _ _ _ h => h
          case hyr122_4 => (refine Or.inl ⟨by rfl, ?_⟩; intro w hSw; (try dsimp only at hSw); go_simp; all_goals with_reducible rfl)
          try simp only [Act.put, List.setIfInBounds_toArray, List.set_cons_zero, List.set_cons_succ]
          refine wpAnyH_take (i := 5) (oi := ?oir122_5) (v := ?vr122_5) ?hir122_5 (by kernel_rfl) (by kernel_rfl) (by kernel_rfl) ?hqr122_5 ?hyr122_5 (by assumption) ?restr122_5
          case hir122_5 => simp only [List.getElem?_toArray, List.getElem?_cons_succ, List.getElem?_cons_zero]; rfl
          case hqr122_5 => exact fun _ _ _ h => h
          case hyr122_5 => (refine Or.inl ⟨by rfl, ?_⟩; intro w hSw; (try dsimp only at hSw); go_simp; all_goals with_reducible rfl)
          try simp only [Act.put, List.setIfInBounds_toArray, List.set_cons_zero, List.set_cons_succ]
          refine wpAnyH_take (i := 6) (oi := ?oir122_6) (v := ?vr122_6) ?hir122_6 (by kernel_rfl) (by kernel_rfl) (by kernel_rfl) ?hqr122_6 ?hyr122_6 (by assumption) ?restr122_6
          case hir122_6 => simp only [List.getElem?_toArray, List.getElem?_cons_succ, List.getElem?_cons_zero]; rfl
          case hqr122_6 => exact fun _ _ _ h => h
          case hyr122_6 => (refine Or.inl ⟨by rfl, ?_⟩; intro w hSw; (try dsimp only at hSw); go_simp; all_goals with_reducible rfl)
          try simp only [Act.put, List.setIfInBounds_toArray, List.set_cons_zero, List.set_cons_succ]
          refine wpAnyH_take (i := 7) (oi := ?oir122_7) (v := ?vr122_7) ?hir122_7 (by kernel_rfl) (by kernel_rfl) (by kernel_rfl) ?hqr122_7 ?hyr122_7 (by assumption) ?restr122_7
          case hir122_7 => simp only [List.getElem?_toArray, List.getElem?_cons_succ, List.getElem?_cons_zero]; rfl
          case hqr122_7 => exact fun _ _ _ h => h
          case hyr122_7 => (refine Or.inl ⟨by rfl, ?_⟩; intro w hSw; (try dsimp only at hSw); go_simp; all_goals with_reducible rfl)
          try simp only [Act.put, List.setIfInBounds_toArray, List.set_cons_zero, List.set_cons_succ]
          refine wpAnyH_take (i := 8) (oi := ?oir122_8) (v := ?vr122_8) ?hir122_8 (by kernel_rfl) (by kernel_rfl) (by kernel_rfl) ?hqr122_8 ?hyr122_8 (by assumption) ?restr122_8
          case hir122_8 => simp only [List.getElem?_toArray, List.getElem?_cons_succ, List.getElem?_cons_zero]; rfl
          case hqr122_8 => exact fun _ _ _ h => h
          case hyr122_8 => (refine Or.inl ⟨by rfl, ?_⟩; intro w hSw; (try dsimp only at hSw); go_simp; all_goals with_reducible rfl)
          try simp only [Act.put, List.setIfInBounds_toArray, List.set_cons_zero, List.set_cons_succ]
          refine wpAnyH_take (i := 9) (oi := ?oir122_9) (v := ?vr122_9) ?hir122_9 (by kernel_rfl) (by kernel_rfl) (by kernel_rfl) ?hqr122_9 ?hyr122_9 (by assumption) ?restr122_9
          case hir122_9 => simp only [List.getElem?_toArray, List.getElem?_cons_succ, List.getElem?_cons_zero]; rfl
          case hqr122_9 => exact fun _ _ _ h => h
          case hyr122_9 => (refine Or.inl ⟨by rfl, ?_⟩; intro w hSw; (try dsimp only at hSw); go_simp; all_goals with_reducible rfl)
          try simp only [Act.put, List.setIfInBounds_toArray, List.set_cons_zero, List.set_cons_succ]
          refine wpAnyH_ready (rs := [10]) (by kernel_rfl) (by simp) ?_
          refine AllReadyH.cons (o := ?or123_10) ?hor123_10 (fun K hK => ?kr123_10) AllReadyH.nil
          case hor123_10 => simp only [List.getElem?_toArray, List.getElem?_cons_succ, List.getElem?_cons_zero]; rfl
          go_simp
          have cc := cmAtMost_any wD yz rb1
          rw [BL.out] at cc
          refine cc.mono ?_
          rintro e2 wE ⟨rfl, hb⟩
          clear cc
          have R2 := R2.later hb
          have yz := yz.below hb
          have rb1 := rb1.below hb
          clear hb
          go_wp2_with fail
          refine hK.out _ _ ?_ (fun hHeld => ?_)
          · exact ⟨R2.cell 8 _ rfl, R2.cell 9 _ rfl⟩
          clear hK K
          try simp only [Act.put, List.setIfInBounds_toArray, List.set_cons_zero, List.set_cons_succ]
          refine wpAnyH_take (i := 11) (oi := ?oir124_11) (v := ?vr124_11) ?hir124_11 (by kernel_rfl) (by kernel_rfl) (by kernel_rfl) ?hqr124_11 ?hyr124_11 (by assumption) ?restr124_11
          case hir124_11 => simp only [List.getElem?_toArray, List.getElem?_cons_succ, List.getElem?_cons_zero]; rfl
          case hqr124_11 => exact fun _ _ _ h => h
          case hyr124_11 => (refine Or.inl ⟨by rfl, ?_⟩; intro w hSw; (try dsimp only at hSw); go_simp; all_goals with_reducible rfl)
          try simp only [Act.put, List.setIfInBounds_toArray, List.set_cons_zero, List.set_cons_succ]
          refine wpAnyH_done (by kernel_rfl) ?_ _
          clear hHeld
          go_wp2_with fail
          go_ret
          refine .inr ⟨_, _, _, _, _, _, e.out, rfl, R2, ?_, ?_⟩
          · rw [(show (stepC q (2 : Int)).lev = limbs (nextC q L (2 : Int)) by show limbs (nextC q (val q.lev) (2 : Int)) = _; rw [vld.out.lev, val_limbs])]; exact yz
          · rw [(show (stepC q (2 : Int)).best = limbs B by show limbs (max (val q.best) (nextC q (val q.lev) (2 : Int))) = _; rw [vld.out.lev, vld.out.best, val_limbs, val_limbs, Nat.max_eq_left HB.out])]; exact rb1
        · have BL := Lib.hid (show leC (limbs (nextC q L (2 : Int))) (limbs B) = false by rw [leC_ok nextC_lt vld.out.pw.2]; exact decide_eq_false hB)
          have HB := Lib.hid hB
          clear hB
          go_upto_region 10 with fail
          have hb := (Below.refl wA.heap.size wA).drew
          have R2 := R2.later hb
          have yz := yz.below hb
          have rb1 := rb1.below hb
          clear hb
          refine wp_region_held_drew (S := (fun w' => w'.cell? ⟨k, 8, none⟩ = some (.slice az nz cz) ∧ w'.cell? ⟨k, 9, none⟩ = some (.slice b m d))) (by kernel_rfl) ?_ (fun hHeld => ?_)
          · exact ⟨R2.cell 8 _ rfl, R2.cell 9 _ rfl⟩
          generalize wA.drew = wD at *
          refine wpAnyH_take (i := 0) (oi := ?oir125_0) (v := ?vr125_0) ?hir125_0 (by kernel_rfl) (by kernel_rfl) (by kernel_rfl) ?hqr125_0 ?hyr125_0 (by assumption) ?restr125_0
          case hir125_0 => simp only [List.getElem?_toArray, List.getElem?_cons_succ, List.getElem?_cons_zero]; rfl
          case hqr125_0 => exact fun _ _ _ h => h
          case hyr125_0 => (refine Or.inl ⟨by rfl, ?_⟩; intro w hSw; (try dsimp only at hSw); go_simp; all_goals with_reducible rfl)
          try simp only [Act.put, List.setIfInBounds_toArray, List.set_cons_zero, List.set_cons_succ]
          refine wpAnyH_take (i := 1) (oi := ?oir125_1) (v := ?vr125_1) ?hir125_1 (by kernel_rfl) (by kernel_rfl) (by kernel_rfl) ?hqr125_1 ?hyr125_1 (by assumption) ?restr125_1
          case hir125_1 => simp only [List.getElem?_toArray, List.getElem?_cons_succ, List.getElem?_cons_zero]; rfl
          case hqr125_1 => exact fun _ _ _ h => h
          case hyr125_1 => (refine Or.inl ⟨by rfl, ?_⟩; intro w hSw; (try dsimp only at hSw); go_simp; all_goals with_reducible rfl)
          try simp only [Act.put, List.setIfInBounds_toArray, List.set_cons_zero, List.set_cons_succ]
          refine wpAnyH_take (i := 2) (oi := ?oir125_2) (v := ?vr125_2) ?hir125_2 (by kernel_rfl) (by kernel_rfl) (by kernel_rfl) ?hqr125_2 ?hyr125_2 (by assumption) ?restr125_2
          case hir125_2 => simp only [List.getElem?_toArray, List.getElem?_cons_succ, List.getElem?_cons_zero]; rfl
          case hqr125_2 => exact fun _ _ _ h => h
          case hyr125_2 => (refine Or.inl ⟨by rfl, ?_⟩; intro w hSw; (try dsimp only at hSw); go_simp; all_goals with_reducible rfl)
          try simp only [Act.put, List.setIfInBounds_toArray, List.set_cons_zero, List.set_cons_succ]
          refine wpAnyH_take (i := 3) (oi := ?oir125_3) (v := ?vr125_3) ?hir125_3 (by kernel_rfl) (by kernel_rfl) (by kernel_rfl) ?hqr125_3 ?hyr125_3 (by assumption) ?restr125_3
          case hir125_3 => simp only [List.getElem?_toArray, List.getElem?_cons_succ, List.getElem?_cons_zero]; rfl
          case hqr125_3 => exact fun _ _ _ h => h
          case hyr125_3 => (refine Or.inl ⟨by rfl, ?_⟩; intro w hSw; (try dsimp only at hSw); go_simp; all_goals with_reducible rfl)
          try simp only [Act.put, List.setIfInBounds_toArray, List.set_cons_zero, List.set_cons_succ]
          refine wpAnyH_take (i := 4) (oi := ?oir125_4) (v := ?vr125_4) ?hir125_4 (by kernel_rfl) (by kernel_rfl) (by kernel_rfl) ?hqr125_4 ?hyr125_4 (by assumption) ?restr125_4
          case hir125_4 => simp only [List.getElem?_toArray, List.getElem?_cons_succ, List.getElem?_cons_zero]; rfl
          case hqr125_4 => exact fun _ _ _ h => h
          case hyr125_4 => (refine Or.inl ⟨by rfl, ?_⟩; intro w hSw; (try dsimp only at hSw); go_simp; all_goals with_reducible rfl)
          try simp only [Act.put, List.setIfInBounds_toArray, List.set_cons_zero, List.set_cons_succ]
          refine wpAnyH_take (i := 5) (oi := ?oir125_5) (v := ?vr125_5) ?hir125_5 (by kernel_rfl) (by kernel_rfl) (by kernel_rfl) ?hqr125_5 ?hyr125_5 (by assumption) ?restr125_5
          case hir125_5 => simp only [List.getElem?_toArray, List.getElem?_cons_succ, List.getElem?_cons_zero]; rfl
          case hqr125_5 => exact fun _ _ _ h => h
          case hyr125_5 => (refine Or.inl ⟨by rfl, ?_⟩; intro w hSw; (try dsimp only at hSw); go_simp; all_goals with_reducible rfl)
          try simp only [Act.put, List.setIfInBounds_toArray, List.set_cons_zero, List.set_cons_succ]
          refine wpAnyH_take (i := 6) (oi := ?oir125_6) (v := ?vr125_6) ?hir125_6 (by kernel_rfl) (by kernel_rfl) (by kernel_rfl) ?hqr125_6 ?hyr125_6 (by assumption) ?restr125_6
          case hir125_6 => simp only [List.getElem?_toArray, List.getElem?_cons_succ, List.getElem?_cons_zero]; rfl
          case hqr125_6 => exact fun _ _ _ h => h
          case hyr125_6 => (refine Or.inl ⟨by rfl, ?_⟩; intro w hSw; (try dsimp only at hSw); go_simp; all_goals with_reducible rfl)
          try simp only [Act.put, List.setIfInBounds_toArray, List.set_cons_zero, List.set_cons_succ]
          refine wpAnyH_take (i := 7) (oi := ?oir125_7) (v := ?vr125_7) ?hir125_7 (by kernel_rfl) (by kernel_rfl) (by kernel_rfl) ?hqr125_7 ?hyr125_7 (by assumption) ?restr125_7
          case hir125_7 => simp only [List.getElem?_toArray, List.getElem?_cons_succ, List.getElem?_cons_zero]; rfl
          case hqr125_7 => exact fun _ _ _ h => h
          case hyr125_7 => (refine Or.inl ⟨by rfl, ?_⟩; intro w hSw; (try dsimp only at hSw); go_simp; all_goals with_reducible rfl)
          try simp only [Act.put, List.setIfInBounds_toArray, List.set_cons_zero, List.set_cons_succ]
          refine wpAnyH_take (i := 8) (oi := ?oir125_8) (v := ?vr125_8) ?hir125_8 (by kernel_rfl) (by kernel_rfl) (by kernel_rfl) ?hqr125_8 ?hyr125_8 (by assumption) ?restr125_8
          case hir125_8 => simp only [List.getElem?_toArray, List.getElem?_cons_succ, List.getElem?_cons_zero]; rfl
          case hqr125_8 => exact fun _ _ _ h => h
          case hyr125_8 => (refine Or.inl ⟨by rfl, ?_⟩; intro w hSw; (try dsimp only at hSw); go_simp; all_goals with_reducible rfl)
          try simp only [Act.put, List.setIfInBounds_toArray, List.set_cons_zero, List.set_cons_succ]
          refine wpAnyH_take (i := 9) (oi := ?oir125_9) (v := ?vr125_9) ?hir125_9 (by kernel_rfl) (by kernel_rfl) (by kernel_rfl) ?hqr125_9 ?hyr125_9 (by assumption) ?restr125_9
          case hir125_9 => simp only [List.getElem?_toArray, List.getElem?_cons_succ, List.getElem?_cons_zero]; rfl
          case hqr125_9 => exact fun _ _ _ h => h
          case hyr125_9 => (refine Or.inl ⟨by rfl, ?_⟩; intro w hSw; (try dsimp only at hSw); go_simp; all_goals with_reducible rfl)
          try simp only [Act.put, List.setIfInBounds_toArray, List.set_cons_zero, List.set_cons_succ]
          refine wpAnyH_ready (rs := [10]) (by kernel_rfl) (by simp) ?_
          refine AllReadyH.cons (o := ?or126_10) ?hor126_10 (fun K hK => ?kr126_10) AllReadyH.nil
          case hor126_10 => simp only [List.getElem?_toArray, List.getElem?_cons_succ, List.getElem?_cons_zero]; rfl
          go_simp
          have cc := cmAtMost_any wD yz rb1
          rw [BL.out] at cc
          refine cc.mono ?_
          rintro e2 wE ⟨rfl, hb⟩
          clear cc
          have R2 := R2.later hb
          have yz := yz.below hb
          have rb1 := rb1.below hb
          clear hb
          go_wp2_with fail
          refine hK.out _ _ ?_ (fun hHeld => ?_)
          · exact ⟨R2.cell 8 _ rfl, R2.cell 9 _ rfl⟩
          clear hK K
          try simp only [Act.put, List.setIfInBounds_toArray, List.set_cons_zero, List.set_cons_succ]
          refine wpAnyH_take (i := 11) (oi := ?oir127_11) (v := ?vr127_11) ?hir127_11 (by kernel_rfl) (by kernel_rfl) (by kernel_rfl) ?hqr127_11 ?hyr127_11 (by assumption) ?restr127_11
          case hir127_11 => simp only [List.getElem?_toArray, List.getElem?_cons_succ, List.getElem?_cons_zero]; rfl
          case hqr127_11 => exact fun _ _ _ h => h
          case hyr127_11 => (refine Or.inl ⟨by rfl, ?_⟩; intro w hSw; (try dsimp only at hSw); go_simp; all_goals with_reducible rfl)
          try simp only [Act.put, List.setIfInBounds_toArray, List.set_cons_zero, List.set_cons_succ]
          refine wpAnyH_done (by kernel_rfl) ?_ _
          clear hHeld
          have k8 : wE.cell? ⟨k, 8, none⟩ = some (.slice az nz cz) := R2.cell 8 _ rfl
          go_wp2_with fail
          refine (Clone_any wE yz (by have h1 := yz.len; have h2 := limbs_len_le (k := 96) (show nextC q L (2 : Int) < pw 96 from Nat.lt_of_le_of_lt (Nat.min_le_right _ _) most_pw); omega)).mono ?_
          rintro e2 wF ⟨ak, nk, ck, rfl, yk, hb⟩
          have R2 := R2.later hb
          have yz := yz.below hb
          have rb1 := rb1.below hb
          clear hb k8
          have fr9 := R2.free 9
          have k9 := R2.cell 9 _ rfl
          have R4 : PRow 66 wb (wF.setCell ⟨k, 9, none⟩ (.slice ak nk ck)) k (cmC (bumpC q (2 : Int)) az nz cz ak nk ck) := R2.set 9 (.slice ak nk ck)
          have yk := rd_setcell (i := 9) yk R2.row (cm_noint _ _ _ _ _ _ _) (.slice ak nk ck)
          have yl := rd_setcell (i := 9) yz R2.row (cm_noint _ _ _ _ _ _ _) (.slice ak nk ck)
          go_wp2_with fail
          go_ret
          refine .inr ⟨_, _, _, _, _, _, e.out, rfl, R4, ?_, ?_⟩
          · rw [(show (stepC q (2 : Int)).lev = limbs (nextC q L (2 : Int)) by show limbs (nextC q (val q.lev) (2 : Int)) = _; rw [vld.out.lev, val_limbs])]; exact yl
          · rw [(show (stepC q (2 : Int)).best = limbs (nextC q L (2 : Int)) by show limbs (max (val q.best) (nextC q (val q.lev) (2 : Int))) = _; rw [vld.out.lev, vld.out.best, val_limbs, val_limbs, Nat.max_eq_right (Nat.le_of_lt (Nat.lt_of_not_le HB.out))])]; exact yk
      · have NX := Lib.hid (show nextC q L (2 : Int) = mostN by unfold nextC timesN; exact Nat.min_eq_right (Nat.le_of_lt (Nat.lt_of_not_le hD)))
        have DL := Lib.hid (show leC (limbs (L * factC q (2 : Int) / wholeC q)) [0, 0, 0, 0, 1] = false by rw [← most_limbs, leC_ok (Nat.lt_of_le_of_lt (Nat.div_le_self _ _) LF.out) most_pw]; exact decide_eq_false hD)
        clear hD
        have hb := (Below.refl w7.heap.size w7).drew
        have R2 := R2.later hb
        have yz := yz.below hb
        have rb1 := rb1.below hb
        clear hb
        refine wp_region_held_drew (S := (fun w' => w'.cell? ⟨k, 8, none⟩ = some (.slice az nz cz) ∧ True)) (by kernel_rfl) ?_ (fun hHeld => ?_)
        · exact ⟨R2.cell 8 _ rfl, trivial⟩
        generalize w7.drew = w8 at *
        refine wpAnyH_take (i := 0) (oi := ?oir128_0) (v := ?vr128_0) ?hir128_0 (by kernel_rfl) (by kernel_rfl) (by kernel_rfl) ?hqr128_0 ?hyr128_0 (by assumption) ?restr128_0
        case hir128_0 => simp only [List.getElem?_toArray, List.getElem?_cons_succ, List.getElem?_cons_zero]; rfl
        case hqr128_0 => exact fun _ _ _ h => h
        case hyr128_0 => (refine Or.inl ⟨by rfl, ?_⟩; intro w hSw; (try dsimp only at hSw); go_simp; all_goals with_reducible rfl)
        try simp only [Act.put, List.setIfInBounds_toArray, List.set_cons_zero, List.set_cons_succ]
        refine wpAnyH_take (i := 1) (oi := ?oir128_1) (v := ?vr128_1) ?hir128_1 (by kernel_rfl) (by kernel_rfl) (by kernel_rfl) ?hqr128_1 ?hyr128_1 (by assumption) ?restr128_1
        case hir128_1 => simp only [List.getElem?_toArray, List.getElem?_cons_succ, List.getElem?_cons_zero]; rfl
        case hqr128_1 => exact fun _ _ _ h => h
        case hyr128_1 => (refine Or.inl ⟨by rfl, ?_⟩; intro w hSw; (try dsimp only at hSw); go_simp; all_goals with_reducible rfl)
        try simp only [Act.put, List.setIfInBounds_toArray, List.set_cons_zero, List.set_cons_succ]
        refine wpAnyH_take (i := 2) (oi := ?oir128_2) (v := ?vr128_2) ?hir128_2 (by kernel_rfl) (by kernel_rfl) (by kernel_rfl) ?hqr128_2 ?hyr128_2 (by assumption) ?restr128_2
        case hir128_2 => simp only [List.getElem?_toArray, List.getElem?_cons_succ, List.getElem?_cons_zero]; rfl
        case hqr128_2 => exact fun _ _ _ h => h
        case hyr128_2 => (refine Or.inl ⟨by rfl, ?_⟩; intro w hSw; (try dsimp only at hSw); go_simp; all_goals with_reducible rfl)
        try simp only [Act.put, List.setIfInBounds_toArray, List.set_cons_zero, List.set_cons_succ]
        refine wpAnyH_take (i := 3) (oi := ?oir128_3) (v := ?vr128_3) ?hir128_3 (by kernel_rfl) (by kernel_rfl) (by kernel_rfl) ?hqr128_3 ?hyr128_3 (by assumption) ?restr128_3
        case hir128_3 => simp only [List.getElem?_toArray, List.getElem?_cons_succ, List.getElem?_cons_zero]; rfl
        case hqr128_3 => exact fun _ _ _ h => h
        case hyr128_3 => (refine Or.inl ⟨by rfl, ?_⟩; intro w hSw; (try dsimp only at hSw); go_simp; all_goals with_reducible rfl)
        try simp only [Act.put, List.setIfInBounds_toArray, List.set_cons_zero, List.set_cons_succ]
        refine wpAnyH_take (i := 4) (oi := ?oir128_4) (v := ?vr128_4) ?hir128_4 (by kernel_rfl) (by kernel_rfl) (by kernel_rfl) ?hqr128_4 ?hyr128_4 (by assumption) ?restr128_4
        case hir128_4 => simp only [List.getElem?_toArray, List.getElem?_cons_succ, List.getElem?_cons_zero]; rfl
        case hqr128_4 => exact fun _ _ _ h => h
        case hyr128_4 => (refine Or.inl ⟨by rfl, ?_⟩; intro w hSw; (try dsimp only at hSw); go_simp; all_goals with_reducible rfl)
        try simp only [Act.put, List.setIfInBounds_toArray, List.set_cons_zero, List.set_cons_succ]
        refine wpAnyH_ready (rs := [5]) (by kernel_rfl) (by simp) ?_
        refine AllReadyH.cons (o := ?or129_5) ?hor129_5 (fun K hK => ?kr129_5) AllReadyH.nil
        case hor129_5 => simp only [List.getElem?_toArray, List.getElem?_cons_succ, List.getElem?_cons_zero]; rfl
        go_simp
        refine (cmMost_any w8).mono ?_
        rintro e2 w9 ⟨am, nm, cm, rfl, ym, hb⟩
        have R2 := R2.later hb
        have yz := yz.below hb
        have rb1 := rb1.below hb
        clear hb
        go_wp2_with fail
        refine hK.out _ _ ?_ (fun hHeld => ?_)
        · exact ⟨R2.cell 8 _ rfl, trivial⟩
        clear hK K
        try simp only [Act.put, List.setIfInBounds_toArray, List.set_cons_zero, List.set_cons_succ]
        refine wpAnyH_ready (rs := [6]) (by kernel_rfl) (by simp) ?_
        refine AllReadyH.cons (o := ?or130_6) ?hor130_6 (fun K hK => ?kr130_6) AllReadyH.nil
        case hor130_6 => simp only [List.getElem?_toArray, List.getElem?_cons_succ, List.getElem?_cons_zero]; rfl
        go_simp
        have cc := cmAtMost_any w9 yz ym
        rw [DL.out] at cc
        refine cc.mono ?_
        rintro e2 wA ⟨rfl, hb⟩
        clear cc
        have R2 := R2.later hb
        have yz := yz.below hb
        have rb1 := rb1.below hb
        clear hb ym
        go_wp2_with fail
        refine hK.out _ _ ?_ (fun hHeld => ?_)
        · exact ⟨R2.cell 8 _ rfl, trivial⟩
        clear hK K
        try simp only [Act.put, List.setIfInBounds_toArray, List.set_cons_zero, List.set_cons_succ]
        refine wpAnyH_take (i := 7) (oi := ?oir131_7) (v := ?vr131_7) ?hir131_7 (by kernel_rfl) (by kernel_rfl) (by kernel_rfl) ?hqr131_7 ?hyr131_7 (by assumption) ?restr131_7
        case hir131_7 => simp only [List.getElem?_toArray, List.getElem?_cons_succ, List.getElem?_cons_zero]; rfl
        case hqr131_7 => exact fun _ _ _ h => h
        case hyr131_7 => (refine Or.inl ⟨by rfl, ?_⟩; intro w hSw; (try dsimp only at hSw); go_simp; all_goals with_reducible rfl)
        try simp only [Act.put, List.setIfInBounds_toArray, List.set_cons_zero, List.set_cons_succ]
        refine wpAnyH_done (by kernel_rfl) ?_ _
        clear hHeld
        go_wp2_with fail
        refine (cmMost_any wA).mono ?_
        rintro e2 wB ⟨as', ns', cs', rfl, ys, hb⟩
        have R2 := R2.later hb
        have yz := yz.below hb
        have rb1 := rb1.below hb
        clear hb
        have fr8 := R2.free 8
        have k8 := R2.cell 8 _ rfl
        have R3 : PRow 66 wb (wB.setCell ⟨k, 8, none⟩ (.slice as' ns' cs')) k (cmC (bumpC q (2 : Int)) as' ns' cs' b m d) := R2.set 8 (.slice as' ns' cs')
        have ys := rd_setcell (i := 8) ys R2.row (cm_noint _ _ _ _ _ _ _) (.slice as' ns' cs')
        have rb1 := rd_setcell (i := 8) rb1 R2.row (cm_noint _ _ _ _ _ _ _) (.slice as' ns' cs')
        clear R2 yz
        rw [← most_limbs, ← NX.out] at ys
        go_upto_region 10 with fail
        clear fr8 k8
        generalize wB.setCell ⟨k, 8, none⟩ (.slice as' ns' cs') = wC at *
        by_cases hB : nextC q L (2 : Int) ≤ B
        · have BL := Lib.hid (show leC (limbs (nextC q L (2 : Int))) (limbs B) = true by rw [leC_ok nextC_lt vld.out.pw.2]; exact decide_eq_true hB)
          have HB := Lib.hid hB
          clear hB
          have hb := (Below.refl wC.heap.size wC).drew
          have R3 := R3.later hb
          have ys := ys.below hb
          have rb1 := rb1.below hb
          clear hb
          refine wp_region_held_drew (S := (fun w' => w'.cell? ⟨k, 8, none⟩ = some (.slice as' ns' cs') ∧ w'.cell? ⟨k, 9, none⟩ = some (.slice b m d))) (by kernel_rfl) ?_ (fun hHeld => ?_)
          · exact ⟨R3.cell 8 _ rfl, R3.cell 9 _ rfl⟩
          generalize wC.drew = wD at *
          refine wpAnyH_take (i := 0) (oi := ?oir132_0) (v := ?vr132_0) ?hir132_0 (by kernel_rfl) (by kernel_rfl) (by kernel_rfl) ?hqr132_0 ?hyr132_0 (by assumption) ?restr132_0
          case hir132_0 => simp only [List.getElem?_toArray, List.getElem?_cons_succ, List.getElem?_cons_zero]; rfl
          case hqr132_0 => exact fun _ _ _ h => h
          case hyr132_0 => (refine Or.inl ⟨by rfl, ?_⟩; intro w hSw; (try dsimp only at hSw); go_simp; all_goals with_reducible rfl)
          try simp only [Act.put, List.setIfInBounds_toArray, List.set_cons_zero, List.set_cons_succ]
          refine wpAnyH_take (i := 1) (oi := ?oir132_1) (v := ?vr132_1) ?hir132_1 (by kernel_rfl) (by kernel_rfl) (by kernel_rfl) ?hqr132_1 ?hyr132_1 (by assumption) ?restr132_1
          case hir132_1 => simp only [List.getElem?_toArray, List.getElem?_cons_succ, List.getElem?_cons_zero]; rfl
          case hqr132_1 => exact fun _ _ _ h => h
          case hyr132_1 => (refine Or.inl ⟨by rfl, ?_⟩; intro w hSw; (try dsimp only at hSw); go_simp; all_goals with_reducible rfl)
          try simp only [Act.put, List.setIfInBounds_toArray, List.set_cons_zero, List.set_cons_succ]
          refine wpAnyH_take (i := 2) (oi := ?oir132_2) (v := ?vr132_2) ?hir132_2 (by kernel_rfl) (by kernel_rfl) (by kernel_rfl) ?hqr132_2 ?hyr132_2 (by assumption) ?restr132_2
          case hir132_2 => simp only [List.getElem?_toArray, List.getElem?_cons_succ, List.getElem?_cons_zero]; rfl
          case hqr132_2 => exact fun _ _ _ h => h
          case hyr132_2 => (refine Or.inl ⟨by rfl, ?_⟩; intro w hSw; (try dsimp only at hSw); go_simp; all_goals with_reducible rfl)
          try simp only [Act.put, List.setIfInBounds_toArray, List.set_cons_zero, List.set_cons_succ]
          refine wpAnyH_take (i := 3) (oi := ?oir132_3) (v := ?vr132_3) ?hir132_3 (by kernel_rfl) (by kernel_rfl) (by kernel_rfl) ?hqr132_3 ?hyr132_3 (by assumption) ?restr132_3
          case hir132_3 => simp only [List.getElem?_toArray, List.getElem?_cons_succ, List.getElem?_cons_zero]; rfl
          case hqr132_3 => exact fun _ _ _ h => h
          case hyr132_3 => (refine Or.inl ⟨by rfl, ?_⟩; intro w hSw; (try dsimp only at hSw); go_simp; all_goals with_reducible rfl)
          try simp only [Act.put, List.setIfInBounds_toArray, List.set_cons_zero, List.set_cons_succ]
          refine wpAnyH_take (i := 4) (oi := ?oir132_4) (v := ?vr132_4) ?hir132_4 (by kernel_rfl) (by kernel_rfl) (by kernel_rfl) ?hqr132_4 ?hyr132_4 (by assumption) ?restr132_4
          case hir132_4 => simp only [List.getElem?_toArray, List.getElem?_cons_succ, List.getElem?_cons_zero]; rfl
          case hqr132_4 => exact fun _ _ _ h => h
          case hyr132_4 => (refine Or.inl ⟨by rfl, ?_⟩; intro w hSw; (try dsimp only at hSw); go_simp; all_goals with_reducible rfl)
          try simp only [Act.put, List.setIfInBounds_toArray, List.set_cons_zero, List.set_cons_succ]
          refine wpAnyH_take (i := 5) (oi := ?oir132_5) (v := ?vr132_5) ?hir132_5 (by kernel_rfl) (by kernel_rfl) (by kernel_rfl) ?hqr132_5 ?hyr132_5 (by assumption) ?restr132_5
          case hir132_5 => simp only [List.getElem?_toArray, List.getElem?_cons_succ, List.getElem?_cons_zero]; rfl
          case hqr132_5 => exact fun _ _ _ h => h
          case hyr132_5 => (refine Or.inl ⟨by rfl, ?_⟩; intro w hSw; (try dsimp only at hSw); go_simp; all_goals with_reducible rfl)
          try simp only [Act.put, List.setIfInBounds_toArray, List.set_cons_zero, List.set_cons_succ]
          refine wpAnyH_take (i := 6) (oi := ?oir132_6) (v := ?vr132_6) ?hir132_6 (by kernel_rfl) (by kernel_rfl) (by kernel_rfl) ?hqr132_6 ?hyr132_6 (by assumption) ?restr132_6
          case hir132_6 => simp only [List.getElem?_toArray, List.getElem?_cons_succ, List.getElem?_cons_zero]; rfl
          case hqr132_6 => exact fun _ _ _ h => h
          case hyr132_6 => (refine Or.inl ⟨by rfl, ?_⟩; intro w hSw; (try dsimp only at hSw); go_simp; all_goals with_reducible rfl)
          try simp only [Act.put, List.setIfInBounds_toArray, List.set_cons_zero, List.set_cons_succ]
          refine wpAnyH_take (i := 7) (oi := ?oir132_7) (v := ?vr132_7) ?hir132_7 (by kernel_rfl) (by kernel_rfl) (by kernel_rfl) ?hqr132_7 ?hyr132_7 (by assumption) ?restr132_7
          case hir132_7 => simp only [List.getElem?_toArray, List.getElem?_cons_succ, List.getElem?_cons_zero]; rfl
          case hqr132_7 => exact fun _ _ _ h => h
          case hyr132_7 => (refine Or.inl ⟨by rfl, ?_⟩; intro w hSw; (try dsimp only at hSw); go_simp; all_goals with_reducible rfl)
          try simp only [Act.put, List.setIfInBounds_toArray, List.set_cons_zero, List.set_cons_succ]
          refine wpAnyH_take (i := 8) (oi := ?oir132_8) (v := ?vr132_8) ?hir132_8 (by kernel_rfl) (by kernel_rfl) (by kernel_rfl) ?hqr132_8 ?hyr132_8 (by assumption) ?restr132_8
          case hir132_8 => simp only [List.getElem?_toArray, List.getElem?_cons_succ, List.getElem?_cons_zero]; rfl
          case hqr132_8 => exact fun _ _ _ h => h
          case hyr132_8 => (refine Or.inl ⟨by rfl, ?_⟩; intro w hSw; (try dsimp only at hSw); go_simp; all_goals with_reducible rfl)
          try simp only [Act.put, List.setIfInBounds_toArray, List.set_cons_zero, List.set_cons_succ]
          refine wpAnyH_take (i := 9) (oi := ?oir132_9) (v := ?vr132_9) ?hir132_9 (by kernel_rfl) (by kernel_rfl) (by kernel_rfl) ?hqr132_9 ?hyr132_9 (by assumption) ?restr132_9
          case hir132_9 => simp only [List.getElem?_toArray, List.getElem?_cons_succ, List.getElem?_cons_zero]; rfl
          case hqr132_9 => exact fun _ _ _ h => h
          case hyr132_9 => (refine Or.inl ⟨by rfl, ?_⟩; intro w hSw; (try dsimp only at hSw); go_simp; all_goals with_reducible rfl)
          try simp only [Act.put, List.setIfInBounds_toArray, List.set_cons_zero, List.set_cons_succ]
          refine wpAnyH_ready (rs := [10]) (by kernel_rfl) (by simp) ?_
          refine AllReadyH.cons (o := ?or133_10) ?hor133_10 (fun K hK => ?kr133_10) AllReadyH.nil
          case hor133_10 => simp only [List.getElem?_toArray, List.getElem?_cons_succ, List.getElem?_cons_zero]; rfl
          go_simp
          have cc := cmAtMost_any wD ys rb1
          rw [BL.out] at cc
          refine cc.mono ?_
          rintro e2 wE ⟨rfl, hb⟩
          clear cc
          have R3 := R3.later hb
          have ys := ys.below hb
          have rb1 := rb1.below hb
          clear hb
          go_wp2_with fail
          refine hK.out _ _ ?_ (fun hHeld => ?_)
          · exact ⟨R3.cell 8 _ rfl, R3.cell 9 _ rfl⟩
          clear hK K
          try simp only [Act.put, List.setIfInBounds_toArray, List.set_cons_zero, List.set_cons_succ]
          refine wpAnyH_take (i := 11) (oi := ?oir134_11) (v := ?vr134_11) ?hir134_11 (by kernel_rfl) (by kernel_rfl) (by kernel_rfl) ?hqr134_11 ?hyr134_11 (by assumption) ?restr134_11
          case hir134_11 => simp only [List.getElem?_toArray, List.getElem?_cons_succ, List.getElem?_cons_zero]; rfl
          case hqr134_11 => exact fun _ _ _ h => h
          case hyr134_11 => (refine Or.inl ⟨by rfl, ?_⟩; intro w hSw; (try dsimp only at hSw); go_simp; all_goals with_reducible rfl)
          try simp only [Act.put, List.setIfInBounds_toArray, List.set_cons_zero, List.set_cons_succ]
          refine wpAnyH_done (by kernel_rfl) ?_ _
          clear hHeld
          go_wp2_with fail
          go_ret
          refine .inr ⟨_, _, _, _, _, _, e.out, rfl, R3, ?_, ?_⟩
          · rw [(show (stepC q (2 : Int)).lev = limbs (nextC q L (2 : Int)) by show limbs (nextC q (val q.lev) (2 : Int)) = _; rw [vld.out.lev, val_limbs])]; exact ys
          · rw [(show (stepC q (2 : Int)).best = limbs B by show limbs (max (val q.best) (nextC q (val q.lev) (2 : Int))) = _; rw [vld.out.lev, vld.out.best, val_limbs, val_limbs, Nat.max_eq_left HB.out])]; exact rb1
        · have BL := Lib.hid (show leC (limbs (nextC q L (2 : Int))) (limbs B) = false by rw [leC_ok nextC_lt vld.out.pw.2]; exact decide_eq_false hB)
          have HB := Lib.hid hB
          clear hB
          have hb := (Below.refl wC.heap.size wC).drew
          have R3 := R3.later hb
          have ys := ys.below hb
          have rb1 := rb1.below hb
          clear hb
          refine wp_region_held_drew (S := (fun w' => w'.cell? ⟨k, 8, none⟩ = some (.slice as' ns' cs') ∧ w'.cell? ⟨k, 9, none⟩ = some (.slice b m d))) (by kernel_rfl) ?_ (fun hHeld => ?_)
          · exact ⟨R3.cell 8 _ rfl, R3.cell 9 _ rfl⟩
          generalize wC.drew = wD at *
          refine wpAnyH_take (i := 0) (oi := ?oir135_0) (v := ?vr135_0) ?hir135_0 (by kernel_rfl) (by kernel_rfl) (by kernel_rfl) ?hqr135_0 ?hyr135_0 (by assumption) ?restr135_0
          case hir135_0 => simp only [List.getElem?_toArray, List.getElem?_cons_succ, List.getElem?_cons_zero]; rfl
          case hqr135_0 => exact fun _ _ _ h => h
          case hyr135_0 => (refine Or.inl ⟨by rfl, ?_⟩; intro w hSw; (try dsimp only at hSw); go_simp; all_goals with_reducible rfl)
          try simp only [Act.put, List.setIfInBounds_toArray, List.set_cons_zero, List.set_cons_succ]
          refine wpAnyH_take (i := 1) (oi := ?oir135_1) (v := ?vr135_1) ?hir135_1 (by kernel_rfl) (by kernel_rfl) (by kernel_rfl) ?hqr135_1 ?hyr135_1 (by assumption) ?restr135_1
          case hir135_1 => simp only [List.getElem?_toArray, List.getElem?_cons_succ, List.getElem?_cons_zero]; rfl
          case hqr135_1 => exact fun _ _ _ h => h
          case hyr135_1 => (refine Or.inl ⟨by rfl, ?_⟩; intro w hSw; (try dsimp only at hSw); go_simp; all_goals with_reducible rfl)
          try simp only [Act.put, List.setIfInBounds_toArray, List.set_cons_zero, List.set_cons_succ]
          refine wpAnyH_take (i := 2) (oi := ?oir135_2) (v := ?vr135_2) ?hir135_2 (by kernel_rfl) (by kernel_rfl) (by kernel_rfl) ?hqr135_2 ?hyr135_2 (by assumption) ?restr135_2
          case hir135_2 => simp only [List.getElem?_toArray, List.getElem?_cons_succ, List.getElem?_cons_zero]; rfl
          case hqr135_2 => exact fun _ _ _ h => h
          case hyr135_2 => (refine Or.inl ⟨by rfl, ?_⟩; intro w hSw; (try dsimp only at hSw); go_simp; all_goals with_reducible rfl)
          try simp only [Act.put, List.setIfInBounds_toArray, List.set_cons_zero, List.set_cons_succ]
          refine wpAnyH_take (i := 3) (oi := ?oir135_3) (v := ?vr135_3) ?hir135_3 (by kernel_rfl) (by kernel_rfl) (by kernel_rfl) ?hqr135_3 ?hyr135_3 (by assumption) ?restr135_3
          case hir135_3 => simp only [List.getElem?_toArray, List.getElem?_cons_succ, List.getElem?_cons_zero]; rfl
          case hqr135_3 => exact fun _ _ _ h => h
          case hyr135_3 => (refine Or.inl ⟨by rfl, ?_⟩; intro w hSw; (try dsimp only at hSw); go_simp; all_goals with_reducible rfl)
          try simp only [Act.put, List.setIfInBounds_toArray, List.set_cons_zero, List.set_cons_succ]
          refine wpAnyH_take (i := 4) (oi := ?oir135_4) (v := ?vr135_4) ?hir135_4 (by kernel_rfl) (by kernel_rfl) (by kernel_rfl) ?hqr135_4 ?hyr135_4 (by assumption) ?restr135_4
          case hir135_4 => simp only [List.getElem?_toArray, List.getElem?_cons_succ, List.getElem?_cons_zero]; rfl
          case hqr135_4 => exact fun _ _ _ h => h
          case hyr135_4 => (refine Or.inl ⟨by rfl, ?_⟩; intro w hSw; (try dsimp only at hSw); go_simp; all_goals with_reducible rfl)
          try simp only [Act.put, List.setIfInBounds_toArray, List.set_cons_zero, List.set_cons_succ]
          refine wpAnyH_take (i := 5) (oi := ?oir135_5) (v := ?vr135_5) ?hir135_5 (by kernel_rfl) (by kernel_rfl) (by kernel_rfl) ?hqr135_5 ?hyr135_5 (by assumption) ?restr135_5
          case hir135_5 => simp only [List.getElem?_toArray, List.getElem?_cons_succ, List.getElem?_cons_zero]; rfl
          case hqr135_5 => exact fun _ _ _ h => h
          case hyr135_5 => (refine Or.inl ⟨by rfl, ?_⟩; intro w hSw; (try dsimp only at hSw); go_simp; all_goals with_reducible rfl)
          try simp only [Act.put, List.setIfInBounds_toArray, List.set_cons_zero, List.set_cons_succ]
          refine wpAnyH_take (i := 6) (oi := ?oir135_6) (v := ?vr135_6) ?hir135_6 (by kernel_rfl) (by kernel_rfl) (by kernel_rfl) ?hqr135_6 ?hyr135_6 (by assumption) ?restr135_6
          case hir135_6 => simp only [List.getElem?_toArray, List.getElem?_cons_succ, List.getElem?_cons_zero]; rfl
          case hqr135_6 => exact fun _ _ _ h => h
          case hyr135_6 => (refine Or.inl ⟨by rfl, ?_⟩; intro w hSw; (try dsimp only at hSw); go_simp; all_goals with_reducible rfl)
          try simp only [Act.put, List.setIfInBounds_toArray, List.set_cons_zero, List.set_cons_succ]
          refine wpAnyH_take (i := 7) (oi := ?oir135_7) (v := ?vr135_7) ?hir135_7 (by kernel_rfl) (by kernel_rfl) (by kernel_rfl) ?hqr135_7 ?hyr135_7 (by assumption) ?restr135_7
          case hir135_7 => simp only [List.getElem?_toArray, List.getElem?_cons_succ, List.getElem?_cons_zero]; rfl
          case hqr135_7 => exact fun _ _ _ h => h
          case hyr135_7 => (refine Or.inl ⟨by rfl, ?_⟩; intro w hSw; (try dsimp only at hSw); go_simp; all_goals with_reducible rfl)
          try simp only [Act.put, List.setIfInBounds_toArray, List.set_cons_zero, List.set_cons_succ]
          refine wpAnyH_take (i := 8) (oi := ?oir135_8) (v := ?vr135_8) ?hir135_8 (by kernel_rfl) (by kernel_rfl) (by kernel_rfl) ?hqr135_8 ?hyr135_8 (by assumption) ?restr135_8
          case hir135_8 => simp only [List.getElem?_toArray, List.getElem?_cons_succ, List.getElem?_cons_zero]; rfl
          case hqr135_8 => exact fun _ _ _ h => h
          case hyr135_8 => (refine Or.inl ⟨by rfl, ?_⟩; intro w hSw; (try dsimp only at hSw); go_simp; all_goals with_reducible rfl)
          try simp only [Act.put, List.setIfInBounds_toArray, List.set_cons_zero, List.set_cons_succ]
          refine wpAnyH_take (i := 9) (oi := ?oir135_9) (v := ?vr135_9) ?hir135_9 (by kernel_rfl) (by kernel_rfl) (by kernel_rfl) ?hqr135_9 ?hyr135_9 (by assumption) ?restr135_9
          case hir135_9 => simp only [List.getElem?_toArray, List.getElem?_cons_succ, List.getElem?_cons_zero]; rfl
          case hqr135_9 => exact fun _ _ _ h => h
          case hyr135_9 => (refine Or.inl ⟨by rfl, ?_⟩; intro w hSw; (try dsimp only at hSw); go_simp; all_goals with_reducible rfl)
          try simp only [Act.put, List.setIfInBounds_toArray, List.set_cons_zero, List.set_cons_succ]
          refine wpAnyH_ready (rs := [10]) (by kernel_rfl) (by simp) ?_
          refine AllReadyH.cons (o := ?or136_10) ?hor136_10 (fun K hK => ?kr136_10) AllReadyH.nil
          case hor136_10 => simp only [List.getElem?_toArray, List.getElem?_cons_succ, List.getElem?_cons_zero]; rfl
          go_simp
          have cc := cmAtMost_any wD ys rb1
          rw [BL.out] at cc
          refine cc.mono ?_
          rintro e2 wE ⟨rfl, hb⟩
          clear cc
          have R3 := R3.later hb
          have ys := ys.below hb
          have rb1 := rb1.below hb
          clear hb
          go_wp2_with fail
          refine hK.out _ _ ?_ (fun hHeld => ?_)
          · exact ⟨R3.cell 8 _ rfl, R3.cell 9 _ rfl⟩
          clear hK K
          try simp only [Act.put, List.setIfInBounds_toArray, List.set_cons_zero, List.set_cons_succ]
          refine wpAnyH_take (i := 11) (oi := ?oir137_11) (v := ?vr137_11) ?hir137_11 (by kernel_rfl) (by kernel_rfl) (by kernel_rfl) ?hqr137_11 ?hyr137_11 (by assumption) ?restr137_11
          case hir137_11 => simp only [List.getElem?_toArray, List.getElem?_cons_succ, List.getElem?_cons_zero]; rfl
          case hqr137_11 => exact fun _ _ _ h => h
          case hyr137_11 => (refine Or.inl ⟨by rfl, ?_⟩; intro w hSw; (try dsimp only at hSw); go_simp; all_goals with_reducible rfl)
          try simp only [Act.put, List.setIfInBounds_toArray, List.set_cons_zero, List.set_cons_succ]
          refine wpAnyH_done (by kernel_rfl) ?_ _
          clear hHeld
          have k8 : wE.cell? ⟨k, 8, none⟩ = some (.slice as' ns' cs') := R3.cell 8 _ rfl
          go_wp2_with fail
          refine (Clone_any wE ys (by have h1 := ys.len; have h2 := limbs_len_le (k := 96) (show nextC q L (2 : Int) < pw 96 from Nat.lt_of_le_of_lt (Nat.min_le_right _ _) most_pw); omega)).mono ?_
          rintro e2 wF ⟨ak, nk, ck, rfl, yk, hb⟩
          have R3 := R3.later hb
          have ys := ys.below hb
          have rb1 := rb1.below hb
          clear hb k8
          have fr9 := R3.free 9
          have k9 := R3.cell 9 _ rfl
          have R4 : PRow 66 wb (wF.setCell ⟨k, 9, none⟩ (.slice ak nk ck)) k (cmC (bumpC q (2 : Int)) as' ns' cs' ak nk ck) := R3.set 9 (.slice ak nk ck)
          have yk := rd_setcell (i := 9) yk R3.row (cm_noint _ _ _ _ _ _ _) (.slice ak nk ck)
          have yl := rd_setcell (i := 9) ys R3.row (cm_noint _ _ _ _ _ _ _) (.slice ak nk ck)
          go_wp2_with fail
          go_ret
          refine .inr ⟨_, _, _, _, _, _, e.out, rfl, R4, ?_, ?_⟩
          · rw [(show (stepC q (2 : Int)).lev = limbs (nextC q L (2 : Int)) by show limbs (nextC q (val q.lev) (2 : Int)) = _; rw [vld.out.lev, val_limbs])]; exact yl
          · rw [(show (stepC q (2 : Int)).best = limbs (nextC q L (2 : Int)) by show limbs (max (val q.best) (nextC q (val q.lev) (2 : Int))) = _; rw [vld.out.lev, vld.out.best, val_limbs, val_limbs, Nat.max_eq_right (Nat.le_of_lt (Nat.lt_of_not_le HB.out))])]; exact yk

end Go.Proofs.Ytmkcdlhhbnakiaa
