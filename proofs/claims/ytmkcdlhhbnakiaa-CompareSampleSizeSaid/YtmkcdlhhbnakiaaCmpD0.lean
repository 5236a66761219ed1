/- Observing the overstatement -2. -/
import Derived.Test.YtmkcdlhhbnakiaaCmpV
namespace Go.Proofs.Ytmkcdlhhbnakiaa
open Go.RowKit Go.Suf
set_option linter.unusedVariables false
set_option linter.unusedSimpArgs false

set_option maxRecDepth 100000 in
set_option maxHeartbeats 8000000 in
theorem see0_any (wb w : World) {q : CV} {a b : Option Addr} {n m c d k L B : Nat} (R : PRow 66 wb w k (cmC q a n c b m d)) (ra : Rd .u32 w a n c (limbs L)) (rb : Rd .u32 w b m d (limbs B)) (vld' : VldC q L B) :
    Calls Try.prog 42 #[.pointer (some ⟨k, 0, none⟩), .int .i64 (-2)] w (RetSee wb k q (-2)) := by
  have vld := Lib.hid vld'
  clear vld'
  have k0 := R.cell 0 _ rfl
  have k1 := R.cell 1 _ rfl
  have k2 := R.cell 2 _ rfl
  have k3 := R.cell 3 _ rfl
  have k4 := R.cell 4 _ rfl
  have k5 := R.cell 5 _ rfl
  have k6 := R.cell 6 _ rfl
  have k7 := R.cell 7 _ rfl
  have k8 := R.cell 8 _ rfl
  have k9 := R.cell 9 _ rfl
  have fr := R.free 3
  have HF := Lib.hid (show seenAtC q (-2 : Int) = q.s0 from rfl)
  have sv := vld.out.s0
  unfold inS at sv
  by_cases full : q.s0 = 1000000
  · have e := Lib.hid (show obs1C q (-2 : Int) = none from obs1C_out (.inr (.inr (by rw [HF.out]; omega))))
    have d2 : (q.s0 == 1000000) = true := beq_iff_eq.2 full
    clear full sv
    go_enter Try.func42, Try.ntmps42
    go_wp2_with fail
    have cc := within_any w (-2 : Int) (-2) 2
    rw [decide_eq_true (show (-2 : Int) ≤ (-2 : Int) ∧ (-2 : Int) ≤ 2 by decide)] at cc
    refine cc.mono ?_
    rintro e1 w9 ⟨rfl, hw⟩
    have hw := hw.symm
    subst hw
    clear cc
    go_wp2_with fail
    go_ret
    exact .inl ⟨e.out, rfl, R.below⟩
  have d2 : (q.s0 == 1000000) = false := beq_eq_false_iff_ne.2 full
  have e := Lib.hid (show obs1C q (-2 : Int) = some (stepC q (-2 : Int)) from obs1C_in (by rw [HF.out]; omega))
  have sv1 : q.s0 < 1000000 := by omega
  have sv0 : 0 ≤ q.s0 := by omega
  have wi : IntKind.i64.wrap (q.s0 + 1) = q.s0 + 1 := wrap_in (by omega) (by omega)
  clear full sv
  go_enter Try.func42, Try.ntmps42
  go_wp2_with fail
  have cc := within_any w (-2 : Int) (-2) 2
  rw [decide_eq_true (show (-2 : Int) ≤ (-2 : Int) ∧ (-2 : Int) ≤ 2 by decide)] at cc
  refine cc.mono ?_
  rintro e1 w9 ⟨rfl, hw⟩
  have hw := hw.symm
  subst hw
  clear cc
  go_upto_region 4 with fail
  refine wp_region_any (by kernel_rfl) ?_
  change wpAny _ _ _ _ _ _ _ (World.drew _)
  refine wpAny_take (i := 0) (oi := ?oir1_0) (v := ?vr1_0) ?hir1_0 (by kernel_rfl) (by kernel_rfl) (by kernel_rfl) ?hqr1_0 ?hyr1_0 ?restr1_0
  case hir1_0 => simp only [List.getElem?_toArray, List.getElem?_cons_succ, List.getElem?_cons_zero]; rfl
  case hqr1_0 => exact fun _ _ _ h => h
  case hyr1_0 => (refine Or.inl ⟨by rfl, ?_⟩; intro w; go_simp; all_goals with_reducible rfl)
  try simp only [Act.put, List.setIfInBounds_toArray, List.set_cons_zero, List.set_cons_succ]
  refine wpAny_take (i := 1) (oi := ?oir1_1) (v := ?vr1_1) ?hir1_1 (by kernel_rfl) (by kernel_rfl) (by kernel_rfl) ?hqr1_1 ?hyr1_1 ?restr1_1
  case hir1_1 => simp only [List.getElem?_toArray, List.getElem?_cons_succ, List.getElem?_cons_zero]; rfl
  case hqr1_1 => exact fun _ _ _ h => h
  case hyr1_1 => (refine Or.inl ⟨by rfl, ?_⟩; intro w; go_simp; all_goals with_reducible rfl)
  try simp only [Act.put, List.setIfInBounds_toArray, List.set_cons_zero, List.set_cons_succ]
  refine wpAny_take (i := 2) (oi := ?oir1_2) (v := ?vr1_2) ?hir1_2 (by kernel_rfl) (by kernel_rfl) (by kernel_rfl) ?hqr1_2 ?hyr1_2 ?restr1_2
  case hir1_2 => simp only [List.getElem?_toArray, List.getElem?_cons_succ, List.getElem?_cons_zero]; rfl
  case hqr1_2 => exact fun _ _ _ h => h
  case hyr1_2 => (refine Or.inl ⟨by rfl, ?_⟩; intro w; go_simp; all_goals with_reducible rfl)
  try simp only [Act.put, List.setIfInBounds_toArray, List.set_cons_zero, List.set_cons_succ]
  refine wpAny_take (i := 3) (oi := ?oir1_3) (v := ?vr1_3) ?hir1_3 (by kernel_rfl) (by kernel_rfl) (by kernel_rfl) ?hqr1_3 ?hyr1_3 ?restr1_3
  case hir1_3 => simp only [List.getElem?_toArray, List.getElem?_cons_succ, List.getElem?_cons_zero]; rfl
  case hqr1_3 => exact fun _ _ _ h => h
  case hyr1_3 => (refine Or.inl ⟨by rfl, ?_⟩; intro w; go_simp; all_goals with_reducible rfl)
  try simp only [Act.put, List.setIfInBounds_toArray, List.set_cons_zero, List.set_cons_succ]
  refine wpAny_take (i := 4) (oi := ?oir1_4) (v := ?vr1_4) ?hir1_4 (by kernel_rfl) (by kernel_rfl) (by kernel_rfl) ?hqr1_4 ?hyr1_4 ?restr1_4
  case hir1_4 => simp only [List.getElem?_toArray, List.getElem?_cons_succ, List.getElem?_cons_zero]; rfl
  case hqr1_4 => exact fun _ _ _ h => h
  case hyr1_4 => (refine Or.inl ⟨by rfl, ?_⟩; intro w; go_simp; all_goals with_reducible rfl)
  try simp only [Act.put, List.setIfInBounds_toArray, List.set_cons_zero, List.set_cons_succ]
  refine wpAny_take (i := 5) (oi := ?oir1_5) (v := ?vr1_5) ?hir1_5 (by kernel_rfl) (by kernel_rfl) (by kernel_rfl) ?hqr1_5 ?hyr1_5 ?restr1_5
  case hir1_5 => simp only [List.getElem?_toArray, List.getElem?_cons_succ, List.getElem?_cons_zero]; rfl
  case hqr1_5 => exact fun _ _ _ h => h
  case hyr1_5 => (refine Or.inl ⟨by rfl, ?_⟩; intro w; go_simp; all_goals with_reducible rfl)
  try simp only [Act.put, List.setIfInBounds_toArray, List.set_cons_zero, List.set_cons_succ]
  refine wpAny_take (i := 8) (oi := ?oir1_8) (v := ?vr1_8) ?hir1_8 (by kernel_rfl) (by kernel_rfl) (by kernel_rfl) ?hqr1_8 ?hyr1_8 ?restr1_8
  case hir1_8 => simp only [List.getElem?_toArray, List.getElem?_cons_succ, List.getElem?_cons_zero]; rfl
  case hqr1_8 => exact fun _ _ _ h => h
  case hyr1_8 => (refine Or.inl ⟨by rfl, ?_⟩; intro w; go_simp; all_goals with_reducible rfl)
  try simp only [Act.put, List.setIfInBounds_toArray, List.set_cons_zero, List.set_cons_succ]
  refine wpAny_take (i := 9) (oi := ?oir1_9) (v := ?vr1_9) ?hir1_9 (by kernel_rfl) (by kernel_rfl) (by kernel_rfl) ?hqr1_9 ?hyr1_9 ?restr1_9
  case hir1_9 => simp only [List.getElem?_toArray, List.getElem?_cons_succ, List.getElem?_cons_zero]; rfl
  case hqr1_9 => exact fun _ _ _ h => h
  case hyr1_9 => (refine Or.inl ⟨by rfl, ?_⟩; intro w; go_simp; all_goals with_reducible rfl)
  try simp only [Act.put, List.setIfInBounds_toArray, List.set_cons_zero, List.set_cons_succ]
  refine wpAny_take (i := 10) (oi := ?oir1_10) (v := ?vr1_10) ?hir1_10 (by kernel_rfl) (by kernel_rfl) (by kernel_rfl) ?hqr1_10 ?hyr1_10 ?restr1_10
  case hir1_10 => simp only [List.getElem?_toArray, List.getElem?_cons_succ, List.getElem?_cons_zero]; rfl
  case hqr1_10 => exact fun _ _ _ h => h
  case hyr1_10 => (refine Or.inl ⟨by rfl, ?_⟩; intro w; go_simp; all_goals with_reducible rfl)
  try simp only [Act.put, List.setIfInBounds_toArray, List.set_cons_zero, List.set_cons_succ]
  refine wpAny_ready (rs := [6]) (by kernel_rfl) (by simp) ?_
  refine (AllReady.cons (o := ?ob28_6) ?hob28_6 (fun K hK => ?kb28_6) AllReady.nil)
  case hob28_6 => simp only [List.getElem?_toArray, List.getElem?_cons_succ, List.getElem?_cons_zero]; rfl
  case kb28_6 =>
    go_simp
    refine hK _ _ ?_
    clear hK K
    try simp only [Act.put, List.setIfInBounds_toArray, List.set_cons_zero, List.set_cons_succ]
    refine wpAny_take (i := 7) (oi := ?oir27_7) (v := ?vr27_7) ?hir27_7 (by kernel_rfl) (by kernel_rfl) (by kernel_rfl) ?hqr27_7 ?hyr27_7 ?restr27_7
    case hir27_7 => simp only [List.getElem?_toArray, List.getElem?_cons_succ, List.getElem?_cons_zero]; rfl
    case hqr27_7 => exact fun _ _ _ h => h
    case hyr27_7 => (refine Or.inl ⟨by rfl, ?_⟩; intro w; go_simp; all_goals with_reducible rfl)
    try simp only [Act.put, List.setIfInBounds_toArray, List.set_cons_zero, List.set_cons_succ]
    refine wpAny_take (i := 11) (oi := ?oir27_11) (v := ?vr27_11) ?hir27_11 (by kernel_rfl) (by kernel_rfl) (by kernel_rfl) ?hqr27_11 ?hyr27_11 ?restr27_11
    case hir27_11 => simp only [List.getElem?_toArray, List.getElem?_cons_succ, List.getElem?_cons_zero]; rfl
    case hqr27_11 => exact fun _ _ _ h => h
    case hyr27_11 => (refine Or.inl ⟨by rfl, ?_⟩; intro w; go_simp; all_goals with_reducible rfl)
    try simp only [Act.put, List.setIfInBounds_toArray, List.set_cons_zero, List.set_cons_succ]
    refine wpAny_ready (rs := [12]) (by kernel_rfl) (by simp) ?_
    refine (AllReady.cons (o := ?ob26_12) ?hob26_12 (fun K hK => ?kb26_12) AllReady.nil)
    case hob26_12 => simp only [List.getElem?_toArray, List.getElem?_cons_succ, List.getElem?_cons_zero]; rfl
    case kb26_12 =>
      go_simp
      refine hK _ _ ?_
      clear hK K
      try simp only [Act.put, List.setIfInBounds_toArray, List.set_cons_zero, List.set_cons_succ]
      refine wpAny_done (by kernel_rfl) ?_ _
      have R0 : PRow 66 wb (w.setCell ⟨k, 3, none⟩ (.int .i64 (q.s0 + 1))) k (cmC (bumpC q (-2 : Int)) a n c b m d) := R.set 3 (.int .i64 (q.s0 + 1))
      have D0 := (Below.refl (w.setCell ⟨k, 3, none⟩ (.int .i64 (q.s0 + 1))).heap.size (w.setCell ⟨k, 3, none⟩ (.int .i64 (q.s0 + 1)))).drew
      have ra1 := (rd_setcell (i := 3) ra R.row (cm_noint _ _ _ _ _ _ _) (.int .i64 (q.s0 + 1))).below D0
      have rb1 := (rd_setcell (i := 3) rb R.row (cm_noint _ _ _ _ _ _ _) (.int .i64 (q.s0 + 1))).below D0
      have R1 := R0.later D0
      clear k0 k1 k2 k3 k4 k5 k6 k7 k8 k9 fr D0 R0 sv0 sv1 d2 wi
      generalize (w.setCell ⟨k, 3, none⟩ (.int .i64 (q.s0 + 1))).drew = w1 at *
      have k0 : w1.cell? ⟨k, 0, none⟩ = some (.int .i64 q.bet) := R1.cell 0 _ rfl
      have k1 : w1.cell? ⟨k, 1, none⟩ = some (.int .i64 q.ballots) := R1.cell 1 _ rfl
      have k2 : w1.cell? ⟨k, 2, none⟩ = some (.int .i64 q.margin) := R1.cell 2 _ rfl
      have k8 : w1.cell? ⟨k, 8, none⟩ = some (.slice a n c) := R1.cell 8 _ rfl
      have n1' : 1 ≤ q.ballots := vld.out.may.2.1.1
      have n2' : q.ballots ≤ 1000000 := vld.out.may.2.1.2
      have LP := Lib.hid vld.out.pw.1
      have LF := Lib.hid (show L * factC q (-2 : Int) < pw 96 from Nat.lt_of_lt_of_le (mul_lt_pw (show L < pw 5 from Nat.lt_of_le_of_lt (Nat.le_trans vld.out.le vld.out.hi) (by decide)) (show factC q (-2 : Int) < pw 2 from (fact_bd vld.out.may (by decide) (by decide)).1)) (pw_le (by decide)))
      go_upto_region 6 with fail
      have hb := (Below.refl w1.heap.size w1).drew
      have R1 := R1.later hb
      have ra1 := ra1.below hb
      have rb1 := rb1.below hb
      clear hb k0 k1 k2 k8
      refine wp_region_held_drew (S := (fun w' => w'.cell? ⟨k, 0, none⟩ = some (.int .i64 q.bet) ∧ w'.cell? ⟨k, 1, none⟩ = some (.int .i64 q.ballots) ∧ w'.cell? ⟨k, 2, none⟩ = some (.int .i64 q.margin) ∧ w'.cell? ⟨k, 8, none⟩ = some (.slice a n c))) (by kernel_rfl) ?_ (fun hHeld => ?_)
      · exact ⟨R1.cell 0 _ rfl, R1.cell 1 _ rfl, R1.cell 2 _ rfl, R1.cell 8 _ rfl⟩
      generalize w1.drew = w2 at *
      refine wpAnyH_take (i := 0) (oi := ?oir2_0) (v := ?vr2_0) ?hir2_0 (by kernel_rfl) (by kernel_rfl) (by kernel_rfl) ?hqr2_0 ?hyr2_0 (by assumption) ?restr2_0
      case hir2_0 => simp only [List.getElem?_toArray, List.getElem?_cons_succ, List.getElem?_cons_zero]; rfl
      case hqr2_0 => exact fun _ _ _ h => h
      case hyr2_0 => (refine Or.inl ⟨by rfl, ?_⟩; intro w hSw; (try dsimp only at hSw); go_simp; all_goals with_reducible rfl)
      try simp only [Act.put, List.setIfInBounds_toArray, List.set_cons_zero, List.set_cons_succ]
      refine wpAnyH_take (i := 1) (oi := ?oir2_1) (v := ?vr2_1) ?hir2_1 (by kernel_rfl) (by kernel_rfl) (by kernel_rfl) ?hqr2_1 ?hyr2_1 (by assumption) ?restr2_1
      case hir2_1 => simp only [List.getElem?_toArray, List.getElem?_cons_succ, List.getElem?_cons_zero]; rfl
      case hqr2_1 => exact fun _ _ _ h => h
      case hyr2_1 => (refine Or.inl ⟨by rfl, ?_⟩; intro w hSw; (try dsimp only at hSw); go_simp; all_goals with_reducible rfl)
      try simp only [Act.put, List.setIfInBounds_toArray, List.set_cons_zero, List.set_cons_succ]
      refine wpAnyH_take (i := 2) (oi := ?oir2_2) (v := ?vr2_2) ?hir2_2 (by kernel_rfl) (by kernel_rfl) (by kernel_rfl) ?hqr2_2 ?hyr2_2 (by assumption) ?restr2_2
      case hir2_2 => simp only [List.getElem?_toArray, List.getElem?_cons_succ, List.getElem?_cons_zero]; rfl
      case hqr2_2 => exact fun _ _ _ h => h
      case hyr2_2 => (refine Or.inl ⟨by rfl, ?_⟩; intro w hSw; (try dsimp only at hSw); go_simp; all_goals with_reducible rfl)
      try simp only [Act.put, List.setIfInBounds_toArray, List.set_cons_zero, List.set_cons_succ]
      refine wpAnyH_take (i := 3) (oi := ?oir2_3) (v := ?vr2_3) ?hir2_3 (by kernel_rfl) (by kernel_rfl) (by kernel_rfl) ?hqr2_3 ?hyr2_3 (by assumption) ?restr2_3
      case hir2_3 => simp only [List.getElem?_toArray, List.getElem?_cons_succ, List.getElem?_cons_zero]; rfl
      case hqr2_3 => exact fun _ _ _ h => h
      case hyr2_3 => (refine Or.inl ⟨by rfl, ?_⟩; intro w hSw; (try dsimp only at hSw); go_simp; all_goals with_reducible rfl)
      try simp only [Act.put, List.setIfInBounds_toArray, List.set_cons_zero, List.set_cons_succ]
      refine wpAnyH_take (i := 4) (oi := ?oir2_4) (v := ?vr2_4) ?hir2_4 (by kernel_rfl) (by kernel_rfl) (by kernel_rfl) ?hqr2_4 ?hyr2_4 (by assumption) ?restr2_4
      case hir2_4 => simp only [List.getElem?_toArray, List.getElem?_cons_succ, List.getElem?_cons_zero]; rfl
      case hqr2_4 => exact fun _ _ _ h => h
      case hyr2_4 => (refine Or.inl ⟨by rfl, ?_⟩; intro w hSw; (try dsimp only at hSw); go_simp; all_goals with_reducible rfl)
      try simp only [Act.put, List.setIfInBounds_toArray, List.set_cons_zero, List.set_cons_succ]
      refine wpAnyH_take (i := 5) (oi := ?oir2_5) (v := ?vr2_5) ?hir2_5 (by kernel_rfl) (by kernel_rfl) (by kernel_rfl) ?hqr2_5 ?hyr2_5 (by assumption) ?restr2_5
      case hir2_5 => simp only [List.getElem?_toArray, List.getElem?_cons_succ, List.getElem?_cons_zero]; rfl
      case hqr2_5 => exact fun _ _ _ h => h
      case hyr2_5 => (refine Or.inl ⟨by rfl, ?_⟩; intro w hSw; (try dsimp only at hSw); go_simp; all_goals with_reducible rfl)
      try simp only [Act.put, List.setIfInBounds_toArray, List.set_cons_zero, List.set_cons_succ]
      refine wpAnyH_take (i := 6) (oi := ?oir2_6) (v := ?vr2_6) ?hir2_6 (by kernel_rfl) (by kernel_rfl) (by kernel_rfl) ?hqr2_6 ?hyr2_6 (by assumption) ?restr2_6
      case hir2_6 => simp only [List.getElem?_toArray, List.getElem?_cons_succ, List.getElem?_cons_zero]; rfl
      case hqr2_6 => exact fun _ _ _ h => h
      case hyr2_6 => (refine Or.inl ⟨by rfl, ?_⟩; intro w hSw; (try dsimp only at hSw); go_simp; all_goals with_reducible rfl)
      try simp only [Act.put, List.setIfInBounds_toArray, List.set_cons_zero, List.set_cons_succ]
      refine wpAnyH_take (i := 7) (oi := ?oir2_7) (v := ?vr2_7) ?hir2_7 (by kernel_rfl) (by kernel_rfl) (by kernel_rfl) ?hqr2_7 ?hyr2_7 (by assumption) ?restr2_7
      case hir2_7 => simp only [List.getElem?_toArray, List.getElem?_cons_succ, List.getElem?_cons_zero]; rfl
      case hqr2_7 => exact fun _ _ _ h => h
      case hyr2_7 => (refine Or.inl ⟨by rfl, ?_⟩; intro w hSw; (try dsimp only at hSw); go_simp; all_goals with_reducible rfl)
      try simp only [Act.put, List.setIfInBounds_toArray, List.set_cons_zero, List.set_cons_succ]
      refine wpAnyH_take (i := 8) (oi := ?oir2_8) (v := ?vr2_8) ?hir2_8 (by kernel_rfl) (by kernel_rfl) (by kernel_rfl) ?hqr2_8 ?hyr2_8 (by assumption) ?restr2_8
      case hir2_8 => simp only [List.getElem?_toArray, List.getElem?_cons_succ, List.getElem?_cons_zero]; rfl
      case hqr2_8 => exact fun _ _ _ h => h
      case hyr2_8 => (refine Or.inl ⟨by rfl, ?_⟩; intro w hSw; (try dsimp only at hSw); go_simp; all_goals with_reducible rfl)
      try simp only [Act.put, List.setIfInBounds_toArray, List.set_cons_zero, List.set_cons_succ]
      refine wpAnyH_take (i := 9) (oi := ?oir2_9) (v := ?vr2_9) ?hir2_9 (by kernel_rfl) (by kernel_rfl) (by kernel_rfl) ?hqr2_9 ?hyr2_9 (by assumption) ?restr2_9
      case hir2_9 => simp only [List.getElem?_toArray, List.getElem?_cons_succ, List.getElem?_cons_zero]; rfl
      case hqr2_9 => exact fun _ _ _ h => h
      case hyr2_9 => (refine Or.inl ⟨by rfl, ?_⟩; intro w hSw; (try dsimp only at hSw); go_simp; all_goals with_reducible rfl)
      try simp only [Act.put, List.setIfInBounds_toArray, List.set_cons_zero, List.set_cons_succ]
      refine wpAnyH_take (i := 10) (oi := ?oir2_10) (v := ?vr2_10) ?hir2_10 (by kernel_rfl) (by kernel_rfl) (by kernel_rfl) ?hqr2_10 ?hyr2_10 (by assumption) ?restr2_10
      case hir2_10 => simp only [List.getElem?_toArray, List.getElem?_cons_succ, List.getElem?_cons_zero]; rfl
      case hqr2_10 => exact fun _ _ _ h => h
      case hyr2_10 => (refine Or.inl ⟨by rfl, ?_⟩; intro w hSw; (try dsimp only at hSw); go_simp; all_goals with_reducible rfl)
      try simp only [Act.put, List.setIfInBounds_toArray, List.set_cons_zero, List.set_cons_succ]
      refine wpAnyH_take (i := 11) (oi := ?oir2_11) (v := ?vr2_11) ?hir2_11 (by kernel_rfl) (by kernel_rfl) (by kernel_rfl) ?hqr2_11 ?hyr2_11 (by assumption) ?restr2_11
      case hir2_11 => simp only [List.getElem?_toArray, List.getElem?_cons_succ, List.getElem?_cons_zero]; rfl
      case hqr2_11 => exact fun _ _ _ h => h
      case hyr2_11 => (refine Or.inl ⟨by rfl, ?_⟩; intro w hSw; (try dsimp only at hSw); go_simp; all_goals with_reducible rfl)
      try simp only [Act.put, List.setIfInBounds_toArray, List.set_cons_zero, List.set_cons_succ]
      refine wpAnyH_take (i := 12) (oi := ?oir2_12) (v := ?vr2_12) ?hir2_12 (by kernel_rfl) (by kernel_rfl) (by kernel_rfl) ?hqr2_12 ?hyr2_12 (by assumption) ?restr2_12
      case hir2_12 => simp only [List.getElem?_toArray, List.getElem?_cons_succ, List.getElem?_cons_zero]; rfl
      case hqr2_12 => exact fun _ _ _ h => h
      case hyr2_12 => (refine Or.inl ⟨by rfl, ?_⟩; intro w hSw; (try dsimp only at hSw); go_simp; all_goals with_reducible rfl)
      try simp only [Act.put, List.setIfInBounds_toArray, List.set_cons_zero, List.set_cons_succ]
      refine wpAnyH_take (i := 13) (oi := ?oir2_13) (v := ?vr2_13) ?hir2_13 (by kernel_rfl) (by kernel_rfl) (by kernel_rfl) ?hqr2_13 ?hyr2_13 (by assumption) ?restr2_13
      case hir2_13 => simp only [List.getElem?_toArray, List.getElem?_cons_succ, List.getElem?_cons_zero]; rfl
      case hqr2_13 => exact fun _ _ _ h => h
      case hyr2_13 => (refine Or.inl ⟨by rfl, ?_⟩; intro w hSw; (try dsimp only at hSw); go_simp; all_goals with_reducible rfl)
      try simp only [Act.put, List.setIfInBounds_toArray, List.set_cons_zero, List.set_cons_succ]
      refine wpAnyH_take (i := 14) (oi := ?oir2_14) (v := ?vr2_14) ?hir2_14 (by kernel_rfl) (by kernel_rfl) (by kernel_rfl) ?hqr2_14 ?hyr2_14 (by assumption) ?restr2_14
      case hir2_14 => simp only [List.getElem?_toArray, List.getElem?_cons_succ, List.getElem?_cons_zero]; rfl
      case hqr2_14 => exact fun _ _ _ h => h
      case hyr2_14 => (refine Or.inl ⟨by rfl, ?_⟩; intro w hSw; (try dsimp only at hSw); go_simp; all_goals with_reducible rfl)
      try simp only [Act.put, List.setIfInBounds_toArray, List.set_cons_zero, List.set_cons_succ]
      refine wpAnyH_take (i := 15) (oi := ?oir2_15) (v := ?vr2_15) ?hir2_15 (by kernel_rfl) (by kernel_rfl) (by kernel_rfl) ?hqr2_15 ?hyr2_15 (by assumption) ?restr2_15
      case hir2_15 => simp only [List.getElem?_toArray, List.getElem?_cons_succ, List.getElem?_cons_zero]; rfl
      case hqr2_15 => exact fun _ _ _ h => h
      case hyr2_15 => (refine Or.inl ⟨by rfl, ?_⟩; intro w hSw; (try dsimp only at hSw); go_simp; all_goals with_reducible rfl)
      try simp only [Act.put, List.setIfInBounds_toArray, List.set_cons_zero, List.set_cons_succ]
      refine wpAnyH_take (i := 16) (oi := ?oir2_16) (v := ?vr2_16) ?hir2_16 (by kernel_rfl) (by kernel_rfl) (by kernel_rfl) ?hqr2_16 ?hyr2_16 (by assumption) ?restr2_16
      case hir2_16 => simp only [List.getElem?_toArray, List.getElem?_cons_succ, List.getElem?_cons_zero]; rfl
      case hqr2_16 => exact fun _ _ _ h => h
      case hyr2_16 => (refine Or.inl ⟨by rfl, ?_⟩; intro w hSw; (try dsimp only at hSw); go_simp; all_goals with_reducible rfl)
      try simp only [Act.put, List.setIfInBounds_toArray, List.set_cons_zero, List.set_cons_succ]
      refine wpAnyH_take (i := 17) (oi := ?oir2_17) (v := ?vr2_17) ?hir2_17 (by kernel_rfl) (by kernel_rfl) (by kernel_rfl) ?hqr2_17 ?hyr2_17 (by assumption) ?restr2_17
      case hir2_17 => simp only [List.getElem?_toArray, List.getElem?_cons_succ, List.getElem?_cons_zero]; rfl
      case hqr2_17 => exact fun _ _ _ h => h
      case hyr2_17 => (refine Or.inl ⟨by rfl, ?_⟩; intro w hSw; (try dsimp only at hSw); go_simp; all_goals with_reducible rfl)
      try simp only [Act.put, List.setIfInBounds_toArray, List.set_cons_zero, List.set_cons_succ]
      refine wpAnyH_take (i := 18) (oi := ?oir2_18) (v := ?vr2_18) ?hir2_18 (by kernel_rfl) (by kernel_rfl) (by kernel_rfl) ?hqr2_18 ?hyr2_18 (by assumption) ?restr2_18
      case hir2_18 => simp only [List.getElem?_toArray, List.getElem?_cons_succ, List.getElem?_cons_zero]; rfl
      case hqr2_18 => exact fun _ _ _ h => h
      case hyr2_18 => (refine Or.inl ⟨by rfl, ?_⟩; intro w hSw; (try dsimp only at hSw); go_simp; all_goals with_reducible rfl)
      try simp only [Act.put, List.setIfInBounds_toArray, List.set_cons_zero, List.set_cons_succ]
      refine wpAnyH_take (i := 19) (oi := ?oir2_19) (v := ?vr2_19) ?hir2_19 (by kernel_rfl) (by kernel_rfl) (by kernel_rfl) ?hqr2_19 ?hyr2_19 (by assumption) ?restr2_19
      case hir2_19 => simp only [List.getElem?_toArray, List.getElem?_cons_succ, List.getElem?_cons_zero]; rfl
      case hqr2_19 => exact fun _ _ _ h => h
      case hyr2_19 => (refine Or.inl ⟨by rfl, ?_⟩; intro w hSw; (try dsimp only at hSw); go_simp; all_goals with_reducible rfl)
      try simp only [Act.put, List.setIfInBounds_toArray, List.set_cons_zero, List.set_cons_succ]
      refine wpAnyH_take (i := 20) (oi := ?oir2_20) (v := ?vr2_20) ?hir2_20 (by kernel_rfl) (by kernel_rfl) (by kernel_rfl) ?hqr2_20 ?hyr2_20 (by assumption) ?restr2_20
      case hir2_20 => simp only [List.getElem?_toArray, List.getElem?_cons_succ, List.getElem?_cons_zero]; rfl
      case hqr2_20 => exact fun _ _ _ h => h
      case hyr2_20 => (refine Or.inl ⟨by rfl, ?_⟩; intro w hSw; (try dsimp only at hSw); go_simp; all_goals with_reducible rfl)
      try simp only [Act.put, List.setIfInBounds_toArray, List.set_cons_zero, List.set_cons_succ]
      refine wpAnyH_take (i := 21) (oi := ?oir2_21) (v := ?vr2_21) ?hir2_21 (by kernel_rfl) (by kernel_rfl) (by kernel_rfl) ?hqr2_21 ?hyr2_21 (by assumption) ?restr2_21
      case hir2_21 => simp only [List.getElem?_toArray, List.getElem?_cons_succ, List.getElem?_cons_zero]; rfl
      case hqr2_21 => exact fun _ _ _ h => h
      case hyr2_21 => (refine Or.inl ⟨by rfl, ?_⟩; intro w hSw; (try dsimp only at hSw); go_simp; all_goals with_reducible rfl)
      try simp only [Act.put, List.setIfInBounds_toArray, List.set_cons_zero, List.set_cons_succ]
      refine wpAnyH_take (i := 22) (oi := ?oir2_22) (v := ?vr2_22) ?hir2_22 (by kernel_rfl) (by kernel_rfl) (by kernel_rfl) ?hqr2_22 ?hyr2_22 (by assumption) ?restr2_22
      case hir2_22 => simp only [List.getElem?_toArray, List.getElem?_cons_succ, List.getElem?_cons_zero]; rfl
      case hqr2_22 => exact fun _ _ _ h => h
      case hyr2_22 => (refine Or.inl ⟨by rfl, ?_⟩; intro w hSw; (try dsimp only at hSw); go_simp; all_goals with_reducible rfl)
      try simp only [Act.put, List.setIfInBounds_toArray, List.set_cons_zero, List.set_cons_succ]
      refine wpAnyH_take (i := 23) (oi := ?oir2_23) (v := ?vr2_23) ?hir2_23 (by kernel_rfl) (by kernel_rfl) (by kernel_rfl) ?hqr2_23 ?hyr2_23 (by assumption) ?restr2_23
      case hir2_23 => simp only [List.getElem?_toArray, List.getElem?_cons_succ, List.getElem?_cons_zero]; rfl
      case hqr2_23 => exact fun _ _ _ h => h
      case hyr2_23 => (refine Or.inl ⟨by rfl, ?_⟩; intro w hSw; (try dsimp only at hSw); go_simp; all_goals with_reducible rfl)
      try simp only [Act.put, List.setIfInBounds_toArray, List.set_cons_zero, List.set_cons_succ]
      refine wpAnyH_take (i := 24) (oi := ?oir2_24) (v := ?vr2_24) ?hir2_24 (by kernel_rfl) (by kernel_rfl) (by kernel_rfl) ?hqr2_24 ?hyr2_24 (by assumption) ?restr2_24
      case hir2_24 => simp only [List.getElem?_toArray, List.getElem?_cons_succ, List.getElem?_cons_zero]; rfl
      case hqr2_24 => exact fun _ _ _ h => h
      case hyr2_24 => (refine Or.inl ⟨by rfl, ?_⟩; intro w hSw; (try dsimp only at hSw); go_simp; all_goals with_reducible rfl)
      try simp only [Act.put, List.setIfInBounds_toArray, List.set_cons_zero, List.set_cons_succ]
      refine wpAnyH_take (i := 25) (oi := ?oir2_25) (v := ?vr2_25) ?hir2_25 (by kernel_rfl) (by kernel_rfl) (by kernel_rfl) ?hqr2_25 ?hyr2_25 (by assumption) ?restr2_25
      case hir2_25 => simp only [List.getElem?_toArray, List.getElem?_cons_succ, List.getElem?_cons_zero]; rfl
      case hqr2_25 => exact fun _ _ _ h => h
      case hyr2_25 => (refine Or.inl ⟨by rfl, ?_⟩; intro w hSw; (try dsimp only at hSw); go_simp; all_goals with_reducible rfl)
      try simp only [Act.put, List.setIfInBounds_toArray, List.set_cons_zero, List.set_cons_succ]
      refine wpAnyH_take (i := 26) (oi := ?oir2_26) (v := ?vr2_26) ?hir2_26 (by kernel_rfl) (by kernel_rfl) (by kernel_rfl) ?hqr2_26 ?hyr2_26 (by assumption) ?restr2_26
      case hir2_26 => simp only [List.getElem?_toArray, List.getElem?_cons_succ, List.getElem?_cons_zero]; rfl
      case hqr2_26 => exact fun _ _ _ h => h
      case hyr2_26 => (refine Or.inl ⟨by rfl, ?_⟩; intro w hSw; (try dsimp only at hSw); go_simp; all_goals with_reducible rfl)
      try simp only [Act.put, List.setIfInBounds_toArray, List.set_cons_zero, List.set_cons_succ]
      have SF := see_fact vld.out.may (x := (-2 : Int)) (Y := -2 * q.ballots) (by decide) (by decide) (by omega)
      rw [SF]
      clear SF
      refine wpAnyH_ready (rs := [27]) (by kernel_rfl) (by simp) ?_
      refine AllReadyH.cons (o := ?or3_27) ?hor3_27 (fun K hK => ?kr3_27) AllReadyH.nil
      case hor3_27 => simp only [List.getElem?_toArray, List.getElem?_cons_succ, List.getElem?_cons_zero]; rfl
      go_simp
      refine (Of_any w2 (factC q (-2 : Int)) (fact_bd vld.out.may (by decide) (by decide)).1).mono ?_
      rintro e2 w3 ⟨af, nf, cf, rfl, yf, hb⟩
      have R1 := R1.later hb
      have ra1 := ra1.below hb
      have rb1 := rb1.below hb
      clear hb
      go_wp2_with fail
      refine hK.out _ _ ?_ (fun hHeld => ?_)
      · exact ⟨R1.cell 0 _ rfl, R1.cell 1 _ rfl, R1.cell 2 _ rfl, R1.cell 8 _ rfl⟩
      clear hK K
      try simp only [Act.put, List.setIfInBounds_toArray, List.set_cons_zero, List.set_cons_succ]
      refine wpAnyH_ready (rs := [28]) (by kernel_rfl) (by simp) ?_
      refine AllReadyH.cons (o := ?or4_28) ?hor4_28 (fun K hK => ?kr4_28) AllReadyH.nil
      case hor4_28 => simp only [List.getElem?_toArray, List.getElem?_cons_succ, List.getElem?_cons_zero]; rfl
      go_simp
      have cc := Mul_any w3 ra1 yf
      rw [mul_ok LP.out (Nat.lt_of_lt_of_le (show factC q (-2 : Int) < pw 2 from (fact_bd vld.out.may (by decide) (by decide)).1) (pw_le (by decide))) LF.out] at cc
      refine cc.mono ?_
      rintro e2 w4 ⟨ax, nx, cx, rfl, yx, hb⟩
      clear cc
      have R1 := R1.later hb
      have ra1 := ra1.below hb
      have rb1 := rb1.below hb
      clear hb yf
      go_wp2_with fail
      refine hK.out _ _ ?_ (fun hHeld => ?_)
      · exact ⟨R1.cell 0 _ rfl, R1.cell 1 _ rfl, R1.cell 2 _ rfl, R1.cell 8 _ rfl⟩
      clear hK K
      try simp only [Act.put, List.setIfInBounds_toArray, List.set_cons_zero, List.set_cons_succ]
      refine wpAnyH_take (i := 29) (oi := ?oir5_29) (v := ?vr5_29) ?hir5_29 (by kernel_rfl) (by kernel_rfl) (by kernel_rfl) ?hqr5_29 ?hyr5_29 (by assumption) ?restr5_29
      case hir5_29 => simp only [List.getElem?_toArray, List.getElem?_cons_succ, List.getElem?_cons_zero]; rfl
      case hqr5_29 => exact fun _ _ _ h => h
      case hyr5_29 => (refine Or.inl ⟨by rfl, ?_⟩; intro w hSw; (try dsimp only at hSw); go_simp; all_goals with_reducible rfl)
      try simp only [Act.put, List.setIfInBounds_toArray, List.set_cons_zero, List.set_cons_succ]
      refine wpAnyH_take (i := 30) (oi := ?oir5_30) (v := ?vr5_30) ?hir5_30 (by kernel_rfl) (by kernel_rfl) (by kernel_rfl) ?hqr5_30 ?hyr5_30 (by assumption) ?restr5_30
      case hir5_30 => simp only [List.getElem?_toArray, List.getElem?_cons_succ, List.getElem?_cons_zero]; rfl
      case hqr5_30 => exact fun _ _ _ h => h
      case hyr5_30 => (refine Or.inl ⟨by rfl, ?_⟩; intro w hSw; (try dsimp only at hSw); go_simp; all_goals with_reducible rfl)
      try simp only [Act.put, List.setIfInBounds_toArray, List.set_cons_zero, List.set_cons_succ]
      refine wpAnyH_take (i := 31) (oi := ?oir5_31) (v := ?vr5_31) ?hir5_31 (by kernel_rfl) (by kernel_rfl) (by kernel_rfl) ?hqr5_31 ?hyr5_31 (by assumption) ?restr5_31
      case hir5_31 => simp only [List.getElem?_toArray, List.getElem?_cons_succ, List.getElem?_cons_zero]; rfl
      case hqr5_31 => exact fun _ _ _ h => h
      case hyr5_31 => (refine Or.inl ⟨by rfl, ?_⟩; intro w hSw; (try dsimp only at hSw); go_simp; all_goals with_reducible rfl)
      try simp only [Act.put, List.setIfInBounds_toArray, List.set_cons_zero, List.set_cons_succ]
      refine wpAnyH_take (i := 32) (oi := ?oir5_32) (v := ?vr5_32) ?hir5_32 (by kernel_rfl) (by kernel_rfl) (by kernel_rfl) ?hqr5_32 ?hyr5_32 (by assumption) ?restr5_32
      case hir5_32 => simp only [List.getElem?_toArray, List.getElem?_cons_succ, List.getElem?_cons_zero]; rfl
      case hqr5_32 => exact fun _ _ _ h => h
      case hyr5_32 => (refine Or.inl ⟨by rfl, ?_⟩; intro w hSw; (try dsimp only at hSw); go_simp; all_goals with_reducible rfl)
      try simp only [Act.put, List.setIfInBounds_toArray, List.set_cons_zero, List.set_cons_succ]
      refine wpAnyH_take (i := 33) (oi := ?oir5_33) (v := ?vr5_33) ?hir5_33 (by kernel_rfl) (by kernel_rfl) (by kernel_rfl) ?hqr5_33 ?hyr5_33 (by assumption) ?restr5_33
      case hir5_33 => simp only [List.getElem?_toArray, List.getElem?_cons_succ, List.getElem?_cons_zero]; rfl
      case hqr5_33 => exact fun _ _ _ h => h
      case hyr5_33 => (refine Or.inl ⟨by rfl, ?_⟩; intro w hSw; (try dsimp only at hSw); go_simp; all_goals with_reducible rfl)
      try simp only [Act.put, List.setIfInBounds_toArray, List.set_cons_zero, List.set_cons_succ]
      refine wpAnyH_done (by kernel_rfl) ?_ _
      clear hHeld
      have cW := see_whole vld.out.may
      go_wp2_with fail
      refine (Of_any w4 (wholeC q) (fact_bd vld.out.may (x := 0) (by decide) (by decide)).2).mono ?_
      rintro e2 w5 ⟨ay, ny, cy, rfl, yy, hb⟩
      have R1 := R1.later hb
      have ra1 := ra1.below hb
      have rb1 := rb1.below hb
      have yx := yx.below hb
      clear hb
      go_wp2_with fail
      have cc := Div_any w5 yx yy
      rw [div_ok LF.out (Nat.lt_of_lt_of_le (show wholeC q < pw 2 from (fact_bd vld.out.may (x := 0) (by decide) (by decide)).2) (pw_le (by decide))) (fact_whole vld.out.may).2] at cc
      refine cc.mono ?_
      rintro e2 w6 ⟨az, nz, cz, ar, nr, cr, rfl, yz, -, hb⟩
      clear cc
      have R1 := R1.later hb
      have ra1 := ra1.below hb
      have rb1 := rb1.below hb
      clear hb yx yy
      have fr8 := R1.free 8
      have k8 := R1.cell 8 _ rfl
      have R2 : PRow 66 wb (w6.setCell ⟨k, 8, none⟩ (.slice az nz cz)) k (cmC (bumpC q (-2 : Int)) az nz cz b m d) := R1.set 8 (.slice az nz cz)
      have yz := rd_setcell (i := 8) yz R1.row (cm_noint _ _ _ _ _ _ _) (.slice az nz cz)
      have rb1 := rd_setcell (i := 8) rb1 R1.row (cm_noint _ _ _ _ _ _ _) (.slice az nz cz)
      clear ra1 R1
      go_upto_region 8 with fail
      clear fr8 k8 cW n1' n2'
      generalize w6.setCell ⟨k, 8, none⟩ (.slice az nz cz) = w7 at *
      by_cases hD : (L * factC q (-2 : Int) / wholeC q) ≤ mostN
      · have NX := Lib.hid (show nextC q L (-2 : Int) = (L * factC q (-2 : Int) / wholeC q) by unfold nextC timesN; exact Nat.min_eq_left hD)
        have DL := Lib.hid (show leC (limbs (L * factC q (-2 : Int) / wholeC q)) [0, 0, 0, 0, 1] = true by rw [← most_limbs, leC_ok (Nat.lt_of_le_of_lt hD most_pw) most_pw]; exact decide_eq_true hD)
        clear hD
        have hb := (Below.refl w7.heap.size w7).drew
        have R2 := R2.later hb
        have yz := yz.below hb
        have rb1 := rb1.below hb
        clear hb
        refine wp_region_held_drew (S := (fun w' => w'.cell? ⟨k, 8, none⟩ = some (.slice az nz cz) ∧ True)) (by kernel_rfl) ?_ (fun hHeld => ?_)
        · exact ⟨R2.cell 8 _ rfl, trivial⟩
        generalize w7.drew = w8 at *
        refine wpAnyH_take (i := 0) (oi := ?oir6_0) (v := ?vr6_0) ?hir6_0 (by kernel_rfl) (by kernel_rfl) (by kernel_rfl) ?hqr6_0 ?hyr6_0 (by assumption) ?restr6_0
        case hir6_0 => simp only [List.getElem?_toArray, List.getElem?_cons_succ, List.getElem?_cons_zero]; rfl
        case hqr6_0 => exact fun _ _ _ h => h
        case hyr6_0 => (refine Or.inl ⟨by rfl, ?_⟩; intro w hSw; (try dsimp only at hSw); go_simp; all_goals with_reducible rfl)
        try simp only [Act.put, List.setIfInBounds_toArray, List.set_cons_zero, List.set_cons_succ]
        refine wpAnyH_take (i := 1) (oi := ?oir6_1) (v := ?vr6_1) ?hir6_1 (by kernel_rfl) (by kernel_rfl) (by kernel_rfl) ?hqr6_1 ?hyr6_1 (by assumption) ?restr6_1
        case hir6_1 => simp only [List.getElem?_toArray, List.getElem?_cons_succ, List.getElem?_cons_zero]; rfl
        case hqr6_1 => exact fun _ _ _ h => h
        case hyr6_1 => (refine Or.inl ⟨by rfl, ?_⟩; intro w hSw; (try dsimp only at hSw); go_simp; all_goals with_reducible rfl)
        try simp only [Act.put, List.setIfInBounds_toArray, List.set_cons_zero, List.set_cons_succ]
        refine wpAnyH_take (i := 2) (oi := ?oir6_2) (v := ?vr6_2) ?hir6_2 (by kernel_rfl) (by kernel_rfl) (by kernel_rfl) ?hqr6_2 ?hyr6_2 (by assumption) ?restr6_2
        case hir6_2 => simp only [List.getElem?_toArray, List.getElem?_cons_succ, List.getElem?_cons_zero]; rfl
        case hqr6_2 => exact fun _ _ _ h => h
        case hyr6_2 => (refine Or.inl ⟨by rfl, ?_⟩; intro w hSw; (try dsimp only at hSw); go_simp; all_goals with_reducible rfl)
        try simp only [Act.put, List.setIfInBounds_toArray, List.set_cons_zero, List.set_cons_succ]
        refine wpAnyH_take (i := 3) (oi := ?oir6_3) (v := ?vr6_3) ?hir6_3 (by kernel_rfl) (by kernel_rfl) (by kernel_rfl) ?hqr6_3 ?hyr6_3 (by assumption) ?restr6_3
        case hir6_3 => simp only [List.getElem?_toArray, List.getElem?_cons_succ, List.getElem?_cons_zero]; rfl
        case hqr6_3 => exact fun _ _ _ h => h
        case hyr6_3 => (refine Or.inl ⟨by rfl, ?_⟩; intro w hSw; (try dsimp only at hSw); go_simp; all_goals with_reducible rfl)
        try simp only [Act.put, List.setIfInBounds_toArray, List.set_cons_zero, List.set_cons_succ]
        refine wpAnyH_take (i := 4) (oi := ?oir6_4) (v := ?vr6_4) ?hir6_4 (by kernel_rfl) (by kernel_rfl) (by kernel_rfl) ?hqr6_4 ?hyr6_4 (by assumption) ?restr6_4
        case hir6_4 => simp only [List.getElem?_toArray, List.getElem?_cons_succ, List.getElem?_cons_zero]; rfl
        case hqr6_4 => exact fun _ _ _ h => h
        case hyr6_4 => (refine Or.inl ⟨by rfl, ?_⟩; intro w hSw; (try dsimp only at hSw); go_simp; all_goals with_reducible rfl)
        try simp only [Act.put, List.setIfInBounds_toArray, List.set_cons_zero, List.set_cons_succ]
        refine wpAnyH_ready (rs := [5]) (by kernel_rfl) (by simp) ?_
        refine AllReadyH.cons (o := ?or7_5) ?hor7_5 (fun K hK => ?kr7_5) AllReadyH.nil
        case hor7_5 => simp only [List.getElem?_toArray, List.getElem?_cons_succ, List.getElem?_cons_zero]; rfl
        go_simp
        refine (cmMost_any w8).mono ?_
        rintro e2 w9 ⟨am, nm, cm, rfl, ym, hb⟩
        have R2 := R2.later hb
        have yz := yz.below hb
        have rb1 := rb1.below hb
        clear hb
        go_wp2_with fail
        refine hK.out _ _ ?_ (fun hHeld => ?_)
        · exact ⟨R2.cell 8 _ rfl, trivial⟩
        clear hK K
        try simp only [Act.put, List.setIfInBounds_toArray, List.set_cons_zero, List.set_cons_succ]
        refine wpAnyH_ready (rs := [6]) (by kernel_rfl) (by simp) ?_
        refine AllReadyH.cons (o := ?or8_6) ?hor8_6 (fun K hK => ?kr8_6) AllReadyH.nil
        case hor8_6 => simp only [List.getElem?_toArray, List.getElem?_cons_succ, List.getElem?_cons_zero]; rfl
        go_simp
        have cc := cmAtMost_any w9 yz ym
        rw [DL.out] at cc
        refine cc.mono ?_
        rintro e2 wA ⟨rfl, hb⟩
        clear cc
        have R2 := R2.later hb
        have yz := yz.below hb
        have rb1 := rb1.below hb
        clear hb ym
        go_wp2_with fail
        refine hK.out _ _ ?_ (fun hHeld => ?_)
        · exact ⟨R2.cell 8 _ rfl, trivial⟩
        clear hK K
        try simp only [Act.put, List.setIfInBounds_toArray, List.set_cons_zero, List.set_cons_succ]
        refine wpAnyH_take (i := 7) (oi := ?oir9_7) (v := ?vr9_7) ?hir9_7 (by kernel_rfl) (by kernel_rfl) (by kernel_rfl) ?hqr9_7 ?hyr9_7 (by assumption) ?restr9_7
        case hir9_7 => simp only [List.getElem?_toArray, List.getElem?_cons_succ, List.getElem?_cons_zero]; rfl
        case hqr9_7 => exact fun _ _ _ h => h
        case hyr9_7 => (refine Or.inl ⟨by rfl, ?_⟩; intro w hSw; (try dsimp only at hSw); go_simp; all_goals with_reducible rfl)
        try simp only [Act.put, List.setIfInBounds_toArray, List.set_cons_zero, List.set_cons_succ]
        refine wpAnyH_done (by kernel_rfl) ?_ _
        clear hHeld
        rw [← NX.out] at yz
        by_cases hB : nextC q L (-2 : Int) ≤ B
        · have BL := Lib.hid (show leC (limbs (nextC q L (-2 : Int))) (limbs B) = true by rw [leC_ok nextC_lt vld.out.pw.2]; exact decide_eq_true hB)
          have HB := Lib.hid hB
          clear hB
          go_upto_region 10 with fail
          have hb := (Below.refl wA.heap.size wA).drew
          have R2 := R2.later hb
          have yz := yz.below hb
          have rb1 := rb1.below hb
          clear hb
          refine wp_region_held_drew (S := (fun w' => w'.cell? ⟨k, 8, none⟩ = some (.slice az nz cz) ∧ w'.cell? ⟨k, 9, none⟩ = some (.slice b m d))) (by kernel_rfl) ?_ (fun hHeld => ?_)
          · exact ⟨R2.cell 8 _ rfl, R2.cell 9 _ rfl⟩
          generalize wA.drew = wD at *
          refine wpAnyH_take (i := 0) (oi := ?oir10_0) (v := ?vr10_0) ?hir10_0 (by kernel_rfl) (by kernel_rfl) (by kernel_rfl) ?hqr10_0 ?hyr10_0 (by assumption) ?restr10_0
          case hir10_0 => simp only [List.getElem?_toArray, List.getElem?_cons_succ, List.getElem?_cons_zero]; rfl
          case hqr10_0 => exact fun _ _ _ h => h
          case hyr10_0 => (refine Or.inl ⟨by rfl, ?_⟩; intro w hSw; (try dsimp only at hSw); go_simp; all_goals with_reducible rfl)
          try simp only [Act.put, List.setIfInBounds_toArray, List.set_cons_zero, List.set_cons_succ]
          refine wpAnyH_take (i := 1) (oi := ?oir10_1) (v := ?vr10_1) ?hir10_1 (by kernel_rfl) (by kernel_rfl) (by kernel_rfl) ?hqr10_1 ?hyr10_1 (by assumption) ?restr10_1
          case hir10_1 => simp only [List.getElem?_toArray, List.getElem?_cons_succ, List.getElem?_cons_zero]; rfl
          case hqr10_1 => exact fun _ _ _ h => h
          case hyr10_1 => (refine Or.inl ⟨by rfl, ?_⟩; intro w hSw; (try dsimp only at hSw); go_simp; all_goals with_reducible rfl)
          try simp only [Act.put, List.setIfInBounds_toArray, List.set_cons_zero, List.set_cons_succ]
          refine wpAnyH_take (i := 2) (oi := ?oir10_2) (v := ?vr10_2) ?hir10_2 (by kernel_rfl) (by kernel_rfl) (by kernel_rfl) ?hqr10_2 ?hyr10_2 (by assumption) ?restr10_2
          case hir10_2 => simp only [List.getElem?_toArray, List.getElem?_cons_succ, List.getElem?_cons_zero]; rfl
          case hqr10_2 => exact fun _ _ _ h => h
          case hyr10_2 => (refine Or.inl ⟨by rfl, ?_⟩; intro w hSw; (try dsimp only at hSw); go_simp; all_goals with_reducible rfl)
          try simp only [Act.put, List.setIfInBounds_toArray, List.set_cons_zero, List.set_cons_succ]
          refine wpAnyH_take (i := 3) (oi := ?oir10_3) (v := ?vr10_3) ?hir10_3 (by kernel_rfl) (by kernel_rfl) (by kernel_rfl) ?hqr10_3 ?hyr10_3 (by assumption) ?restr10_3
          case hir10_3 => simp only [List.getElem?_toArray, List.getElem?_cons_succ, List.getElem?_cons_zero]; rfl
          case hqr10_3 => exact fun _ _ _ h => h
          case hyr10_3 => (refine Or.inl ⟨by rfl, ?_⟩; intro w hSw; (try dsimp only at hSw); go_simp; all_goals with_reducible rfl)
          try simp only [Act.put, List.setIfInBounds_toArray, List.set_cons_zero, List.set_cons_succ]
          refine wpAnyH_take (i := 4) (oi := ?oir10_4) (v := ?vr10_4) ?hir10_4 (by kernel_rfl) (by kernel_rfl) (by kernel_rfl) ?hqr10_4 ?hyr10_4 (by assumption) ?restr10_4
          case hir10_4 => simp only [List.getElem?_toArray, List.getElem?_cons_succ, List.getElem?_cons_zero]; rfl
          case hqr10_4 => exact fun _ _ _ h => h
          case hyr10_4 => (refine Or.inl ⟨by rfl, ?_⟩; intro w hSw; (try dsimp only at hSw); go_simp; all_goals with_reducible rfl)
          try simp only [Act.put, List.setIfInBounds_toArray, List.set_cons_zero, List.set_cons_succ]
          refine wpAnyH_take (i := 5) (oi := ?oir10_5) (v := ?vr10_5) ?hir10_5 (by kernel_rfl) (by kernel_rfl) (by kernel_rfl) ?hqr10_5 ?hyr10_5 (by assumption) ?restr10_5
          case hir10_5 => simp only [List.getElem?_toArray, List.getElem?_cons_succ, List.getElem?_cons_zero]; rfl
          case hqr10_5 => exact fun _ _ _ h => h
          case hyr10_5 => (refine Or.inl ⟨by rfl, ?_⟩; intro w hSw; (try dsimp only at hSw); go_simp; all_goals with_reducible rfl)
          try simp only [Act.put, List.setIfInBounds_toArray, List.set_cons_zero, List.set_cons_succ]
          refine wpAnyH_take (i := 6) (oi := ?oir10_6) (v := ?vr10_6) ?hir10_6 (by kernel_rfl) (by kernel_rfl) (by kernel_rfl) ?hqr10_6 ?hyr10_6 (by assumption) ?restr10_6
          case hir10_6 => simp only [List.getElem?_toArray, List.getElem?_cons_succ, List.getElem?_cons_zero]; rfl
          case hqr10_6 => exact fun _ _ _ h => h
          case hyr10_6 => (refine Or.inl ⟨by rfl, ?_⟩; intro w hSw; (try dsimp only at hSw); go_simp; all_goals with_reducible rfl)
          try simp only [Act.put, List.setIfInBounds_toArray, List.set_cons_zero, List.set_cons_succ]
          refine wpAnyH_take (i := 7) (oi := ?oir10_7) (v := ?vr10_7) ?hir10_7 (by kernel_rfl) (by kernel_rfl) (by kernel_rfl) ?hqr10_7 ?hyr10_7 (by assumption) ?restr10_7
          case hir10_7 => simp only [List.getElem?_toArray, List.getElem?_cons_succ, List.getElem?_cons_zero]; rfl
          case hqr10_7 => exact fun _ _ _ h => h
          case hyr10_7 => (refine Or.inl ⟨by rfl, ?_⟩; intro w hSw; (try dsimp only at hSw); go_simp; all_goals with_reducible rfl)
          try simp only [Act.put, List.setIfInBounds_toArray, List.set_cons_zero, List.set_cons_succ]
          refine wpAnyH_take (i := 8) (oi := ?oir10_8) (v := ?vr10_8) ?hir10_8 (by kernel_rfl) (by kernel_rfl) (by kernel_rfl) ?hqr10_8 ?hyr10_8 (by assumption) ?restr10_8
          case hir10_8 => simp only [List.getElem?_toArray, List.getElem?_cons_succ, List.getElem?_cons_zero]; rfl
          case hqr10_8 => exact fun _ _ _ h => h
          case hyr10_8 => (refine Or.inl ⟨by rfl, ?_⟩; intro w hSw; (try dsimp only at hSw); go_simp; all_goals with_reducible rfl)
          try simp only [Act.put, List.setIfInBounds_toArray, List.set_cons_zero, List.set_cons_succ]
          refine wpAnyH_take (i := 9) (oi := ?oir10_9) (v := ?vr10_9) ?hir10_9 (by kernel_rfl) (by kernel_rfl) (by kernel_rfl) ?hqr10_9 ?hyr10_9 (by assumption) ?restr10_9
          case hir10_9 => simp only [List.getElem?_toArray, List.getElem?_cons_succ, List.getElem?_cons_zero]; rfl
          case hqr10_9 => exact fun _ _ _ h => h
          case hyr10_9 => (refine Or.inl ⟨by rfl, ?_⟩; intro w hSw; (try dsimp only at hSw); go_simp; all_goals with_reducible rfl)
          try simp only [Act.put, List.setIfInBounds_toArray, List.set_cons_zero, List.set_cons_succ]
          refine wpAnyH_ready (rs := [10]) (by kernel_rfl) (by simp) ?_
          refine AllReadyH.cons (o := ?or11_10) ?hor11_10 (fun K hK => ?kr11_10) AllReadyH.nil
          case hor11_10 => simp only [List.getElem?_toArray, List.getElem?_cons_succ, List.getElem?_cons_zero]; rfl
          go_simp
          have cc := cmAtMost_any wD yz rb1
          rw [BL.out] at cc
          refine cc.mono ?_
          rintro e2 wE ⟨rfl, hb⟩
          clear cc
          have R2 := R2.later hb
          have yz := yz.below hb
          have rb1 := rb1.below hb
          clear hb
          go_wp2_with fail
          refine hK.out _ _ ?_ (fun hHeld => ?_)
          · exact ⟨R2.cell 8 _ rfl, R2.cell 9 _ rfl⟩
          clear hK K
          try simp only [Act.put, List.setIfInBounds_toArray, List.set_cons_zero, List.set_cons_succ]
          refine wpAnyH_take (i := 11) (oi := ?oir12_11) (v := ?vr12_11) ?hir12_11 (by kernel_rfl) (by kernel_rfl) (by kernel_rfl) ?hqr12_11 ?hyr12_11 (by assumption) ?restr12_11
          case hir12_11 => simp only [List.getElem?_toArray, List.getElem?_cons_succ, List.getElem?_cons_zero]; rfl
          case hqr12_11 => exact fun _ _ _ h => h
          case hyr12_11 => (refine Or.inl ⟨by rfl, ?_⟩; intro w hSw; (try dsimp only at hSw); go_simp; all_goals with_reducible rfl)
          try simp only [Act.put, List.setIfInBounds_toArray, List.set_cons_zero, List.set_cons_succ]
          refine wpAnyH_done (by kernel_rfl) ?_ _
          clear hHeld
          go_wp2_with fail
          go_ret
          refine .inr ⟨_, _, _, _, _, _, e.out, rfl, R2, ?_, ?_⟩
          · rw [(show (stepC q (-2 : Int)).lev = limbs (nextC q L (-2 : Int)) by show limbs (nextC q (val q.lev) (-2 : Int)) = _; rw [vld.out.lev, val_limbs])]; exact yz
          · rw [(show (stepC q (-2 : Int)).best = limbs B by show limbs (max (val q.best) (nextC q (val q.lev) (-2 : Int))) = _; rw [vld.out.lev, vld.out.best, val_limbs, val_limbs, Nat.max_eq_left HB.out])]; exact rb1
        · have BL := Lib.hid (show leC (limbs (nextC q L (-2 : Int))) (limbs B) = false by rw [leC_ok nextC_lt vld.out.pw.2]; exact decide_eq_false hB)
          have HB := Lib.hid hB
          clear hB
          go_upto_region 10 with fail
          have hb := (Below.refl wA.heap.size wA).drew
          have R2 := R2.later hb
          have yz := yz.below hb
          have rb1 := rb1.below hb
          clear hb
          refine wp_region_held_drew (S := (fun w' => w'.cell? ⟨k, 8, none⟩ = some (.slice az nz cz) ∧ w'.cell? ⟨k, 9, none⟩ = some (.slice b m d))) (by kernel_rfl) ?_ (fun hHeld => ?_)
          · exact ⟨R2.cell 8 _ rfl, R2.cell 9 _ rfl⟩
          generalize wA.drew = wD at *
          refine wpAnyH_take (i := 0) (oi := ?oir13_0) (v := ?vr13_0) ?hir13_0 (by kernel_rfl) (by kernel_rfl) (by kernel_rfl) ?hqr13_0 ?hyr13_0 (by assumption) ?restr13_0
          case hir13_0 => simp only [List.getElem?_toArray, List.getElem?_cons_succ, List.getElem?_cons_zero]; rfl
          case hqr13_0 => exact fun _ _ _ h => h
          case hyr13_0 => (refine Or.inl ⟨by rfl, ?_⟩; intro w hSw; (try dsimp only at hSw); go_simp; all_goals with_reducible rfl)
          try simp only [Act.put, List.setIfInBounds_toArray, List.set_cons_zero, List.set_cons_succ]
          refine wpAnyH_take (i := 1) (oi := ?oir13_1) (v := ?vr13_1) ?hir13_1 (by kernel_rfl) (by kernel_rfl) (by kernel_rfl) ?hqr13_1 ?hyr13_1 (by assumption) ?restr13_1
          case hir13_1 => simp only [List.getElem?_toArray, List.getElem?_cons_succ, List.getElem?_cons_zero]; rfl
          case hqr13_1 => exact fun _ _ _ h => h
          case hyr13_1 => (refine Or.inl ⟨by rfl, ?_⟩; intro w hSw; (try dsimp only at hSw); go_simp; all_goals with_reducible rfl)
          try simp only [Act.put, List.setIfInBounds_toArray, List.set_cons_zero, List.set_cons_succ]
          refine wpAnyH_take (i := 2) (oi := ?oir13_2) (v := ?vr13_2) ?hir13_2 (by kernel_rfl) (by kernel_rfl) (by kernel_rfl) ?hqr13_2 ?hyr13_2 (by assumption) ?restr13_2
          case hir13_2 => simp only [List.getElem?_toArray, List.getElem?_cons_succ, List.getElem?_cons_zero]; rfl
          case hqr13_2 => exact fun _ _ _ h => h
          case hyr13_2 => (refine Or.inl ⟨by rfl, ?_⟩; intro w hSw; (try dsimp only at hSw); go_simp; all_goals with_reducible rfl)
          try simp only [Act.put, List.setIfInBounds_toArray, List.set_cons_zero, List.set_cons_succ]
          refine wpAnyH_take (i := 3) (oi := ?oir13_3) (v := ?vr13_3) ?hir13_3 (by kernel_rfl) (by kernel_rfl) (by kernel_rfl) ?hqr13_3 ?hyr13_3 (by assumption) ?restr13_3
          case hir13_3 => simp only [List.getElem?_toArray, List.getElem?_cons_succ, List.getElem?_cons_zero]; rfl
          case hqr13_3 => exact fun _ _ _ h => h
          case hyr13_3 => (refine Or.inl ⟨by rfl, ?_⟩; intro w hSw; (try dsimp only at hSw); go_simp; all_goals with_reducible rfl)
          try simp only [Act.put, List.setIfInBounds_toArray, List.set_cons_zero, List.set_cons_succ]
          refine wpAnyH_take (i := 4) (oi := ?oir13_4) (v := ?vr13_4) ?hir13_4 (by kernel_rfl) (by kernel_rfl) (by kernel_rfl) ?hqr13_4 ?hyr13_4 (by assumption) ?restr13_4
          case hir13_4 => simp only [List.getElem?_toArray, List.getElem?_cons_succ, List.getElem?_cons_zero]; rfl
          case hqr13_4 => exact fun _ _ _ h => h
          case hyr13_4 => (refine Or.inl ⟨by rfl, ?_⟩; intro w hSw; (try dsimp only at hSw); go_simp; all_goals with_reducible rfl)
          try simp only [Act.put, List.setIfInBounds_toArray, List.set_cons_zero, List.set_cons_succ]
          refine wpAnyH_take (i := 5) (oi := ?oir13_5) (v := ?vr13_5) ?hir13_5 (by kernel_rfl) (by kernel_rfl) (by kernel_rfl) ?hqr13_5 ?hyr13_5 (by assumption) ?restr13_5
          case hir13_5 => simp only [List.getElem?_toArray, List.getElem?_cons_succ, List.getElem?_cons_zero]; rfl
          case hqr13_5 => exact fun _ _ _ h => h
          case hyr13_5 => (refine Or.inl ⟨by rfl, ?_⟩; intro w hSw; (try dsimp only at hSw); go_simp; all_goals with_reducible rfl)
          try simp only [Act.put, List.setIfInBounds_toArray, List.set_cons_zero, List.set_cons_succ]
          refine wpAnyH_take (i := 6) (oi := ?oir13_6) (v := ?vr13_6) ?hir13_6 (by kernel_rfl) (by kernel_rfl) (by kernel_rfl) ?hqr13_6 ?hyr13_6 (by assumption) ?restr13_6
          case hir13_6 => simp only [List.getElem?_toArray, List.getElem?_cons_succ, List.getElem?_cons_zero]; rfl
          case hqr13_6 => exact fun _ _ _ h => h
          case hyr13_6 => (refine Or.inl ⟨by rfl, ?_⟩; intro w hSw; (try dsimp only at hSw); go_simp; all_goals with_reducible rfl)
          try simp only [Act.put, List.setIfInBounds_toArray, List.set_cons_zero, List.set_cons_succ]
          refine wpAnyH_take (i := 7) (oi := ?oir13_7) (v := ?vr13_7) ?hir13_7 (by kernel_rfl) (by kernel_rfl) (by kernel_rfl) ?hqr13_7 ?hyr13_7 (by assumption) ?restr13_7
          case hir13_7 => simp only [List.getElem?_toArray, List.getElem?_cons_succ, List.getElem?_cons_zero]; rfl
          case hqr13_7 => exact fun _ _ _ h => h
          case hyr13_7 => (refine Or.inl ⟨by rfl, ?_⟩; intro w hSw; (try dsimp only at hSw); go_simp; all_goals with_reducible rfl)
          try simp only [Act.put, List.setIfInBounds_toArray, List.set_cons_zero, List.set_cons_succ]
          refine wpAnyH_take (i := 8) (oi := ?oir13_8) (v := ?vr13_8) ?hir13_8 (by kernel_rfl) (by kernel_rfl) (by kernel_rfl) ?hqr13_8 ?hyr13_8 (by assumption) ?restr13_8
          case hir13_8 => simp only [List.getElem?_toArray, List.getElem?_cons_succ, List.getElem?_cons_zero]; rfl
          case hqr13_8 => exact fun _ _ _ h => h
          case hyr13_8 => (refine Or.inl ⟨by rfl, ?_⟩; intro w hSw; (try dsimp only at hSw); go_simp; all_goals with_reducible rfl)
          try simp only [Act.put, List.setIfInBounds_toArray, List.set_cons_zero, List.set_cons_succ]
          refine wpAnyH_take (i := 9) (oi := ?oir13_9) (v := ?vr13_9) ?hir13_9 (by kernel_rfl) (by kernel_rfl) (by kernel_rfl) ?hqr13_9 ?hyr13_9 (by assumption) ?restr13_9
          case hir13_9 => simp only [List.getElem?_toArray, List.getElem?_cons_succ, List.getElem?_cons_zero]; rfl
          case hqr13_9 => exact fun _ _ _ h => h
          case hyr13_9 => (refine Or.inl ⟨by rfl, ?_⟩; intro w hSw; (try dsimp only at hSw); go_simp; all_goals with_reducible rfl)
          try simp only [Act.put, List.setIfInBounds_toArray, List.set_cons_zero, List.set_cons_succ]
          refine wpAnyH_ready (rs := [10]) (by kernel_rfl) (by simp) ?_
          refine AllReadyH.cons (o := ?or14_10) ?hor14_10 (fun K hK => ?kr14_10) AllReadyH.nil
          case hor14_10 => simp only [List.getElem?_toArray, List.getElem?_cons_succ, List.getElem?_cons_zero]; rfl
          go_simp
          have cc := cmAtMost_any wD yz rb1
          rw [BL.out] at cc
          refine cc.mono ?_
          rintro e2 wE ⟨rfl, hb⟩
          clear cc
          have R2 := R2.later hb
          have yz := yz.below hb
          have rb1 := rb1.below hb
          clear hb
          go_wp2_with fail
          refine hK.out _ _ ?_ (fun hHeld => ?_)
          · exact ⟨R2.cell 8 _ rfl, R2.cell 9 _ rfl⟩
          clear hK K
          try simp only [Act.put, List.setIfInBounds_toArray, List.set_cons_zero, List.set_cons_succ]
          refine wpAnyH_take (i := 11) (oi := ?oir15_11) (v := ?vr15_11) ?hir15_11 (by kernel_rfl) (by kernel_rfl) (by kernel_rfl) ?hqr15_11 ?hyr15_11 (by assumption) ?restr15_11
          case hir15_11 => simp only [List.getElem?_toArray, List.getElem?_cons_succ, List.getElem?_cons_zero]; rfl
          case hqr15_11 => exact fun _ _ _ h => h
          case hyr15_11 => (refine Or.inl ⟨by rfl, ?_⟩; intro w hSw; (try dsimp only at hSw); go_simp; all_goals with_reducible rfl)
          try simp only [Act.put, List.setIfInBounds_toArray, List.set_cons_zero, List.set_cons_succ]
          refine wpAnyH_done (by kernel_rfl) ?_ _
          clear hHeld
          have k8 : wE.cell? ⟨k, 8, none⟩ = some (.slice az nz cz) := R2.cell 8 _ rfl
          go_wp2_with fail
          refine (Clone_any wE yz (by have h1 := yz.len; have h2 := limbs_len_le (k := 96) (show nextC q L (-2 : Int) < pw 96 from Nat.lt_of_le_of_lt (Nat.min_le_right _ _) most_pw); omega)).mono ?_
          rintro e2 wF ⟨ak, nk, ck, rfl, yk, hb⟩
          have R2 := R2.later hb
          have yz := yz.below hb
          have rb1 := rb1.below hb
          clear hb k8
          have fr9 := R2.free 9
          have k9 := R2.cell 9 _ rfl
          have R4 : PRow 66 wb (wF.setCell ⟨k, 9, none⟩ (.slice ak nk ck)) k (cmC (bumpC q (-2 : Int)) az nz cz ak nk ck) := R2.set 9 (.slice ak nk ck)
          have yk := rd_setcell (i := 9) yk R2.row (cm_noint _ _ _ _ _ _ _) (.slice ak nk ck)
          have yl := rd_setcell (i := 9) yz R2.row (cm_noint _ _ _ _ _ _ _) (.slice ak nk ck)
          go_wp2_with fail
          go_ret
          refine .inr ⟨_, _, _, _, _, _, e.out, rfl, R4, ?_, ?_⟩
          · rw [(show (stepC q (-2 : Int)).lev = limbs (nextC q L (-2 : Int)) by show limbs (nextC q (val q.lev) (-2 : Int)) = _; rw [vld.out.lev, val_limbs])]; exact yl
          · rw [(show (stepC q (-2 : Int)).best = limbs (nextC q L (-2 : Int)) by show limbs (max (val q.best) (nextC q (val q.lev) (-2 : Int))) = _; rw [vld.out.lev, vld.out.best, val_limbs, val_limbs, Nat.max_eq_right (Nat.le_of_lt (Nat.lt_of_not_le HB.out))])]; exact yk
      · have NX := Lib.hid (show nextC q L (-2 : Int) = mostN by unfold nextC timesN; exact Nat.min_eq_right (Nat.le_of_lt (Nat.lt_of_not_le hD)))
        have DL := Lib.hid (show leC (limbs (L * factC q (-2 : Int) / wholeC q)) [0, 0, 0, 0, 1] = false by rw [← most_limbs, leC_ok (Nat.lt_of_le_of_lt (Nat.div_le_self _ _) LF.out) most_pw]; exact decide_eq_false hD)
        clear hD
        have hb := (Below.refl w7.heap.size w7).drew
        have R2 := R2.later hb
        have yz := yz.below hb
        have rb1 := rb1.below hb
        clear hb
        refine wp_region_held_drew (S := (fun w' => w'.cell? ⟨k, 8, none⟩ = some (.slice az nz cz) ∧ True)) (by kernel_rfl) ?_ (fun hHeld => ?_)
        · exact ⟨R2.cell 8 _ rfl, trivial⟩
        generalize w7.drew = w8 at *
        refine wpAnyH_take (i := 0) (oi := ?oir16_0) (v := ?vr16_0) ?hir16_0 (by kernel_rfl) (by kernel_rfl) (by kernel_rfl) ?hqr16_0 ?hyr16_0 (by assumption) ?restr16_0
        case hir16_0 => simp only [List.getElem?_toArray, List.getElem?_cons_succ, List.getElem?_cons_zero]; rfl
        case hqr16_0 => exact fun _ _ _ h => h
        case hyr16_0 => (refine Or.inl ⟨by rfl, ?_⟩; intro w hSw; (try dsimp only at hSw); go_simp; all_goals with_reducible rfl)
        try simp only [Act.put, List.setIfInBounds_toArray, List.set_cons_zero, List.set_cons_succ]
        refine wpAnyH_take (i := 1) (oi := ?oir16_1) (v := ?vr16_1) ?hir16_1 (by kernel_rfl) (by kernel_rfl) (by kernel_rfl) ?hqr16_1 ?hyr16_1 (by assumption) ?restr16_1
        case hir16_1 => simp only [List.getElem?_toArray, List.getElem?_cons_succ, List.getElem?_cons_zero]; rfl
        case hqr16_1 => exact fun _ _ _ h => h
        case hyr16_1 => (refine Or.inl ⟨by rfl, ?_⟩; intro w hSw; (try dsimp only at hSw); go_simp; all_goals with_reducible rfl)
        try simp only [Act.put, List.setIfInBounds_toArray, List.set_cons_zero, List.set_cons_succ]
        refine wpAnyH_take (i := 2) (oi := ?oir16_2) (v := ?vr16_2) ?hir16_2 (by kernel_rfl) (by kernel_rfl) (by kernel_rfl) ?hqr16_2 ?hyr16_2 (by assumption) ?restr16_2
        case hir16_2 => simp only [List.getElem?_toArray, List.getElem?_cons_succ, List.getElem?_cons_zero]; rfl
        case hqr16_2 => exact fun _ _ _ h => h
        case hyr16_2 => (refine Or.inl ⟨by rfl, ?_⟩; intro w hSw; (try dsimp only at hSw); go_simp; all_goals with_reducible rfl)
        try simp only [Act.put, List.setIfInBounds_toArray, List.set_cons_zero, List.set_cons_succ]
        refine wpAnyH_take (i := 3) (oi := ?oir16_3) (v := ?vr16_3) ?hir16_3 (by kernel_rfl) (by kernel_rfl) (by kernel_rfl) ?hqr16_3 ?hyr16_3 (by assumption) ?restr16_3
        case hir16_3 => simp only [List.getElem?_toArray, List.getElem?_cons_succ, List.getElem?_cons_zero]; rfl
        case hqr16_3 => exact fun _ _ _ h => h
        case hyr16_3 => (refine Or.inl ⟨by rfl, ?_⟩; intro w hSw; (try dsimp only at hSw); go_simp; all_goals with_reducible rfl)
        try simp only [Act.put, List.setIfInBounds_toArray, List.set_cons_zero, List.set_cons_succ]
        refine wpAnyH_take (i := 4) (oi := ?oir16_4) (v := ?vr16_4) ?hir16_4 (by kernel_rfl) (by kernel_rfl) (by kernel_rfl) ?hqr16_4 ?hyr16_4 (by assumption) ?restr16_4
        case hir16_4 => simp only [List.getElem?_toArray, List.getElem?_cons_succ, List.getElem?_cons_zero]; rfl
        case hqr16_4 => exact fun _ _ _ h => h
        case hyr16_4 => (refine Or.inl ⟨by rfl, ?_⟩; intro w hSw; (try dsimp only at hSw); go_simp; all_goals with_reducible rfl)
        try simp only [Act.put, List.setIfInBounds_toArray, List.set_cons_zero, List.set_cons_succ]
        refine wpAnyH_ready (rs := [5]) (by kernel_rfl) (by simp) ?_
        refine AllReadyH.cons (o := ?or17_5) ?hor17_5 (fun K hK => ?kr17_5) AllReadyH.nil
        case hor17_5 => simp only [List.getElem?_toArray, List.getElem?_cons_succ, List.getElem?_cons_zero]; rfl
        go_simp
        refine (cmMost_any w8).mono ?_
        rintro e2 w9 ⟨am, nm, cm, rfl, ym, hb⟩
        have R2 := R2.later hb
        have yz := yz.below hb
        have rb1 := rb1.below hb
        clear hb
        go_wp2_with fail
        refine hK.out _ _ ?_ (fun hHeld => ?_)
        · exact ⟨R2.cell 8 _ rfl, trivial⟩
        clear hK K
        try simp only [Act.put, List.setIfInBounds_toArray, List.set_cons_zero, List.set_cons_succ]
        refine wpAnyH_ready (rs := [6]) (by kernel_rfl) (by simp) ?_
        refine AllReadyH.cons (o := ?or18_6) ?hor18_6 (fun K hK => ?kr18_6) AllReadyH.nil
        case hor18_6 => simp only [List.getElem?_toArray, List.getElem?_cons_succ, List.getElem?_cons_zero]; rfl
        go_simp
        have cc := cmAtMost_any w9 yz ym
        rw [DL.out] at cc
        refine cc.mono ?_
        rintro e2 wA ⟨rfl, hb⟩
        clear cc
        have R2 := R2.later hb
        have yz := yz.below hb
        have rb1 := rb1.below hb
        clear hb ym
        go_wp2_with fail
        refine hK.out _ _ ?_ (fun hHeld => ?_)
        · exact ⟨R2.cell 8 _ rfl, trivial⟩
        clear hK K
        try simp only [Act.put, List.setIfInBounds_toArray, List.set_cons_zero, List.set_cons_succ]
        refine wpAnyH_take (i := 7) (oi := ?oir19_7) (v := ?vr19_7) ?hir19_7 (by kernel_rfl) (by kernel_rfl) (by kernel_rfl) ?hqr19_7 ?hyr19_7 (by assumption) ?restr19_7
        case hir19_7 => simp only [List.getElem?_toArray, List.getElem?_cons_succ, List.getElem?_cons_zero]; rfl
        case hqr19_7 => exact fun _ _ _ h => h
        case hyr19_7 => (refine Or.inl ⟨by rfl, ?_⟩; intro w hSw; (try dsimp only at hSw); go_simp; all_goals with_reducible rfl)
        try simp only [Act.put, List.setIfInBounds_toArray, List.set_cons_zero, List.set_cons_succ]
        refine wpAnyH_done (by kernel_rfl) ?_ _
        clear hHeld
        go_wp2_with fail
        refine (cmMost_any wA).mono ?_
        rintro e2 wB ⟨as', ns', cs', rfl, ys, hb⟩
        have R2 := R2.later hb
        have yz := yz.below hb
        have rb1 := rb1.below hb
        clear hb
        have fr8 := R2.free 8
        have k8 := R2.cell 8 _ rfl
        have R3 : PRow 66 wb (wB.setCell ⟨k, 8, none⟩ (.slice as' ns' cs')) k (cmC (bumpC q (-2 : Int)) as' ns' cs' b m d) := R2.set 8 (.slice as' ns' cs')
        have ys := rd_setcell (i := 8) ys R2.row (cm_noint _ _ _ _ _ _ _) (.slice as' ns' cs')
        have rb1 := rd_setcell (i := 8) rb1 R2.row (cm_noint _ _ _ _ _ _ _) (.slice as' ns' cs')
        clear R2 yz
        rw [← most_limbs, ← NX.out] at ys
        go_upto_region 10 with fail
        clear fr8 k8
        generalize wB.setCell ⟨k, 8, none⟩ (.slice as' ns' cs') = wC at *
        by_cases hB : nextC q L (-2 : Int) ≤ B
        · have BL := Lib.hid (show leC (limbs (nextC q L (-2 : Int))) (limbs B) = true by rw [leC_ok nextC_lt vld.out.pw.2]; exact decide_eq_true hB)
          have HB := Lib.hid hB
          clear hB
          have hb := (Below.refl wC.heap.size wC).drew
          have R3 := R3.later hb
          have ys := ys.below hb
          have rb1 := rb1.below hb
          clear hb
          refine wp_region_held_drew (S := (fun w' => w'.cell? ⟨k, 8, none⟩ = some (.slice as' ns' cs') ∧ w'.cell? ⟨k, 9, none⟩ = some (.slice b m d))) (by kernel_rfl) ?_ (fun hHeld => ?_)
          · exact ⟨R3.cell 8 _ rfl, R3.cell 9 _ rfl⟩
          generalize wC.drew = wD at *
          refine wpAnyH_take (i := 0) (oi := ?oir20_0) (v := ?vr20_0) ?hir20_0 (by kernel_rfl) (by kernel_rfl) (by kernel_rfl) ?hqr20_0 ?hyr20_0 (by assumption) ?restr20_0
          case hir20_0 => simp only [List.getElem?_toArray, List.getElem?_cons_succ, List.getElem?_cons_zero]; rfl
          case hqr20_0 => exact fun _ _ _ h => h
          case hyr20_0 => (refine Or.inl ⟨by rfl, ?_⟩; intro w hSw; (try dsimp only at hSw); go_simp; all_goals with_reducible rfl)
          try simp only [Act.put, List.setIfInBounds_toArray, List.set_cons_zero, List.set_cons_succ]
          refine wpAnyH_take (i := 1) (oi := ?oir20_1) (v := ?vr20_1) ?hir20_1 (by kernel_rfl) (by kernel_rfl) (by kernel_rfl) ?hqr20_1 ?hyr20_1 (by assumption) ?restr20_1
          case hir20_1 => simp only [List.getElem?_toArray, List.getElem?_cons_succ, List.getElem?_cons_zero]; rfl
          case hqr20_1 => exact fun _ _ _ h => h
          case hyr20_1 => (refine Or.inl ⟨by rfl, ?_⟩; intro w hSw; (try dsimp only at hSw); go_simp; all_goals with_reducible rfl)
          try simp only [Act.put, List.setIfInBounds_toArray, List.set_cons_zero, List.set_cons_succ]
          refine wpAnyH_take (i := 2) (oi := ?oir20_2) (v := ?vr20_2) ?hir20_2 (by kernel_rfl) (by kernel_rfl) (by kernel_rfl) ?hqr20_2 ?hyr20_2 (by assumption) ?restr20_2
          case hir20_2 => simp only [List.getElem?_toArray, List.getElem?_cons_succ, List.getElem?_cons_zero]; rfl
          case hqr20_2 => exact fun _ _ _ h => h
          case hyr20_2 => (refine Or.inl ⟨by rfl, ?_⟩; intro w hSw; (try dsimp only at hSw); go_simp; all_goals with_reducible rfl)
          try simp only [Act.put, List.setIfInBounds_toArray, List.set_cons_zero, List.set_cons_succ]
          refine wpAnyH_take (i := 3) (oi := ?oir20_3) (v := ?vr20_3) ?hir20_3 (by kernel_rfl) (by kernel_rfl) (by kernel_rfl) ?hqr20_3 ?hyr20_3 (by assumption) ?restr20_3
          case hir20_3 => simp only [List.getElem?_toArray, List.getElem?_cons_succ, List.getElem?_cons_zero]; rfl
          case hqr20_3 => exact fun _ _ _ h => h
          case hyr20_3 => (refine Or.inl ⟨by rfl, ?_⟩; intro w hSw; (try dsimp only at hSw); go_simp; all_goals with_reducible rfl)
          try simp only [Act.put, List.setIfInBounds_toArray, List.set_cons_zero, List.set_cons_succ]
          refine wpAnyH_take (i := 4) (oi := ?oir20_4) (v := ?vr20_4) ?hir20_4 (by kernel_rfl) (by kernel_rfl) (by kernel_rfl) ?hqr20_4 ?hyr20_4 (by assumption) ?restr20_4
          case hir20_4 => simp only [List.getElem?_toArray, List.getElem?_cons_succ, List.getElem?_cons_zero]; rfl
          case hqr20_4 => exact fun _ _ _ h => h
          case hyr20_4 => (refine Or.inl ⟨by rfl, ?_⟩; intro w hSw; (try dsimp only at hSw); go_simp; all_goals with_reducible rfl)
          try simp only [Act.put, List.setIfInBounds_toArray, List.set_cons_zero, List.set_cons_succ]
          refine wpAnyH_take (i := 5) (oi := ?oir20_5) (v := ?vr20_5) ?hir20_5 (by kernel_rfl) (by kernel_rfl) (by kernel_rfl) ?hqr20_5 ?hyr20_5 (by assumption) ?restr20_5
          case hir20_5 => simp only [List.getElem?_toArray, List.getElem?_cons_succ, List.getElem?_cons_zero]; rfl
          case hqr20_5 => exact fun _ _ _ h => h
          case hyr20_5 => (refine Or.inl ⟨by rfl, ?_⟩; intro w hSw; (try dsimp only at hSw); go_simp; all_goals with_reducible rfl)
          try simp only [Act.put, List.setIfInBounds_toArray, List.set_cons_zero, List.set_cons_succ]
          refine wpAnyH_take (i := 6) (oi := ?oir20_6) (v := ?vr20_6) ?hir20_6 (by kernel_rfl) (by kernel_rfl) (by kernel_rfl) ?hqr20_6 ?hyr20_6 (by assumption) ?restr20_6
          case hir20_6 => simp only [List.getElem?_toArray, List.getElem?_cons_succ, List.getElem?_cons_zero]; rfl
          case hqr20_6 => exact fun _ _ _ h => h
          case hyr20_6 => (refine Or.inl ⟨by rfl, ?_⟩; intro w hSw; (try dsimp only at hSw); go_simp; all_goals with_reducible rfl)
          try simp only [Act.put, List.setIfInBounds_toArray, List.set_cons_zero, List.set_cons_succ]
          refine wpAnyH_take (i := 7) (oi := ?oir20_7) (v := ?vr20_7) ?hir20_7 (by kernel_rfl) (by kernel_rfl) (by kernel_rfl) ?hqr20_7 ?hyr20_7 (by assumption) ?restr20_7
          case hir20_7 => simp only [List.getElem?_toArray, List.getElem?_cons_succ, List.getElem?_cons_zero]; rfl
          case hqr20_7 => exact fun _ _ _ h => h
          case hyr20_7 => (refine Or.inl ⟨by rfl, ?_⟩; intro w hSw; (try dsimp only at hSw); go_simp; all_goals with_reducible rfl)
          try simp only [Act.put, List.setIfInBounds_toArray, List.set_cons_zero, List.set_cons_succ]
          refine wpAnyH_take (i := 8) (oi := ?oir20_8) (v := ?vr20_8) ?hir20_8 (by kernel_rfl) (by kernel_rfl) (by kernel_rfl) ?hqr20_8 ?hyr20_8 (by assumption) ?restr20_8
          case hir20_8 => simp only [List.getElem?_toArray, List.getElem?_cons_succ, List.getElem?_cons_zero]; rfl
          case hqr20_8 => exact fun _ _ _ h => h
          case hyr20_8 => (refine Or.inl ⟨by rfl, ?_⟩; intro w hSw; (try dsimp only at hSw); go_simp; all_goals with_reducible rfl)
          try simp only [Act.put, List.setIfInBounds_toArray, List.set_cons_zero, List.set_cons_succ]
          refine wpAnyH_take (i := 9) (oi := ?oir20_9) (v := ?vr20_9) ?hir20_9 (by kernel_rfl) (by kernel_rfl) (by kernel_rfl) ?hqr20_9 ?hyr20_9 (by assumption) ?restr20_9
          case hir20_9 => simp only [List.getElem?_toArray, List.getElem?_cons_succ, List.getElem?_cons_zero]; rfl
          case hqr20_9 => exact fun _ _ _ h => h
          case hyr20_9 => (refine Or.inl ⟨by rfl, ?_⟩; intro w hSw; (try dsimp only at hSw); go_simp; all_goals with_reducible rfl)
          try simp only [Act.put, List.setIfInBounds_toArray, List.set_cons_zero, List.set_cons_succ]
          refine wpAnyH_ready (rs := [10]) (by kernel_rfl) (by simp) ?_
          refine AllReadyH.cons (o := ?or21_10) ?hor21_10 (fun K hK => ?kr21_10) AllReadyH.nil
          case hor21_10 => simp only [List.getElem?_toArray, List.getElem?_cons_succ, List.getElem?_cons_zero]; rfl
          go_simp
          have cc := cmAtMost_any wD ys rb1
          rw [BL.out] at cc
          refine cc.mono ?_
          rintro e2 wE ⟨rfl, hb⟩
          clear cc
          have R3 := R3.later hb
          have ys := ys.below hb
          have rb1 := rb1.below hb
          clear hb
          go_wp2_with fail
          refine hK.out _ _ ?_ (fun hHeld => ?_)
          · exact ⟨R3.cell 8 _ rfl, R3.cell 9 _ rfl⟩
          clear hK K
          try simp only [Act.put, List.setIfInBounds_toArray, List.set_cons_zero, List.set_cons_succ]
          refine wpAnyH_take (i := 11) (oi := ?oir22_11) (v := ?vr22_11) ?hir22_11 (by kernel_rfl) (by kernel_rfl) (by kernel_rfl) ?hqr22_11 ?hyr22_11 (by assumption) ?restr22_11
          case hir22_11 => simp only [List.getElem?_toArray, List.getElem?_cons_succ, List.getElem?_cons_zero]; rfl
          case hqr22_11 => exact fun _ _ _ h => h
          case hyr22_11 => (refine Or.inl ⟨by rfl, ?_⟩; intro w hSw; (try dsimp only at hSw); go_simp; all_goals with_reducible rfl)
          try simp only [Act.put, List.setIfInBounds_toArray, List.set_cons_zero, List.set_cons_succ]
          refine wpAnyH_done (by kernel_rfl) ?_ _
          clear hHeld
          go_wp2_with fail
          go_ret
          refine .inr ⟨_, _, _, _, _, _, e.out, rfl, R3, ?_, ?_⟩
          · rw [(show (stepC q (-2 : Int)).lev = limbs (nextC q L (-2 : Int)) by show limbs (nextC q (val q.lev) (-2 : Int)) = _; rw [vld.out.lev, val_limbs])]; exact ys
          · rw [(show (stepC q (-2 : Int)).best = limbs B by show limbs (max (val q.best) (nextC q (val q.lev) (-2 : Int))) = _; rw [vld.out.lev, vld.out.best, val_limbs, val_limbs, Nat.max_eq_left HB.out])]; exact rb1
        · have BL := Lib.hid (show leC (limbs (nextC q L (-2 : Int))) (limbs B) = false by rw [leC_ok nextC_lt vld.out.pw.2]; exact decide_eq_false hB)
          have HB := Lib.hid hB
          clear hB
          have hb := (Below.refl wC.heap.size wC).drew
          have R3 := R3.later hb
          have ys := ys.below hb
          have rb1 := rb1.below hb
          clear hb
          refine wp_region_held_drew (S := (fun w' => w'.cell? ⟨k, 8, none⟩ = some (.slice as' ns' cs') ∧ w'.cell? ⟨k, 9, none⟩ = some (.slice b m d))) (by kernel_rfl) ?_ (fun hHeld => ?_)
          · exact ⟨R3.cell 8 _ rfl, R3.cell 9 _ rfl⟩
          generalize wC.drew = wD at *
          refine wpAnyH_take (i := 0) (oi := ?oir23_0) (v := ?vr23_0) ?hir23_0 (by kernel_rfl) (by kernel_rfl) (by kernel_rfl) ?hqr23_0 ?hyr23_0 (by assumption) ?restr23_0
          case hir23_0 => simp only [List.getElem?_toArray, List.getElem?_cons_succ, List.getElem?_cons_zero]; rfl
          case hqr23_0 => exact fun _ _ _ h => h
          case hyr23_0 => (refine Or.inl ⟨by rfl, ?_⟩; intro w hSw; (try dsimp only at hSw); go_simp; all_goals with_reducible rfl)
          try simp only [Act.put, List.setIfInBounds_toArray, List.set_cons_zero, List.set_cons_succ]
          refine wpAnyH_take (i := 1) (oi := ?oir23_1) (v := ?vr23_1) ?hir23_1 (by kernel_rfl) (by kernel_rfl) (by kernel_rfl) ?hqr23_1 ?hyr23_1 (by assumption) ?restr23_1
          case hir23_1 => simp only [List.getElem?_toArray, List.getElem?_cons_succ, List.getElem?_cons_zero]; rfl
          case hqr23_1 => exact fun _ _ _ h => h
          case hyr23_1 => (refine Or.inl ⟨by rfl, ?_⟩; intro w hSw; (try dsimp only at hSw); go_simp; all_goals with_reducible rfl)
          try simp only [Act.put, List.setIfInBounds_toArray, List.set_cons_zero, List.set_cons_succ]
          refine wpAnyH_take (i := 2) (oi := ?oir23_2) (v := ?vr23_2) ?hir23_2 (by kernel_rfl) (by kernel_rfl) (by kernel_rfl) ?hqr23_2 ?hyr23_2 (by assumption) ?restr23_2
          case hir23_2 => simp only [List.getElem?_toArray, List.getElem?_cons_succ, List.getElem?_cons_zero]; rfl
          case hqr23_2 => exact fun _ _ _ h => h
          case hyr23_2 => (refine Or.inl ⟨by rfl, ?_⟩; intro w hSw; (try dsimp only at hSw); go_simp; all_goals with_reducible rfl)
          try simp only [Act.put, List.setIfInBounds_toArray, List.set_cons_zero, List.set_cons_succ]
          refine wpAnyH_take (i := 3) (oi := ?oir23_3) (v := ?vr23_3) ?hir23_3 (by kernel_rfl) (by kernel_rfl) (by kernel_rfl) ?hqr23_3 ?hyr23_3 (by assumption) ?restr23_3
          case hir23_3 => simp only [List.getElem?_toArray, List.getElem?_cons_succ, List.getElem?_cons_zero]; rfl
          case hqr23_3 => exact fun _ _ _ h => h
          case hyr23_3 => (refine Or.inl ⟨by rfl, ?_⟩; intro w hSw; (try dsimp only at hSw); go_simp; all_goals with_reducible rfl)
          try simp only [Act.put, List.setIfInBounds_toArray, List.set_cons_zero, List.set_cons_succ]
          refine wpAnyH_take (i := 4) (oi := ?oir23_4) (v := ?vr23_4) ?hir23_4 (by kernel_rfl) (by kernel_rfl) (by kernel_rfl) ?hqr23_4 ?hyr23_4 (by assumption) ?restr23_4
          case hir23_4 => simp only [List.getElem?_toArray, List.getElem?_cons_succ, List.getElem?_cons_zero]; rfl
          case hqr23_4 => exact fun _ _ _ h => h
          case hyr23_4 => (refine Or.inl ⟨by rfl, ?_⟩; intro w hSw; (try dsimp only at hSw); go_simp; all_goals with_reducible rfl)
          try simp only [Act.put, List.setIfInBounds_toArray, List.set_cons_zero, List.set_cons_succ]
          refine wpAnyH_take (i := 5) (oi := ?oir23_5) (v := ?vr23_5) ?hir23_5 (by kernel_rfl) (by kernel_rfl) (by kernel_rfl) ?hqr23_5 ?hyr23_5 (by assumption) ?restr23_5
          case hir23_5 => simp only [List.getElem?_toArray, List.getElem?_cons_succ, List.getElem?_cons_zero]; rfl
          case hqr23_5 => exact fun _ _ _ h => h
          case hyr23_5 => (refine Or.inl ⟨by rfl, ?_⟩; intro w hSw; (try dsimp only at hSw); go_simp; all_goals with_reducible rfl)
          try simp only [Act.put, List.setIfInBounds_toArray, List.set_cons_zero, List.set_cons_succ]
          refine wpAnyH_take (i := 6) (oi := ?oir23_6) (v := ?vr23_6) ?hir23_6 (by kernel_rfl) (by kernel_rfl) (by kernel_rfl) ?hqr23_6 ?hyr23_6 (by assumption) ?restr23_6
          case hir23_6 => simp only [List.getElem?_toArray, List.getElem?_cons_succ, List.getElem?_cons_zero]; rfl
          case hqr23_6 => exact fun _ _ _ h => h
          case hyr23_6 => (refine Or.inl ⟨by rfl, ?_⟩; intro w hSw; (try dsimp only at hSw); go_simp; all_goals with_reducible rfl)
          try simp only [Act.put, List.setIfInBounds_toArray, List.set_cons_zero, List.set_cons_succ]
          refine wpAnyH_take (i := 7) (oi := ?oir23_7) (v := ?vr23_7) ?hir23_7 (by kernel_rfl) (by kernel_rfl) (by kernel_rfl) ?hqr23_7 ?hyr23_7 (by assumption) ?restr23_7
          case hir23_7 => simp only [List.getElem?_toArray, List.getElem?_cons_succ, List.getElem?_cons_zero]; rfl
          case hqr23_7 => exact fun _ _ _ h => h
          case hyr23_7 => (refine Or.inl ⟨by rfl, ?_⟩; intro w hSw; (try dsimp only at hSw); go_simp; all_goals with_reducible rfl)
          try simp only [Act.put, List.setIfInBounds_toArray, List.set_cons_zero, List.set_cons_succ]
          refine wpAnyH_take (i := 8) (oi := ?oir23_8) (v := ?vr23_8) ?hir23_8 (by kernel_rfl) (by kernel_rfl) (by kernel_rfl) ?hqr23_8 ?hyr23_8 (by assumption) ?restr23_8
          case hir23_8 => simp only [List.getElem?_toArray, List.getElem?_cons_succ, List.getElem?_cons_zero]; rfl
          case hqr23_8 => exact fun _ _ _ h => h
          case hyr23_8 => (refine Or.inl ⟨by rfl, ?_⟩; intro w hSw; (try dsimp only at hSw); go_simp; all_goals with_reducible rfl)
          try simp only [Act.put, List.setIfInBounds_toArray, List.set_cons_zero, List.set_cons_succ]
          refine wpAnyH_take (i := 9) (oi := ?oir23_9) (v := ?vr23_9) ?hir23_9 (by kernel_rfl) (by kernel_rfl) (by kernel_rfl) ?hqr23_9 ?hyr23_9 (by assumption) ?restr23_9
          case hir23_9 => simp only [List.getElem?_toArray, List.getElem?_cons_succ, List.getElem?_cons_zero]; rfl
          case hqr23_9 => exact fun _ _ _ h => h
          case hyr23_9 => (refine Or.inl ⟨by rfl, ?_⟩; intro w hSw; (try dsimp only at hSw); go_simp; all_goals with_reducible rfl)
          try simp only [Act.put, List.setIfInBounds_toArray, List.set_cons_zero, List.set_cons_succ]
          refine wpAnyH_ready (rs := [10]) (by kernel_rfl) (by simp) ?_
          refine AllReadyH.cons (o := ?or24_10) ?hor24_10 (fun K hK => ?kr24_10) AllReadyH.nil
          case hor24_10 => simp only [List.getElem?_toArray, List.getElem?_cons_succ, List.getElem?_cons_zero]; rfl
          go_simp
          have cc := cmAtMost_any wD ys rb1
          rw [BL.out] at cc
          refine cc.mono ?_
          rintro e2 wE ⟨rfl, hb⟩
          clear cc
          have R3 := R3.later hb
          have ys := ys.below hb
          have rb1 := rb1.below hb
          clear hb
          go_wp2_with fail
          refine hK.out _ _ ?_ (fun hHeld => ?_)
          · exact ⟨R3.cell 8 _ rfl, R3.cell 9 _ rfl⟩
          clear hK K
          try simp only [Act.put, List.setIfInBounds_toArray, List.set_cons_zero, List.set_cons_succ]
          refine wpAnyH_take (i := 11) (oi := ?oir25_11) (v := ?vr25_11) ?hir25_11 (by kernel_rfl) (by kernel_rfl) (by kernel_rfl) ?hqr25_11 ?hyr25_11 (by assumption) ?restr25_11
          case hir25_11 => simp only [List.getElem?_toArray, List.getElem?_cons_succ, List.getElem?_cons_zero]; rfl
          case hqr25_11 => exact fun _ _ _ h => h
          case hyr25_11 => (refine Or.inl ⟨by rfl, ?_⟩; intro w hSw; (try dsimp only at hSw); go_simp; all_goals with_reducible rfl)
          try simp only [Act.put, List.setIfInBounds_toArray, List.set_cons_zero, List.set_cons_succ]
          refine wpAnyH_done (by kernel_rfl) ?_ _
          clear hHeld
          have k8 : wE.cell? ⟨k, 8, none⟩ = some (.slice as' ns' cs') := R3.cell 8 _ rfl
          go_wp2_with fail
          refine (Clone_any wE ys (by have h1 := ys.len; have h2 := limbs_len_le (k := 96) (show nextC q L (-2 : Int) < pw 96 from Nat.lt_of_le_of_lt (Nat.min_le_right _ _) most_pw); omega)).mono ?_
          rintro e2 wF ⟨ak, nk, ck, rfl, yk, hb⟩
          have R3 := R3.later hb
          have ys := ys.below hb
          have rb1 := rb1.below hb
          clear hb k8
          have fr9 := R3.free 9
          have k9 := R3.cell 9 _ rfl
          have R4 : PRow 66 wb (wF.setCell ⟨k, 9, none⟩ (.slice ak nk ck)) k (cmC (bumpC q (-2 : Int)) as' ns' cs' ak nk ck) := R3.set 9 (.slice ak nk ck)
          have yk := rd_setcell (i := 9) yk R3.row (cm_noint _ _ _ _ _ _ _) (.slice ak nk ck)
          have yl := rd_setcell (i := 9) ys R3.row (cm_noint _ _ _ _ _ _ _) (.slice ak nk ck)
          go_wp2_with fail
          go_ret
          refine .inr ⟨_, _, _, _, _, _, e.out, rfl, R4, ?_, ?_⟩
          · rw [(show (stepC q (-2 : Int)).lev = limbs (nextC q L (-2 : Int)) by show limbs (nextC q (val q.lev) (-2 : Int)) = _; rw [vld.out.lev, val_limbs])]; exact yl
          · rw [(show (stepC q (-2 : Int)).best = limbs (nextC q L (-2 : Int)) by show limbs (max (val q.best) (nextC q (val q.lev) (-2 : Int))) = _; rw [vld.out.lev, vld.out.best, val_limbs, val_limbs, Nat.max_eq_right (Nat.le_of_lt (Nat.lt_of_not_le HB.out))])]; exact yk

end Go.Proofs.Ytmkcdlhhbnakiaa
