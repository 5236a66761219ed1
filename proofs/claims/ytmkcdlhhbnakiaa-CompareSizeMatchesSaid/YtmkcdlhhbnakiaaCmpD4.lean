/- Observing the overstatement 2. -/
import Derived.Test.YtmkcdlhhbnakiaaCmpV
namespace Go.Proofs.Ytmkcdlhhbnakiaa
open Go.RowKit Go.Suf
set_option linter.unusedVariables false
set_option linter.unusedSimpArgs false

set_option maxRecDepth 100000 in
set_option maxHeartbeats 8000000 in
theorem see4_any (wb w : World) {q : CV} {a b : Option Addr} {n m c d k L B : Nat} (R : PRow 66 wb w k (cmC q a n c b m d)) (ra : Rd .u32 w a n c (limbs L)) (rb : Rd .u32 w b m d (limbs B)) (vld' : VldC q L B) :
    Calls Try.prog 42 #[.pointer (some ⟨k, 0, none⟩), .int .i64 (2)] w (RetSee wb k q (2)) := by
  have vld := Lib.hid vld'
  clear vld'
  have k0 := R.cell 0 _ rfl
  have k1 := R.cell 1 _ rfl
  have k2 := R.cell 2 _ rfl
  have k3 := R.cell 3 _ rfl
  have k4 := R.cell 4 _ rfl
  have k5 := R.cell 5 _ rfl
  have k6 := R.cell 6 _ rfl
  have k7 := R.cell 7 _ rfl
  have k8 := R.cell 8 _ rfl
  have k9 := R.cell 9 _ rfl
  have fr := R.free 7
  have HF := Lib.hid (show seenAtC q (2 : Int) = q.s4 from rfl)
  have sv := vld.out.s4
  unfold inS at sv
  by_cases full : q.s4 = 1000000
  · have e := Lib.hid (show obs1C q (2 : Int) = none from obs1C_out (.inr (.inr (by rw [HF.out]; omega))))
    have d2 : (q.s4 == 1000000) = true := beq_iff_eq.2 full
    clear full sv
    go_enter Try.func42, Try.ntmps42
    go_wp2_with fail
    have cc := within_any w (2 : Int) (-2) 2
    rw [decide_eq_true (show (-2 : Int) ≤ (2 : Int) ∧ (2 : Int) ≤ 2 by decide)] at cc
    refine cc.mono ?_
    rintro e1 w9 ⟨rfl, hw⟩
    have hw := hw.symm
    subst hw
    clear cc
    go_wp2_with fail
    go_ret
    exact .inl ⟨e.out, rfl, R.below⟩
  have d2 : (q.s4 == 1000000) = false := beq_eq_false_iff_ne.2 full
  have e := Lib.hid (show obs1C q (2 : Int) = some (stepC q (2 : Int)) from obs1C_in (by rw [HF.out]; omega))
  have sv1 : q.s4 < 1000000 := by omega
  have sv0 : 0 ≤ q.s4 := by omega
  have wi : IntKind.i64.wrap (q.s4 + 1) = q.s4 + 1 := wrap_in (by omega) (by omega)
  clear full sv
  go_enter Try.func42, Try.ntmps42
  go_wp2_with fail
  have cc := within_any w (2 : Int) (-2) 2
  rw [decide_eq_true (show (-2 : Int) ≤ (2 : Int) ∧ (2 : Int) ≤ 2 by decide)] at cc
  refine cc.mono ?_
  rintro e1 w9 ⟨rfl, hw⟩
  have hw := hw.symm
  subst hw
  clear cc
  go_upto_region 4 with fail
  refine wp_region_any (by kernel_rfl) ?_
  change wpAny _ _ _ _ _ _ _ (World.drew _)
  refine wpAny_take (i := 0) (oi := ?a113_0) (v := ?b113_0) ?c113_0 (by kernel_rfl) (by kernel_rfl) (by kernel_rfl) ?d113_0 ?e113_0 ?f113_0
  case c113_0 => simp only [tA, tS, tZ]; rfl
  case d113_0 => exact fun _ _ _ h => h
  case e113_0 => (refine Or.inl ⟨by rfl, ?_⟩; intro w; go_simp; all_goals with_reducible rfl)
  try simp only [Act.put, tI, tP, tQ]
  refine wpAny_take (i := 1) (oi := ?a113_1) (v := ?b113_1) ?c113_1 (by kernel_rfl) (by kernel_rfl) (by kernel_rfl) ?d113_1 ?e113_1 ?f113_1
  case c113_1 => simp only [tA, tS, tZ]; rfl
  case d113_1 => exact fun _ _ _ h => h
  case e113_1 => (refine Or.inl ⟨by rfl, ?_⟩; intro w; go_simp; all_goals with_reducible rfl)
  try simp only [Act.put, tI, tP, tQ]
  refine wpAny_take (i := 2) (oi := ?a113_2) (v := ?b113_2) ?c113_2 (by kernel_rfl) (by kernel_rfl) (by kernel_rfl) ?d113_2 ?e113_2 ?f113_2
  case c113_2 => simp only [tA, tS, tZ]; rfl
  case d113_2 => exact fun _ _ _ h => h
  case e113_2 => (refine Or.inl ⟨by rfl, ?_⟩; intro w; go_simp; all_goals with_reducible rfl)
  try simp only [Act.put, tI, tP, tQ]
  refine wpAny_take (i := 3) (oi := ?a113_3) (v := ?b113_3) ?c113_3 (by kernel_rfl) (by kernel_rfl) (by kernel_rfl) ?d113_3 ?e113_3 ?f113_3
  case c113_3 => simp only [tA, tS, tZ]; rfl
  case d113_3 => exact fun _ _ _ h => h
  case e113_3 => (refine Or.inl ⟨by rfl, ?_⟩; intro w; go_simp; all_goals with_reducible rfl)
  try simp only [Act.put, tI, tP, tQ]
  refine wpAny_take (i := 4) (oi := ?a113_4) (v := ?b113_4) ?c113_4 (by kernel_rfl) (by kernel_rfl) (by kernel_rfl) ?d113_4 ?e113_4 ?f113_4
  case c113_4 => simp only [tA, tS, tZ]; rfl
  case d113_4 => exact fun _ _ _ h => h
  case e113_4 => (refine Or.inl ⟨by rfl, ?_⟩; intro w; go_simp; all_goals with_reducible rfl)
  try simp only [Act.put, tI, tP, tQ]
  refine wpAny_take (i := 5) (oi := ?a113_5) (v := ?b113_5) ?c113_5 (by kernel_rfl) (by kernel_rfl) (by kernel_rfl) ?d113_5 ?e113_5 ?f113_5
  case c113_5 => simp only [tA, tS, tZ]; rfl
  case d113_5 => exact fun _ _ _ h => h
  case e113_5 => (refine Or.inl ⟨by rfl, ?_⟩; intro w; go_simp; all_goals with_reducible rfl)
  try simp only [Act.put, tI, tP, tQ]
  refine wpAny_take (i := 8) (oi := ?a113_8) (v := ?b113_8) ?c113_8 (by kernel_rfl) (by kernel_rfl) (by kernel_rfl) ?d113_8 ?e113_8 ?f113_8
  case c113_8 => simp only [tA, tS, tZ]; rfl
  case d113_8 => exact fun _ _ _ h => h
  case e113_8 => (refine Or.inl ⟨by rfl, ?_⟩; intro w; go_simp; all_goals with_reducible rfl)
  try simp only [Act.put, tI, tP, tQ]
  refine wpAny_take (i := 9) (oi := ?a113_9) (v := ?b113_9) ?c113_9 (by kernel_rfl) (by kernel_rfl) (by kernel_rfl) ?d113_9 ?e113_9 ?f113_9
  case c113_9 => simp only [tA, tS, tZ]; rfl
  case d113_9 => exact fun _ _ _ h => h
  case e113_9 => (refine Or.inl ⟨by rfl, ?_⟩; intro w; go_simp; all_goals with_reducible rfl)
  try simp only [Act.put, tI, tP, tQ]
  refine wpAny_take (i := 10) (oi := ?a113_10) (v := ?b113_10) ?c113_10 (by kernel_rfl) (by kernel_rfl) (by kernel_rfl) ?d113_10 ?e113_10 ?f113_10
  case c113_10 => simp only [tA, tS, tZ]; rfl
  case d113_10 => exact fun _ _ _ h => h
  case e113_10 => (refine Or.inl ⟨by rfl, ?_⟩; intro w; go_simp; all_goals with_reducible rfl)
  try simp only [Act.put, tI, tP, tQ]
  refine wpAny_ready (rs := [6]) (by kernel_rfl) (by simp) ?_
  refine (AllReady.cons (o := ?ob140_6) ?hob140_6 (fun K hK => ?kb140_6) AllReady.nil)
  case hob140_6 => simp only [List.getElem?_toArray, List.getElem?_cons_succ, List.getElem?_cons_zero]; rfl
  case kb140_6 =>
    go_simp
    refine hK _ _ ?_
    clear hK K
    try simp only [Act.put, List.setIfInBounds_toArray, List.set_cons_zero, List.set_cons_succ]
    refine wpAny_take (i := 7) (oi := ?a139_7) (v := ?b139_7) ?c139_7 (by kernel_rfl) (by kernel_rfl) (by kernel_rfl) ?d139_7 ?e139_7 ?f139_7
    case c139_7 => simp only [tA, tS, tZ]; rfl
    case d139_7 => exact fun _ _ _ h => h
    case e139_7 => (refine Or.inl ⟨by rfl, ?_⟩; intro w; go_simp; all_goals with_reducible rfl)
    try simp only [Act.put, tI, tP, tQ]
    refine wpAny_take (i := 11) (oi := ?a139_11) (v := ?b139_11) ?c139_11 (by kernel_rfl) (by kernel_rfl) (by kernel_rfl) ?d139_11 ?e139_11 ?f139_11
    case c139_11 => simp only [tA, tS, tZ]; rfl
    case d139_11 => exact fun _ _ _ h => h
    case e139_11 => (refine Or.inl ⟨by rfl, ?_⟩; intro w; go_simp; all_goals with_reducible rfl)
    try simp only [Act.put, tI, tP, tQ]
    refine wpAny_ready (rs := [12]) (by kernel_rfl) (by simp) ?_
    refine (AllReady.cons (o := ?ob138_12) ?hob138_12 (fun K hK => ?kb138_12) AllReady.nil)
    case hob138_12 => simp only [List.getElem?_toArray, List.getElem?_cons_succ, List.getElem?_cons_zero]; rfl
    case kb138_12 =>
      go_simp
      refine hK _ _ ?_
      clear hK K
      try simp only [Act.put, List.setIfInBounds_toArray, List.set_cons_zero, List.set_cons_succ]
      refine wpAny_done (by kernel_rfl) ?_ _
      have R0 : PRow 66 wb (w.setCell ⟨k, 7, none⟩ (.int .i64 (q.s4 + 1))) k (cmC (bumpC q (2 : Int)) a n c b m d) := R.set 7 (.int .i64 (q.s4 + 1))
      have D0 := (Below.refl (w.setCell ⟨k, 7, none⟩ (.int .i64 (q.s4 + 1))).heap.size (w.setCell ⟨k, 7, none⟩ (.int .i64 (q.s4 + 1)))).drew
      have ra1 := (rd_setcell (i := 7) ra R.row (cm_noint _ _ _ _ _ _ _) (.int .i64 (q.s4 + 1))).below D0
      have rb1 := (rd_setcell (i := 7) rb R.row (cm_noint _ _ _ _ _ _ _) (.int .i64 (q.s4 + 1))).below D0
      have R1 := R0.later D0
      clear k0 k1 k2 k3 k4 k5 k6 k7 k8 k9 fr D0 R0 sv0 sv1 d2 wi
      generalize (w.setCell ⟨k, 7, none⟩ (.int .i64 (q.s4 + 1))).drew = w1 at *
      have k0 : w1.cell? ⟨k, 0, none⟩ = some (.int .i64 q.bet) := R1.cell 0 _ rfl
      have k1 : w1.cell? ⟨k, 1, none⟩ = some (.int .i64 q.ballots) := R1.cell 1 _ rfl
      have k2 : w1.cell? ⟨k, 2, none⟩ = some (.int .i64 q.margin) := R1.cell 2 _ rfl
      have k8 : w1.cell? ⟨k, 8, none⟩ = some (.slice a n c) := R1.cell 8 _ rfl
      have n1' : 1 ≤ q.ballots := vld.out.may.2.1.1
      have n2' : q.ballots ≤ 1000000 := vld.out.may.2.1.2
      have LP := Lib.hid vld.out.pw.1
      have LF := Lib.hid (show L * factC q (2 : Int) < pw 96 from Nat.lt_of_lt_of_le (mul_lt_pw (show L < pw 5 from Nat.lt_of_le_of_lt (Nat.le_trans vld.out.le vld.out.hi) (by decide)) (show factC q (2 : Int) < pw 2 from (fact_bd vld.out.may (by decide) (by decide)).1)) (pw_le (by decide)))
      go_upto_region 6 with fail
      have hb := (Below.refl w1.heap.size w1).drew
      have R1 := R1.later hb
      have ra1 := ra1.below hb
      have rb1 := rb1.below hb
      clear hb k0 k1 k2 k8
      refine wp_region_held_drew (S := (fun w' => w'.cell? ⟨k, 0, none⟩ = some (.int .i64 q.bet) ∧ w'.cell? ⟨k, 1, none⟩ = some (.int .i64 q.ballots) ∧ w'.cell? ⟨k, 2, none⟩ = some (.int .i64 q.margin) ∧ w'.cell? ⟨k, 8, none⟩ = some (.slice a n c))) (by kernel_rfl) ?_ (fun hHeld => ?_)
      · exact ⟨R1.cell 0 _ rfl, R1.cell 1 _ rfl, R1.cell 2 _ rfl, R1.cell 8 _ rfl⟩
      generalize w1.drew = w2 at *
      refine wpAnyH_take (i := 0) (oi := ?a114_0) (v := ?b114_0) ?c114_0 (by kernel_rfl) (by kernel_rfl) (by kernel_rfl) ?d114_0 ?e114_0 (by assumption) ?f114_0
      case c114_0 => simp only [tA, tS, tZ]; rfl
      case d114_0 => exact fun _ _ _ h => h
      case e114_0 => (refine Or.inl ⟨by rfl, ?_⟩; intro w h; (try dsimp only at h); go_simp; all_goals with_reducible rfl)
      try simp only [Act.put, tI, tP, tQ]
      refine wpAnyH_take (i := 1) (oi := ?a114_1) (v := ?b114_1) ?c114_1 (by kernel_rfl) (by kernel_rfl) (by kernel_rfl) ?d114_1 ?e114_1 (by assumption) ?f114_1
      case c114_1 => simp only [tA, tS, tZ]; rfl
      case d114_1 => exact fun _ _ _ h => h
      case e114_1 => (refine Or.inl ⟨by rfl, ?_⟩; intro w h; (try dsimp only at h); go_simp; all_goals with_reducible rfl)
      try simp only [Act.put, tI, tP, tQ]
      refine wpAnyH_take (i := 2) (oi := ?a114_2) (v := ?b114_2) ?c114_2 (by kernel_rfl) (by kernel_rfl) (by kernel_rfl) ?d114_2 ?e114_2 (by assumption) ?f114_2
      case c114_2 => simp only [tA, tS, tZ]; rfl
      case d114_2 => exact fun _ _ _ h => h
      case e114_2 => (refine Or.inl ⟨by rfl, ?_⟩; intro w h; (try dsimp only at h); go_simp; all_goals with_reducible rfl)
      try simp only [Act.put, tI, tP, tQ]
      refine wpAnyH_take (i := 3) (oi := ?a114_3) (v := ?b114_3) ?c114_3 (by kernel_rfl) (by kernel_rfl) (by kernel_rfl) ?d114_3 ?e114_3 (by assumption) ?f114_3
      case c114_3 => simp only [tA, tS, tZ]; rfl
      case d114_3 => exact fun _ _ _ h => h
      case e114_3 => (refine Or.inl ⟨by rfl, ?_⟩; intro w h; (try dsimp only at h); go_simp; all_goals with_reducible rfl)
      try simp only [Act.put, tI, tP, tQ]
      refine wpAnyH_take (i := 4) (oi := ?a114_4) (v := ?b114_4) ?c114_4 (by kernel_rfl) (by kernel_rfl) (by kernel_rfl) ?d114_4 ?e114_4 (by assumption) ?f114_4
      case c114_4 => simp only [tA, tS, tZ]; rfl
      case d114_4 => exact fun _ _ _ h => h
      case e114_4 => (refine Or.inl ⟨by rfl, ?_⟩; intro w h; (try dsimp only at h); go_simp; all_goals with_reducible rfl)
      try simp only [Act.put, tI, tP, tQ]
      refine wpAnyH_take (i := 5) (oi := ?a114_5) (v := ?b114_5) ?c114_5 (by kernel_rfl) (by kernel_rfl) (by kernel_rfl) ?d114_5 ?e114_5 (by assumption) ?f114_5
      case c114_5 => simp only [tA, tS, tZ]; rfl
      case d114_5 => exact fun _ _ _ h => h
      case e114_5 => (refine Or.inl ⟨by rfl, ?_⟩; intro w h; (try dsimp only at h); go_simp; all_goals with_reducible rfl)
      try simp only [Act.put, tI, tP, tQ]
      refine wpAnyH_take (i := 6) (oi := ?a114_6) (v := ?b114_6) ?c114_6 (by kernel_rfl) (by kernel_rfl) (by kernel_rfl) ?d114_6 ?e114_6 (by assumption) ?f114_6
      case c114_6 => simp only [tA, tS, tZ]; rfl
      case d114_6 => exact fun _ _ _ h => h
      case e114_6 => (refine Or.inl ⟨by rfl, ?_⟩; intro w h; (try dsimp only at h); go_simp; all_goals with_reducible rfl)
      try simp only [Act.put, tI, tP, tQ]
      refine wpAnyH_take (i := 7) (oi := ?a114_7) (v := ?b114_7) ?c114_7 (by kernel_rfl) (by kernel_rfl) (by kernel_rfl) ?d114_7 ?e114_7 (by assumption) ?f114_7
      case c114_7 => simp only [tA, tS, tZ]; rfl
      case d114_7 => exact fun _ _ _ h => h
      case e114_7 => (refine Or.inl ⟨by rfl, ?_⟩; intro w h; (try dsimp only at h); go_simp; all_goals with_reducible rfl)
      try simp only [Act.put, tI, tP, tQ]
      refine wpAnyH_take (i := 8) (oi := ?a114_8) (v := ?b114_8) ?c114_8 (by kernel_rfl) (by kernel_rfl) (by kernel_rfl) ?d114_8 ?e114_8 (by assumption) ?f114_8
      case c114_8 => simp only [tA, tS, tZ]; rfl
      case d114_8 => exact fun _ _ _ h => h
      case e114_8 => (refine Or.inl ⟨by rfl, ?_⟩; intro w h; (try dsimp only at h); go_simp; all_goals with_reducible rfl)
      try simp only [Act.put, tI, tP, tQ]
      refine wpAnyH_take (i := 9) (oi := ?a114_9) (v := ?b114_9) ?c114_9 (by kernel_rfl) (by kernel_rfl) (by kernel_rfl) ?d114_9 ?e114_9 (by assumption) ?f114_9
      case c114_9 => simp only [tA, tS, tZ]; rfl
      case d114_9 => exact fun _ _ _ h => h
      case e114_9 => (refine Or.inl ⟨by rfl, ?_⟩; intro w h; (try dsimp only at h); go_simp; all_goals with_reducible rfl)
      try simp only [Act.put, tI, tP, tQ]
      refine wpAnyH_take (i := 10) (oi := ?a114_10) (v := ?b114_10) ?c114_10 (by kernel_rfl) (by kernel_rfl) (by kernel_rfl) ?d114_10 ?e114_10 (by assumption) ?f114_10
      case c114_10 => simp only [tA, tS, tZ]; rfl
      case d114_10 => exact fun _ _ _ h => h
      case e114_10 => (refine Or.inl ⟨by rfl, ?_⟩; intro w h; (try dsimp only at h); go_simp; all_goals with_reducible rfl)
      try simp only [Act.put, tI, tP, tQ]
      refine wpAnyH_take (i := 11) (oi := ?a114_11) (v := ?b114_11) ?c114_11 (by kernel_rfl) (by kernel_rfl) (by kernel_rfl) ?d114_11 ?e114_11 (by assumption) ?f114_11
      case c114_11 => simp only [tA, tS, tZ]; rfl
      case d114_11 => exact fun _ _ _ h => h
      case e114_11 => (refine Or.inl ⟨by rfl, ?_⟩; intro w h; (try dsimp only at h); go_simp; all_goals with_reducible rfl)
      try simp only [Act.put, tI, tP, tQ]
      refine wpAnyH_take (i := 12) (oi := ?a114_12) (v := ?b114_12) ?c114_12 (by kernel_rfl) (by kernel_rfl) (by kernel_rfl) ?d114_12 ?e114_12 (by assumption) ?f114_12
      case c114_12 => simp only [tA, tS, tZ]; rfl
      case d114_12 => exact fun _ _ _ h => h
      case e114_12 => (refine Or.inl ⟨by rfl, ?_⟩; intro w h; (try dsimp only at h); go_simp; all_goals with_reducible rfl)
      try simp only [Act.put, tI, tP, tQ]
      refine wpAnyH_take (i := 13) (oi := ?a114_13) (v := ?b114_13) ?c114_13 (by kernel_rfl) (by kernel_rfl) (by kernel_rfl) ?d114_13 ?e114_13 (by assumption) ?f114_13
      case c114_13 => simp only [tA, tS, tZ]; rfl
      case d114_13 => exact fun _ _ _ h => h
      case e114_13 => (refine Or.inl ⟨by rfl, ?_⟩; intro w h; (try dsimp only at h); go_simp; all_goals with_reducible rfl)
      try simp only [Act.put, tI, tP, tQ]
      refine wpAnyH_take (i := 14) (oi := ?a114_14) (v := ?b114_14) ?c114_14 (by kernel_rfl) (by kernel_rfl) (by kernel_rfl) ?d114_14 ?e114_14 (by assumption) ?f114_14
      case c114_14 => simp only [tA, tS, tZ]; rfl
      case d114_14 => exact fun _ _ _ h => h
      case e114_14 => (refine Or.inl ⟨by rfl, ?_⟩; intro w h; (try dsimp only at h); go_simp; all_goals with_reducible rfl)
      try simp only [Act.put, tI, tP, tQ]
      refine wpAnyH_take (i := 15) (oi := ?a114_15) (v := ?b114_15) ?c114_15 (by kernel_rfl) (by kernel_rfl) (by kernel_rfl) ?d114_15 ?e114_15 (by assumption) ?f114_15
      case c114_15 => simp only [tA, tS, tZ]; rfl
      case d114_15 => exact fun _ _ _ h => h
      case e114_15 => (refine Or.inl ⟨by rfl, ?_⟩; intro w h; (try dsimp only at h); go_simp; all_goals with_reducible rfl)
      try simp only [Act.put, tI, tP, tQ]
      refine wpAnyH_take (i := 16) (oi := ?a114_16) (v := ?b114_16) ?c114_16 (by kernel_rfl) (by kernel_rfl) (by kernel_rfl) ?d114_16 ?e114_16 (by assumption) ?f114_16
      case c114_16 => simp only [tA, tS, tZ]; rfl
      case d114_16 => exact fun _ _ _ h => h
      case e114_16 => (refine Or.inl ⟨by rfl, ?_⟩; intro w h; (try dsimp only at h); go_simp; all_goals with_reducible rfl)
      try simp only [Act.put, tI, tP, tQ]
      refine wpAnyH_take (i := 17) (oi := ?a114_17) (v := ?b114_17) ?c114_17 (by kernel_rfl) (by kernel_rfl) (by kernel_rfl) ?d114_17 ?e114_17 (by assumption) ?f114_17
      case c114_17 => simp only [tA, tS, tZ]; rfl
      case d114_17 => exact fun _ _ _ h => h
      case e114_17 => (refine Or.inl ⟨by rfl, ?_⟩; intro w h; (try dsimp only at h); go_simp; all_goals with_reducible rfl)
      try simp only [Act.put, tI, tP, tQ]
      refine wpAnyH_take (i := 18) (oi := ?a114_18) (v := ?b114_18) ?c114_18 (by kernel_rfl) (by kernel_rfl) (by kernel_rfl) ?d114_18 ?e114_18 (by assumption) ?f114_18
      case c114_18 => simp only [tA, tS, tZ]; rfl
      case d114_18 => exact fun _ _ _ h => h
      case e114_18 => (refine Or.inl ⟨by rfl, ?_⟩; intro w h; (try dsimp only at h); go_simp; all_goals with_reducible rfl)
      try simp only [Act.put, tI, tP, tQ]
      refine wpAnyH_take (i := 19) (oi := ?a114_19) (v := ?b114_19) ?c114_19 (by kernel_rfl) (by kernel_rfl) (by kernel_rfl) ?d114_19 ?e114_19 (by assumption) ?f114_19
      case c114_19 => simp only [tA, tS, tZ]; rfl
      case d114_19 => exact fun _ _ _ h => h
      case e114_19 => (refine Or.inl ⟨by rfl, ?_⟩; intro w h; (try dsimp only at h); go_simp; all_goals with_reducible rfl)
      try simp only [Act.put, tI, tP, tQ]
      refine wpAnyH_take (i := 20) (oi := ?a114_20) (v := ?b114_20) ?c114_20 (by kernel_rfl) (by kernel_rfl) (by kernel_rfl) ?d114_20 ?e114_20 (by assumption) ?f114_20
      case c114_20 => simp only [tA, tS, tZ]; rfl
      case d114_20 => exact fun _ _ _ h => h
      case e114_20 => (refine Or.inl ⟨by rfl, ?_⟩; intro w h; (try dsimp only at h); go_simp; all_goals with_reducible rfl)
      try simp only [Act.put, tI, tP, tQ]
      refine wpAnyH_take (i := 21) (oi := ?a114_21) (v := ?b114_21) ?c114_21 (by kernel_rfl) (by kernel_rfl) (by kernel_rfl) ?d114_21 ?e114_21 (by assumption) ?f114_21
      case c114_21 => simp only [tA, tS, tZ]; rfl
      case d114_21 => exact fun _ _ _ h => h
      case e114_21 => (refine Or.inl ⟨by rfl, ?_⟩; intro w h; (try dsimp only at h); go_simp; all_goals with_reducible rfl)
      try simp only [Act.put, tI, tP, tQ]
      refine wpAnyH_take (i := 22) (oi := ?a114_22) (v := ?b114_22) ?c114_22 (by kernel_rfl) (by kernel_rfl) (by kernel_rfl) ?d114_22 ?e114_22 (by assumption) ?f114_22
      case c114_22 => simp only [tA, tS, tZ]; rfl
      case d114_22 => exact fun _ _ _ h => h
      case e114_22 => (refine Or.inl ⟨by rfl, ?_⟩; intro w h; (try dsimp only at h); go_simp; all_goals with_reducible rfl)
      try simp only [Act.put, tI, tP, tQ]
      refine wpAnyH_take (i := 23) (oi := ?a114_23) (v := ?b114_23) ?c114_23 (by kernel_rfl) (by kernel_rfl) (by kernel_rfl) ?d114_23 ?e114_23 (by assumption) ?f114_23
      case c114_23 => simp only [tA, tS, tZ]; rfl
      case d114_23 => exact fun _ _ _ h => h
      case e114_23 => (refine Or.inl ⟨by rfl, ?_⟩; intro w h; (try dsimp only at h); go_simp; all_goals with_reducible rfl)
      try simp only [Act.put, tI, tP, tQ]
      refine wpAnyH_take (i := 24) (oi := ?a114_24) (v := ?b114_24) ?c114_24 (by kernel_rfl) (by kernel_rfl) (by kernel_rfl) ?d114_24 ?e114_24 (by assumption) ?f114_24
      case c114_24 => simp only [tA, tS, tZ]; rfl
      case d114_24 => exact fun _ _ _ h => h
      case e114_24 => (refine Or.inl ⟨by rfl, ?_⟩; intro w h; (try dsimp only at h); go_simp; all_goals with_reducible rfl)
      try simp only [Act.put, tI, tP, tQ]
      refine wpAnyH_take (i := 25) (oi := ?a114_25) (v := ?b114_25) ?c114_25 (by kernel_rfl) (by kernel_rfl) (by kernel_rfl) ?d114_25 ?e114_25 (by assumption) ?f114_25
      case c114_25 => simp only [tA, tS, tZ]; rfl
      case d114_25 => exact fun _ _ _ h => h
      case e114_25 => (refine Or.inl ⟨by rfl, ?_⟩; intro w h; (try dsimp only at h); go_simp; all_goals with_reducible rfl)
      try simp only [Act.put, tI, tP, tQ]
      refine wpAnyH_take (i := 26) (oi := ?a114_26) (v := ?b114_26) ?c114_26 (by kernel_rfl) (by kernel_rfl) (by kernel_rfl) ?d114_26 ?e114_26 (by assumption) ?f114_26
      case c114_26 => simp only [tA, tS, tZ]; rfl
      case d114_26 => exact fun _ _ _ h => h
      case e114_26 => (refine Or.inl ⟨by rfl, ?_⟩; intro w h; (try dsimp only at h); go_simp; all_goals with_reducible rfl)
      try simp only [Act.put, tI, tP, tQ]
      have SF := see_fact vld.out.may (x := (2 : Int)) (Y := 2 * q.ballots) (by decide) (by decide) (by omega)
      rw [SF]
      clear SF
      refine wpAnyH_ready (rs := [27]) (by kernel_rfl) (by simp) ?_
      refine AllReadyH.cons (o := ?or115_27) ?hor115_27 (fun K hK => ?kr115_27) AllReadyH.nil
      case hor115_27 => simp only [List.getElem?_toArray, List.getElem?_cons_succ, List.getElem?_cons_zero]; rfl
      go_simp
      refine (Of_any w2 (factC q (2 : Int)) (fact_bd vld.out.may (by decide) (by decide)).1).mono ?_
      rintro e2 w3 ⟨af, nf, cf, rfl, yf, hb⟩
      have R1 := R1.later hb
      have ra1 := ra1.below hb
      have rb1 := rb1.below hb
      clear hb
      go_wp2_with fail
      refine hK.out _ _ ?_ (fun hHeld => ?_)
      · exact ⟨R1.cell 0 _ rfl, R1.cell 1 _ rfl, R1.cell 2 _ rfl, R1.cell 8 _ rfl⟩
      clear hK K
      try simp only [Act.put, List.setIfInBounds_toArray, List.set_cons_zero, List.set_cons_succ]
      refine wpAnyH_ready (rs := [28]) (by kernel_rfl) (by simp) ?_
      refine AllReadyH.cons (o := ?or116_28) ?hor116_28 (fun K hK => ?kr116_28) AllReadyH.nil
      case hor116_28 => simp only [List.getElem?_toArray, List.getElem?_cons_succ, List.getElem?_cons_zero]; rfl
      go_simp
      have cc := Mul_any w3 ra1 yf
      rw [mul_ok LP.out (Nat.lt_of_lt_of_le (show factC q (2 : Int) < pw 2 from (fact_bd vld.out.may (by decide) (by decide)).1) (pw_le (by decide))) LF.out] at cc
      refine cc.mono ?_
      rintro e2 w4 ⟨ax, nx, cx, rfl, yx, hb⟩
      clear cc
      have R1 := R1.later hb
      have ra1 := ra1.below hb
      have rb1 := rb1.below hb
      clear hb yf
      go_wp2_with fail
      refine hK.out _ _ ?_ (fun hHeld => ?_)
      · exact ⟨R1.cell 0 _ rfl, R1.cell 1 _ rfl, R1.cell 2 _ rfl, R1.cell 8 _ rfl⟩
      clear hK K
      try simp only [Act.put, List.setIfInBounds_toArray, List.set_cons_zero, List.set_cons_succ]
      refine wpAnyH_take (i := 29) (oi := ?a117_29) (v := ?b117_29) ?c117_29 (by kernel_rfl) (by kernel_rfl) (by kernel_rfl) ?d117_29 ?e117_29 (by assumption) ?f117_29
      case c117_29 => simp only [tA, tS, tZ]; rfl
      case d117_29 => exact fun _ _ _ h => h
      case e117_29 => (refine Or.inl ⟨by rfl, ?_⟩; intro w h; (try dsimp only at h); go_simp; all_goals with_reducible rfl)
      try simp only [Act.put, tI, tP, tQ]
      refine wpAnyH_take (i := 30) (oi := ?a117_30) (v := ?b117_30) ?c117_30 (by kernel_rfl) (by kernel_rfl) (by kernel_rfl) ?d117_30 ?e117_30 (by assumption) ?f117_30
      case c117_30 => simp only [tA, tS, tZ]; rfl
      case d117_30 => exact fun _ _ _ h => h
      case e117_30 => (refine Or.inl ⟨by rfl, ?_⟩; intro w h; (try dsimp only at h); go_simp; all_goals with_reducible rfl)
      try simp only [Act.put, tI, tP, tQ]
      refine wpAnyH_take (i := 31) (oi := ?a117_31) (v := ?b117_31) ?c117_31 (by kernel_rfl) (by kernel_rfl) (by kernel_rfl) ?d117_31 ?e117_31 (by assumption) ?f117_31
      case c117_31 => simp only [tA, tS, tZ]; rfl
      case d117_31 => exact fun _ _ _ h => h
      case e117_31 => (refine Or.inl ⟨by rfl, ?_⟩; intro w h; (try dsimp only at h); go_simp; all_goals with_reducible rfl)
      try simp only [Act.put, tI, tP, tQ]
      refine wpAnyH_take (i := 32) (oi := ?a117_32) (v := ?b117_32) ?c117_32 (by kernel_rfl) (by kernel_rfl) (by kernel_rfl) ?d117_32 ?e117_32 (by assumption) ?f117_32
      case c117_32 => simp only [tA, tS, tZ]; rfl
      case d117_32 => exact fun _ _ _ h => h
      case e117_32 => (refine Or.inl ⟨by rfl, ?_⟩; intro w h; (try dsimp only at h); go_simp; all_goals with_reducible rfl)
      try simp only [Act.put, tI, tP, tQ]
      refine wpAnyH_take (i := 33) (oi := ?a117_33) (v := ?b117_33) ?c117_33 (by kernel_rfl) (by kernel_rfl) (by kernel_rfl) ?d117_33 ?e117_33 (by assumption) ?f117_33
      case c117_33 => simp only [tA, tS, tZ]; rfl
      case d117_33 => exact fun _ _ _ h => h
      case e117_33 => (refine Or.inl ⟨by rfl, ?_⟩; intro w h; (try dsimp only at h); go_simp; all_goals with_reducible rfl)
      try simp only [Act.put, tI, tP, tQ]
      refine wpAnyH_done (by kernel_rfl) ?_ _
      clear hHeld
      have cW := see_whole vld.out.may
      go_wp2_with fail
      refine (Of_any w4 (wholeC q) (fact_bd vld.out.may (x := 0) (by decide) (by decide)).2).mono ?_
      rintro e2 w5 ⟨ay, ny, cy, rfl, yy, hb⟩
      have R1 := R1.later hb
      have ra1 := ra1.below hb
      have rb1 := rb1.below hb
      have yx := yx.below hb
      clear hb
      go_wp2_with fail
      have cc := Div_any w5 yx yy
      rw [div_ok LF.out (Nat.lt_of_lt_of_le (show wholeC q < pw 2 from (fact_bd vld.out.may (x := 0) (by decide) (by decide)).2) (pw_le (by decide))) (fact_whole vld.out.may).2] at cc
      refine cc.mono ?_
      rintro e2 w6 ⟨az, nz, cz, ar, nr, cr, rfl, yz, -, hb⟩
      clear cc
      have R1 := R1.later hb
      have ra1 := ra1.below hb
      have rb1 := rb1.below hb
      clear hb yx yy
      have fr8 := R1.free 8
      have k8 := R1.cell 8 _ rfl
      have R2 : PRow 66 wb (w6.setCell ⟨k, 8, none⟩ (.slice az nz cz)) k (cmC (bumpC q (2 : Int)) az nz cz b m d) := R1.set 8 (.slice az nz cz)
      have yz := rd_setcell (i := 8) yz R1.row (cm_noint _ _ _ _ _ _ _) (.slice az nz cz)
      have rb1 := rd_setcell (i := 8) rb1 R1.row (cm_noint _ _ _ _ _ _ _) (.slice az nz cz)
      clear ra1 R1
      go_upto_region 8 with fail
      clear fr8 k8 cW n1' n2'
      generalize w6.setCell ⟨k, 8, none⟩ (.slice az nz cz) = w7 at *
      by_cases hD : (L * factC q (2 : Int) / wholeC q) ≤ mostN
      · have NX := Lib.hid (show nextC q L (2 : Int) = (L * factC q (2 : Int) / wholeC q) by unfold nextC timesN; exact Nat.min_eq_left hD)
        have DL := Lib.hid (show leC (limbs (L * factC q (2 : Int) / wholeC q)) [0, 0, 0, 0, 1] = true by rw [← most_limbs, leC_ok (Nat.lt_of_le_of_lt hD most_pw) most_pw]; exact decide_eq_true hD)
        clear hD
        have hb := (Below.refl w7.heap.size w7).drew
        have R2 := R2.later hb
        have yz := yz.below hb
        have rb1 := rb1.below hb
        clear hb
        refine wp_region_held_drew (S := (fun w' => w'.cell? ⟨k, 8, none⟩ = some (.slice az nz cz) ∧ True)) (by kernel_rfl) ?_ (fun hHeld => ?_)
        · exact ⟨R2.cell 8 _ rfl, trivial⟩
        generalize w7.drew = w8 at *
        refine wpAnyH_take (i := 0) (oi := ?a118_0) (v := ?b118_0) ?c118_0 (by kernel_rfl) (by kernel_rfl) (by kernel_rfl) ?d118_0 ?e118_0 (by assumption) ?f118_0
        case c118_0 => simp only [tA, tS, tZ]; rfl
        case d118_0 => exact fun _ _ _ h => h
        case e118_0 => (refine Or.inl ⟨by rfl, ?_⟩; intro w h; (try dsimp only at h); go_simp; all_goals with_reducible rfl)
        try simp only [Act.put, tI, tP, tQ]
        refine wpAnyH_take (i := 1) (oi := ?a118_1) (v := ?b118_1) ?c118_1 (by kernel_rfl) (by kernel_rfl) (by kernel_rfl) ?d118_1 ?e118_1 (by assumption) ?f118_1
        case c118_1 => simp only [tA, tS, tZ]; rfl
        case d118_1 => exact fun _ _ _ h => h
        case e118_1 => (refine Or.inl ⟨by rfl, ?_⟩; intro w h; (try dsimp only at h); go_simp; all_goals with_reducible rfl)
        try simp only [Act.put, tI, tP, tQ]
        refine wpAnyH_take (i := 2) (oi := ?a118_2) (v := ?b118_2) ?c118_2 (by kernel_rfl) (by kernel_rfl) (by kernel_rfl) ?d118_2 ?e118_2 (by assumption) ?f118_2
        case c118_2 => simp only [tA, tS, tZ]; rfl
        case d118_2 => exact fun _ _ _ h => h
        case e118_2 => (refine Or.inl ⟨by rfl, ?_⟩; intro w h; (try dsimp only at h); go_simp; all_goals with_reducible rfl)
        try simp only [Act.put, tI, tP, tQ]
        refine wpAnyH_take (i := 3) (oi := ?a118_3) (v := ?b118_3) ?c118_3 (by kernel_rfl) (by kernel_rfl) (by kernel_rfl) ?d118_3 ?e118_3 (by assumption) ?f118_3
        case c118_3 => simp only [tA, tS, tZ]; rfl
        case d118_3 => exact fun _ _ _ h => h
        case e118_3 => (refine Or.inl ⟨by rfl, ?_⟩; intro w h; (try dsimp only at h); go_simp; all_goals with_reducible rfl)
        try simp only [Act.put, tI, tP, tQ]
        refine wpAnyH_take (i := 4) (oi := ?a118_4) (v := ?b118_4) ?c118_4 (by kernel_rfl) (by kernel_rfl) (by kernel_rfl) ?d118_4 ?e118_4 (by assumption) ?f118_4
        case c118_4 => simp only [tA, tS, tZ]; rfl
        case d118_4 => exact fun _ _ _ h => h
        case e118_4 => (refine Or.inl ⟨by rfl, ?_⟩; intro w h; (try dsimp only at h); go_simp; all_goals with_reducible rfl)
        try simp only [Act.put, tI, tP, tQ]
        refine wpAnyH_ready (rs := [5]) (by kernel_rfl) (by simp) ?_
        refine AllReadyH.cons (o := ?or119_5) ?hor119_5 (fun K hK => ?kr119_5) AllReadyH.nil
        case hor119_5 => simp only [List.getElem?_toArray, List.getElem?_cons_succ, List.getElem?_cons_zero]; rfl
        go_simp
        refine (cmMost_any w8).mono ?_
        rintro e2 w9 ⟨am, nm, cm, rfl, ym, hb⟩
        have R2 := R2.later hb
        have yz := yz.below hb
        have rb1 := rb1.below hb
        clear hb
        go_wp2_with fail
        refine hK.out _ _ ?_ (fun hHeld => ?_)
        · exact ⟨R2.cell 8 _ rfl, trivial⟩
        clear hK K
        try simp only [Act.put, List.setIfInBounds_toArray, List.set_cons_zero, List.set_cons_succ]
        refine wpAnyH_ready (rs := [6]) (by kernel_rfl) (by simp) ?_
        refine AllReadyH.cons (o := ?or120_6) ?hor120_6 (fun K hK => ?kr120_6) AllReadyH.nil
        case hor120_6 => simp only [List.getElem?_toArray, List.getElem?_cons_succ, List.getElem?_cons_zero]; rfl
        go_simp
        have cc := cmAtMost_any w9 yz ym
        rw [DL.out] at cc
        refine cc.mono ?_
        rintro e2 wA ⟨rfl, hb⟩
        clear cc
        have R2 := R2.later hb
        have yz := yz.below hb
        have rb1 := rb1.below hb
        clear hb ym
        go_wp2_with fail
        refine hK.out _ _ ?_ (fun hHeld => ?_)
        · exact ⟨R2.cell 8 _ rfl, trivial⟩
        clear hK K
        try simp only [Act.put, List.setIfInBounds_toArray, List.set_cons_zero, List.set_cons_succ]
        refine wpAnyH_take (i := 7) (oi := ?a121_7) (v := ?b121_7) ?c121_7 (by kernel_rfl) (by kernel_rfl) (by kernel_rfl) ?d121_7 ?e121_7 (by assumption) ?f121_7
        case c121_7 => simp only [tA, tS, tZ]; rfl
        case d121_7 => exact fun _ _ _ h => h
        case e121_7 => (refine Or.inl ⟨by rfl, ?_⟩; intro w h; (try dsimp only at h); go_simp; all_goals with_reducible rfl)
        try simp only [Act.put, tI, tP, tQ]
        refine wpAnyH_done (by kernel_rfl) ?_ _
        clear hHeld
        rw [← NX.out] at yz
        by_cases hB : nextC q L (2 : Int) ≤ B
        · have BL := Lib.hid (show leC (limbs (nextC q L (2 : Int))) (limbs B) = true by rw [leC_ok nextC_lt vld.out.pw.2]; exact decide_eq_true hB)
          have HB := Lib.hid hB
          clear hB
          go_upto_region 10 with fail
          have hb := (Below.refl wA.heap.size wA).drew
          have R2 := R2.later hb
          have yz := yz.below hb
          have rb1 := rb1.below hb
          clear hb
          refine wp_region_held_drew (S := (fun w' => w'.cell? ⟨k, 8, none⟩ = some (.slice az nz cz) ∧ w'.cell? ⟨k, 9, none⟩ = some (.slice b m d))) (by kernel_rfl) ?_ (fun hHeld => ?_)
          · exact ⟨R2.cell 8 _ rfl, R2.cell 9 _ rfl⟩
          generalize wA.drew = wD at *
          refine wpAnyH_take (i := 0) (oi := ?a122_0) (v := ?b122_0) ?c122_0 (by kernel_rfl) (by kernel_rfl) (by kernel_rfl) ?d122_0 ?e122_0 (by assumption) ?f122_0
          case c122_0 => simp only [tA, tS, tZ]; rfl
          case d122_0 => exact fun _ _ _ h => h
          case e122_0 => (refine Or.inl ⟨by rfl, ?_⟩; intro w h; (try dsimp only at h); go_simp; all_goals with_reducible rfl)
          try simp only [Act.put, tI, tP, tQ]
          refine wpAnyH_take (i := 1) (oi := ?a122_1) (v := ?b122_1) ?c122_1 (by kernel_rfl) (by kernel_rfl) (by kernel_rfl) ?d122_1 ?e122_1 (by assumption) ?f122_1
          case c122_1 => simp only [tA, tS, tZ]; rfl
          case d122_1 => exact fun _ _ _ h => h
          case e122_1 => (refine Or.inl ⟨by rfl, ?_⟩; intro w h; (try dsimp only at h); go_simp; all_goals with_reducible rfl)
          try simp only [Act.put, tI, tP, tQ]
          refine wpAnyH_take (i := 2) (oi := ?a122_2) (v := ?b122_2) ?c122_2 (by kernel_rfl) (by kernel_rfl) (by kernel_rfl) ?d122_2 ?e122_2 (by assumption) ?f122_2
          case c122_2 => simp only [tA, tS, tZ]; rfl
          case d122_2 => exact fun _ _ _ h => h
          case e122_2 => (refine Or.inl ⟨by rfl, ?_⟩; intro w h; (try dsimp only at h); go_simp; all_goals with_reducible rfl)
          try simp only [Act.put, tI, tP, tQ]
          refine wpAnyH_take (i := 3) (oi := ?a122_3) (v := ?b122_3) ?c122_3 (by kernel_rfl) (by kernel_rfl) (by kernel_rfl) ?d122_3 ?e122_3 (by assumption) ?f122_3
          case c122_3 => simp only [tA, tS, tZ]; rfl
          case d122_3 => exact fun _ _ _ h => h
          case e122_3 => (refine Or.inl ⟨by rfl, ?_⟩; intro w h; (try dsimp only at h); go_simp; all_goals with_reducible rfl)
          try simp only [Act.put, tI, tP, tQ]
          refine wpAnyH_take (i := 4) (oi := ?a122_4) (v := ?b122_4) ?c122_4 (by kernel_rfl) (by kernel_rfl) (by kernel_rfl) ?d122_4 ?e122_4 (by assumption) ?f122_4
          case c122_4 => simp only [tA, tS, tZ]; rfl
          case d122_4 => exact fun _ _ _ h => h
          case e122_4 => (refine Or.inl ⟨by rfl, ?_⟩; intro w h; (try dsimp only at h); go_simp; all_goals with_reducible rfl)
          try simp only [Act.put, tI, tP, tQ]
          refine wpAnyH_take (i := 5) (oi := ?a122_5) (v := ?b122_5) ?c122_5 (by kernel_rfl) (by kernel_rfl) (by kernel_rfl) ?d122_5 ?e122_5 (by assumption) ?f122_5
          case c122_5 => simp only [tA, tS, tZ]; rfl
          case d122_5 => exact fun _ _ _ h => h
          case e122_5 => (refine Or.inl ⟨by rfl, ?_⟩; intro w h; (try dsimp only at h); go_simp; all_goals with_reducible rfl)
          try simp only [Act.put, tI, tP, tQ]
          refine wpAnyH_take (i := 6) (oi := ?a122_6) (v := ?b122_6) ?c122_6 (by kernel_rfl) (by kernel_rfl) (by kernel_rfl) ?d122_6 ?e122_6 (by assumption) ?f122_6
          case c122_6 => simp only [tA, tS, tZ]; rfl
          case d122_6 => exact fun _ _ _ h => h
          case e122_6 => (refine Or.inl ⟨by rfl, ?_⟩; intro w h; (try dsimp only at h); go_simp; all_goals with_reducible rfl)
          try simp only [Act.put, tI, tP, tQ]
          refine wpAnyH_take (i := 7) (oi := ?a122_7) (v := ?b122_7) ?c122_7 (by kernel_rfl) (by kernel_rfl) (by kernel_rfl) ?d122_7 ?e122_7 (by assumption) ?f122_7
          case c122_7 => simp only [tA, tS, tZ]; rfl
          case d122_7 => exact fun _ _ _ h => h
          case e122_7 => (refine Or.inl ⟨by rfl, ?_⟩; intro w h; (try dsimp only at h); go_simp; all_goals with_reducible rfl)
          try simp only [Act.put, tI, tP, tQ]
          refine wpAnyH_take (i := 8) (oi := ?a122_8) (v := ?b122_8) ?c122_8 (by kernel_rfl) (by kernel_rfl) (by kernel_rfl) ?d122_8 ?e122_8 (by assumption) ?f122_8
          case c122_8 => simp only [tA, tS, tZ]; rfl
          case d122_8 => exact fun _ _ _ h => h
          case e122_8 => (refine Or.inl ⟨by rfl, ?_⟩; intro w h; (try dsimp only at h); go_simp; all_goals with_reducible rfl)
          try simp only [Act.put, tI, tP, tQ]
          refine wpAnyH_take (i := 9) (oi := ?a122_9) (v := ?b122_9) ?c122_9 (by kernel_rfl) (by kernel_rfl) (by kernel_rfl) ?d122_9 ?e122_9 (by assumption) ?f122_9
          case c122_9 => simp only [tA, tS, tZ]; rfl
          case d122_9 => exact fun _ _ _ h => h
          case e122_9 => (refine Or.inl ⟨by rfl, ?_⟩; intro w h; (try dsimp only at h); go_simp; all_goals with_reducible rfl)
          try simp only [Act.put, tI, tP, tQ]
          refine wpAnyH_ready (rs := [10]) (by kernel_rfl) (by simp) ?_
          refine AllReadyH.cons (o := ?or123_10) ?hor123_10 (fun K hK => ?kr123_10) AllReadyH.nil
          case hor123_10 => simp only [List.getElem?_toArray, List.getElem?_cons_succ, List.getElem?_cons_zero]; rfl
          go_simp
          have cc := cmAtMost_any wD yz rb1
          rw [BL.out] at cc
          refine cc.mono ?_
          rintro e2 wE ⟨rfl, hb⟩
          clear cc
          have R2 := R2.later hb
          have yz := yz.below hb
          have rb1 := rb1.below hb
          clear hb
          go_wp2_with fail
          refine hK.out _ _ ?_ (fun hHeld => ?_)
          · exact ⟨R2.cell 8 _ rfl, R2.cell 9 _ rfl⟩
          clear hK K
          try simp only [Act.put, List.setIfInBounds_toArray, List.set_cons_zero, List.set_cons_succ]
          refine wpAnyH_take (i := 11) (oi := ?a124_11) (v := ?b124_11) ?c124_11 (by kernel_rfl) (by kernel_rfl) (by kernel_rfl) ?d124_11 ?e124_11 (by assumption) ?f124_11
          case c124_11 => simp only [tA, tS, tZ]; rfl
          case d124_11 => exact fun _ _ _ h => h
          case e124_11 => (refine Or.inl ⟨by rfl, ?_⟩; intro w h; (try dsimp only at h); go_simp; all_goals with_reducible rfl)
          try simp only [Act.put, tI, tP, tQ]
          refine wpAnyH_done (by kernel_rfl) ?_ _
          clear hHeld
          go_wp2_with fail
          go_ret
          refine .inr ⟨_, _, _, _, _, _, e.out, rfl, R2, ?_, ?_⟩
          · rw [(show (stepC q (2 : Int)).lev = limbs (nextC q L (2 : Int)) by show limbs (nextC q (val q.lev) (2 : Int)) = _; rw [vld.out.lev, val_limbs])]; exact yz
          · rw [(show (stepC q (2 : Int)).best = limbs B by show limbs (max (val q.best) (nextC q (val q.lev) (2 : Int))) = _; rw [vld.out.lev, vld.out.best, val_limbs, val_limbs, Nat.max_eq_left HB.out])]; exact rb1
        · have BL := Lib.hid (show leC (limbs (nextC q L (2 : Int))) (limbs B) = false by rw [leC_ok nextC_lt vld.out.pw.2]; exact decide_eq_false hB)
          have HB := Lib.hid hB
          clear hB
          go_upto_region 10 with fail
          have hb := (Below.refl wA.heap.size wA).drew
          have R2 := R2.later hb
          have yz := yz.below hb
          have rb1 := rb1.below hb
          clear hb
          refine wp_region_held_drew (S := (fun w' => w'.cell? ⟨k, 8, none⟩ = some (.slice az nz cz) ∧ w'.cell? ⟨k, 9, none⟩ = some (.slice b m d))) (by kernel_rfl) ?_ (fun hHeld => ?_)
          · exact ⟨R2.cell 8 _ rfl, R2.cell 9 _ rfl⟩
          generalize wA.drew = wD at *
          refine wpAnyH_take (i := 0) (oi := ?a125_0) (v := ?b125_0) ?c125_0 (by kernel_rfl) (by kernel_rfl) (by kernel_rfl) ?d125_0 ?e125_0 (by assumption) ?f125_0
          case c125_0 => simp only [tA, tS, tZ]; rfl
          case d125_0 => exact fun _ _ _ h => h
          case e125_0 => (refine Or.inl ⟨by rfl, ?_⟩; intro w h; (try dsimp only at h); go_simp; all_goals with_reducible rfl)
          try simp only [Act.put, tI, tP, tQ]
          refine wpAnyH_take (i := 1) (oi := ?a125_1) (v := ?b125_1) ?c125_1 (by kernel_rfl) (by kernel_rfl) (by kernel_rfl) ?d125_1 ?e125_1 (by assumption) ?f125_1
          case c125_1 => simp only [tA, tS, tZ]; rfl
          case d125_1 => exact fun _ _ _ h => h
          case e125_1 => (refine Or.inl ⟨by rfl, ?_⟩; intro w h; (try dsimp only at h); go_simp; all_goals with_reducible rfl)
          try simp only [Act.put, tI, tP, tQ]
          refine wpAnyH_take (i := 2) (oi := ?a125_2) (v := ?b125_2) ?c125_2 (by kernel_rfl) (by kernel_rfl) (by kernel_rfl) ?d125_2 ?e125_2 (by assumption) ?f125_2
          case c125_2 => simp only [tA, tS, tZ]; rfl
          case d125_2 => exact fun _ _ _ h => h
          case e125_2 => (refine Or.inl ⟨by rfl, ?_⟩; intro w h; (try dsimp only at h); go_simp; all_goals with_reducible rfl)
          try simp only [Act.put, tI, tP, tQ]
          refine wpAnyH_take (i := 3) (oi := ?a125_3) (v := ?b125_3) ?c125_3 (by kernel_rfl) (by kernel_rfl) (by kernel_rfl) ?d125_3 ?e125_3 (by assumption) ?f125_3
          case c125_3 => simp only [tA, tS, tZ]; rfl
          case d125_3 => exact fun _ _ _ h => h
          case e125_3 => (refine Or.inl ⟨by rfl, ?_⟩; intro w h; (try dsimp only at h); go_simp; all_goals with_reducible rfl)
          try simp only [Act.put, tI, tP, tQ]
          refine wpAnyH_take (i := 4) (oi := ?a125_4) (v := ?b125_4) ?c125_4 (by kernel_rfl) (by kernel_rfl) (by kernel_rfl) ?d125_4 ?e125_4 (by assumption) ?f125_4
          case c125_4 => simp only [tA, tS, tZ]; rfl
          case d125_4 => exact fun _ _ _ h => h
          case e125_4 => (refine Or.inl ⟨by rfl, ?_⟩; intro w h; (try dsimp only at h); go_simp; all_goals with_reducible rfl)
          try simp only [Act.put, tI, tP, tQ]
          refine wpAnyH_take (i := 5) (oi := ?a125_5) (v := ?b125_5) ?c125_5 (by kernel_rfl) (by kernel_rfl) (by kernel_rfl) ?d125_5 ?e125_5 (by assumption) ?f125_5
          case c125_5 => simp only [tA, tS, tZ]; rfl
          case d125_5 => exact fun _ _ _ h => h
          case e125_5 => (refine Or.inl ⟨by rfl, ?_⟩; intro w h; (try dsimp only at h); go_simp; all_goals with_reducible rfl)
          try simp only [Act.put, tI, tP, tQ]
          refine wpAnyH_take (i := 6) (oi := ?a125_6) (v := ?b125_6) ?c125_6 (by kernel_rfl) (by kernel_rfl) (by kernel_rfl) ?d125_6 ?e125_6 (by assumption) ?f125_6
          case c125_6 => simp only [tA, tS, tZ]; rfl
          case d125_6 => exact fun _ _ _ h => h
          case e125_6 => (refine Or.inl ⟨by rfl, ?_⟩; intro w h; (try dsimp only at h); go_simp; all_goals with_reducible rfl)
          try simp only [Act.put, tI, tP, tQ]
          refine wpAnyH_take (i := 7) (oi := ?a125_7) (v := ?b125_7) ?c125_7 (by kernel_rfl) (by kernel_rfl) (by kernel_rfl) ?d125_7 ?e125_7 (by assumption) ?f125_7
          case c125_7 => simp only [tA, tS, tZ]; rfl
          case d125_7 => exact fun _ _ _ h => h
          case e125_7 => (refine Or.inl ⟨by rfl, ?_⟩; intro w h; (try dsimp only at h); go_simp; all_goals with_reducible rfl)
          try simp only [Act.put, tI, tP, tQ]
          refine wpAnyH_take (i := 8) (oi := ?a125_8) (v := ?b125_8) ?c125_8 (by kernel_rfl) (by kernel_rfl) (by kernel_rfl) ?d125_8 ?e125_8 (by assumption) ?f125_8
          case c125_8 => simp only [tA, tS, tZ]; rfl
          case d125_8 => exact fun _ _ _ h => h
          case e125_8 => (refine Or.inl ⟨by rfl, ?_⟩; intro w h; (try dsimp only at h); go_simp; all_goals with_reducible rfl)
          try simp only [Act.put, tI, tP, tQ]
          refine wpAnyH_take (i := 9) (oi := ?a125_9) (v := ?b125_9) ?c125_9 (by kernel_rfl) (by kernel_rfl) (by kernel_rfl) ?d125_9 ?e125_9 (by assumption) ?f125_9
          case c125_9 => simp only [tA, tS, tZ]; rfl
          case d125_9 => exact fun _ _ _ h => h
          case e125_9 => (refine Or.inl ⟨by rfl, ?_⟩; intro w h; (try dsimp only at h); go_simp; all_goals with_reducible rfl)
          try simp only [Act.put, tI, tP, tQ]
          refine wpAnyH_ready (rs := [10]) (by kernel_rfl) (by simp) ?_
          refine AllReadyH.cons (o := ?or126_10) ?hor126_10 (fun K hK => ?kr126_10) AllReadyH.nil
          case hor126_10 => simp only [List.getElem?_toArray, List.getElem?_cons_succ, List.getElem?_cons_zero]; rfl
          go_simp
          have cc := cmAtMost_any wD yz rb1
          rw [BL.out] at cc
          refine cc.mono ?_
          rintro e2 wE ⟨rfl, hb⟩
          clear cc
          have R2 := R2.later hb
          have yz := yz.below hb
          have rb1 := rb1.below hb
          clear hb
          go_wp2_with fail
          refine hK.out _ _ ?_ (fun hHeld => ?_)
          · exact ⟨R2.cell 8 _ rfl, R2.cell 9 _ rfl⟩
          clear hK K
          try simp only [Act.put, List.setIfInBounds_toArray, List.set_cons_zero, List.set_cons_succ]
          refine wpAnyH_take (i := 11) (oi := ?a127_11) (v := ?b127_11) ?c127_11 (by kernel_rfl) (by kernel_rfl) (by kernel_rfl) ?d127_11 ?e127_11 (by assumption) ?f127_11
          case c127_11 => simp only [tA, tS, tZ]; rfl
          case d127_11 => exact fun _ _ _ h => h
          case e127_11 => (refine Or.inl ⟨by rfl, ?_⟩; intro w h; (try dsimp only at h); go_simp; all_goals with_reducible rfl)
          try simp only [Act.put, tI, tP, tQ]
          refine wpAnyH_done (by kernel_rfl) ?_ _
          clear hHeld
          have k8 : wE.cell? ⟨k, 8, none⟩ = some (.slice az nz cz) := R2.cell 8 _ rfl
          go_wp2_with fail
          refine (Clone_any wE yz (by have h1 := yz.len; have h2 := limbs_len_le (k := 96) (show nextC q L (2 : Int) < pw 96 from Nat.lt_of_le_of_lt (Nat.min_le_right _ _) most_pw); omega)).mono ?_
          rintro e2 wF ⟨ak, nk, ck, rfl, yk, hb⟩
          have R2 := R2.later hb
          have yz := yz.below hb
          have rb1 := rb1.below hb
          clear hb k8
          have fr9 := R2.free 9
          have k9 := R2.cell 9 _ rfl
          have R4 : PRow 66 wb (wF.setCell ⟨k, 9, none⟩ (.slice ak nk ck)) k (cmC (bumpC q (2 : Int)) az nz cz ak nk ck) := R2.set 9 (.slice ak nk ck)
          have yk := rd_setcell (i := 9) yk R2.row (cm_noint _ _ _ _ _ _ _) (.slice ak nk ck)
          have yl := rd_setcell (i := 9) yz R2.row (cm_noint _ _ _ _ _ _ _) (.slice ak nk ck)
          go_wp2_with fail
          go_ret
          refine .inr ⟨_, _, _, _, _, _, e.out, rfl, R4, ?_, ?_⟩
          · rw [(show (stepC q (2 : Int)).lev = limbs (nextC q L (2 : Int)) by show limbs (nextC q (val q.lev) (2 : Int)) = _; rw [vld.out.lev, val_limbs])]; exact yl
          · rw [(show (stepC q (2 : Int)).best = limbs (nextC q L (2 : Int)) by show limbs (max (val q.best) (nextC q (val q.lev) (2 : Int))) = _; rw [vld.out.lev, vld.out.best, val_limbs, val_limbs, Nat.max_eq_right (Nat.le_of_lt (Nat.lt_of_not_le HB.out))])]; exact yk
      · have NX := Lib.hid (show nextC q L (2 : Int) = mostN by unfold nextC timesN; exact Nat.min_eq_right (Nat.le_of_lt (Nat.lt_of_not_le hD)))
        have DL := Lib.hid (show leC (limbs (L * factC q (2 : Int) / wholeC q)) [0, 0, 0, 0, 1] = false by rw [← most_limbs, leC_ok (Nat.lt_of_le_of_lt (Nat.div_le_self _ _) LF.out) most_pw]; exact decide_eq_false hD)
        clear hD
        have hb := (Below.refl w7.heap.size w7).drew
        have R2 := R2.later hb
        have yz := yz.below hb
        have rb1 := rb1.below hb
        clear hb
        refine wp_region_held_drew (S := (fun w' => w'.cell? ⟨k, 8, none⟩ = some (.slice az nz cz) ∧ True)) (by kernel_rfl) ?_ (fun hHeld => ?_)
        · exact ⟨R2.cell 8 _ rfl, trivial⟩
        generalize w7.drew = w8 at *
        refine wpAnyH_take (i := 0) (oi := ?a128_0) (v := ?b128_0) ?c128_0 (by kernel_rfl) (by kernel_rfl) (by kernel_rfl) ?d128_0 ?e128_0 (by assumption) ?f128_0
        case c128_0 => simp only [tA, tS, tZ]; rfl
        case d128_0 => exact fun _ _ _ h => h
        case e128_0 => (refine Or.inl ⟨by rfl, ?_⟩; intro w h; (try dsimp only at h); go_simp; all_goals with_reducible rfl)
        try simp only [Act.put, tI, tP, tQ]
        refine wpAnyH_take (i := 1) (oi := ?a128_1) (v := ?b128_1) ?c128_1 (by kernel_rfl) (by kernel_rfl) (by kernel_rfl) ?d128_1 ?e128_1 (by assumption) ?f128_1
        case c128_1 => simp only [tA, tS, tZ]; rfl
        case d128_1 => exact fun _ _ _ h => h
        case e128_1 => (refine Or.inl ⟨by rfl, ?_⟩; intro w h; (try dsimp only at h); go_simp; all_goals with_reducible rfl)
        try simp only [Act.put, tI, tP, tQ]
        refine wpAnyH_take (i := 2) (oi := ?a128_2) (v := ?b128_2) ?c128_2 (by kernel_rfl) (by kernel_rfl) (by kernel_rfl) ?d128_2 ?e128_2 (by assumption) ?f128_2
        case c128_2 => simp only [tA, tS, tZ]; rfl
        case d128_2 => exact fun _ _ _ h => h
        case e128_2 => (refine Or.inl ⟨by rfl, ?_⟩; intro w h; (try dsimp only at h); go_simp; all_goals with_reducible rfl)
        try simp only [Act.put, tI, tP, tQ]
        refine wpAnyH_take (i := 3) (oi := ?a128_3) (v := ?b128_3) ?c128_3 (by kernel_rfl) (by kernel_rfl) (by kernel_rfl) ?d128_3 ?e128_3 (by assumption) ?f128_3
        case c128_3 => simp only [tA, tS, tZ]; rfl
        case d128_3 => exact fun _ _ _ h => h
        case e128_3 => (refine Or.inl ⟨by rfl, ?_⟩; intro w h; (try dsimp only at h); go_simp; all_goals with_reducible rfl)
        try simp only [Act.put, tI, tP, tQ]
        refine wpAnyH_take (i := 4) (oi := ?a128_4) (v := ?b128_4) ?c128_4 (by kernel_rfl) (by kernel_rfl) (by kernel_rfl) ?d128_4 ?e128_4 (by assumption) ?f128_4
        case c128_4 => simp only [tA, tS, tZ]; rfl
        case d128_4 => exact fun _ _ _ h => h
        case e128_4 => (refine Or.inl ⟨by rfl, ?_⟩; intro w h; (try dsimp only at h); go_simp; all_goals with_reducible rfl)
        try simp only [Act.put, tI, tP, tQ]
        refine wpAnyH_ready (rs := [5]) (by kernel_rfl) (by simp) ?_
        refine AllReadyH.cons (o := ?or129_5) ?hor129_5 (fun K hK => ?kr129_5) AllReadyH.nil
        case hor129_5 => simp only [List.getElem?_toArray, List.getElem?_cons_succ, List.getElem?_cons_zero]; rfl
        go_simp
        refine (cmMost_any w8).mono ?_
        rintro e2 w9 ⟨am, nm, cm, rfl, ym, hb⟩
        have R2 := R2.later hb
        have yz := yz.below hb
        have rb1 := rb1.below hb
        clear hb
        go_wp2_with fail
        refine hK.out _ _ ?_ (fun hHeld => ?_)
        · exact ⟨R2.cell 8 _ rfl, trivial⟩
        clear hK K
        try simp only [Act.put, List.setIfInBounds_toArray, List.set_cons_zero, List.set_cons_succ]
        refine wpAnyH_ready (rs := [6]) (by kernel_rfl) (by simp) ?_
        refine AllReadyH.cons (o := ?or130_6) ?hor130_6 (fun K hK => ?kr130_6) AllReadyH.nil
        case hor130_6 => simp only [List.getElem?_toArray, List.getElem?_cons_succ, List.getElem?_cons_zero]; rfl
        go_simp
        have cc := cmAtMost_any w9 yz ym
        rw [DL.out] at cc
        refine cc.mono ?_
        rintro e2 wA ⟨rfl, hb⟩
        clear cc
        have R2 := R2.later hb
        have yz := yz.below hb
        have rb1 := rb1.below hb
        clear hb ym
        go_wp2_with fail
        refine hK.out _ _ ?_ (fun hHeld => ?_)
        · exact ⟨R2.cell 8 _ rfl, trivial⟩
        clear hK K
        try simp only [Act.put, List.setIfInBounds_toArray, List.set_cons_zero, List.set_cons_succ]
        refine wpAnyH_take (i := 7) (oi := ?a131_7) (v := ?b131_7) ?c131_7 (by kernel_rfl) (by kernel_rfl) (by kernel_rfl) ?d131_7 ?e131_7 (by assumption) ?f131_7
        case c131_7 => simp only [tA, tS, tZ]; rfl
        case d131_7 => exact fun _ _ _ h => h
        case e131_7 => (refine Or.inl ⟨by rfl, ?_⟩; intro w h; (try dsimp only at h); go_simp; all_goals with_reducible rfl)
        try simp only [Act.put, tI, tP, tQ]
        refine wpAnyH_done (by kernel_rfl) ?_ _
        clear hHeld
        go_wp2_with fail
        refine (cmMost_any wA).mono ?_
        rintro e2 wB ⟨as', ns', cs', rfl, ys, hb⟩
        have R2 := R2.later hb
        have yz := yz.below hb
        have rb1 := rb1.below hb
        clear hb
        have fr8 := R2.free 8
        have k8 := R2.cell 8 _ rfl
        have R3 : PRow 66 wb (wB.setCell ⟨k, 8, none⟩ (.slice as' ns' cs')) k (cmC (bumpC q (2 : Int)) as' ns' cs' b m d) := R2.set 8 (.slice as' ns' cs')
        have ys := rd_setcell (i := 8) ys R2.row (cm_noint _ _ _ _ _ _ _) (.slice as' ns' cs')
        have rb1 := rd_setcell (i := 8) rb1 R2.row (cm_noint _ _ _ _ _ _ _) (.slice as' ns' cs')
        clear R2 yz
        rw [← most_limbs, ← NX.out] at ys
        go_upto_region 10 with fail
        clear fr8 k8
        generalize wB.setCell ⟨k, 8, none⟩ (.slice as' ns' cs') = wC at *
        by_cases hB : nextC q L (2 : Int) ≤ B
        · have BL := Lib.hid (show leC (limbs (nextC q L (2 : Int))) (limbs B) = true by rw [leC_ok nextC_lt vld.out.pw.2]; exact decide_eq_true hB)
          have HB := Lib.hid hB
          clear hB
          have hb := (Below.refl wC.heap.size wC).drew
          have R3 := R3.later hb
          have ys := ys.below hb
          have rb1 := rb1.below hb
          clear hb
          refine wp_region_held_drew (S := (fun w' => w'.cell? ⟨k, 8, none⟩ = some (.slice as' ns' cs') ∧ w'.cell? ⟨k, 9, none⟩ = some (.slice b m d))) (by kernel_rfl) ?_ (fun hHeld => ?_)
          · exact ⟨R3.cell 8 _ rfl, R3.cell 9 _ rfl⟩
          generalize wC.drew = wD at *
          refine wpAnyH_take (i := 0) (oi := ?a132_0) (v := ?b132_0) ?c132_0 (by kernel_rfl) (by kernel_rfl) (by kernel_rfl) ?d132_0 ?e132_0 (by assumption) ?f132_0
          case c132_0 => simp only [tA, tS, tZ]; rfl
          case d132_0 => exact fun _ _ _ h => h
          case e132_0 => (refine Or.inl ⟨by rfl, ?_⟩; intro w h; (try dsimp only at h); go_simp; all_goals with_reducible rfl)
          try simp only [Act.put, tI, tP, tQ]
          refine wpAnyH_take (i := 1) (oi := ?a132_1) (v := ?b132_1) ?c132_1 (by kernel_rfl) (by kernel_rfl) (by kernel_rfl) ?d132_1 ?e132_1 (by assumption) ?f132_1
          case c132_1 => simp only [tA, tS, tZ]; rfl
          case d132_1 => exact fun _ _ _ h => h
          case e132_1 => (refine Or.inl ⟨by rfl, ?_⟩; intro w h; (try dsimp only at h); go_simp; all_goals with_reducible rfl)
          try simp only [Act.put, tI, tP, tQ]
          refine wpAnyH_take (i := 2) (oi := ?a132_2) (v := ?b132_2) ?c132_2 (by kernel_rfl) (by kernel_rfl) (by kernel_rfl) ?d132_2 ?e132_2 (by assumption) ?f132_2
          case c132_2 => simp only [tA, tS, tZ]; rfl
          case d132_2 => exact fun _ _ _ h => h
          case e132_2 => (refine Or.inl ⟨by rfl, ?_⟩; intro w h; (try dsimp only at h); go_simp; all_goals with_reducible rfl)
          try simp only [Act.put, tI, tP, tQ]
          refine wpAnyH_take (i := 3) (oi := ?a132_3) (v := ?b132_3) ?c132_3 (by kernel_rfl) (by kernel_rfl) (by kernel_rfl) ?d132_3 ?e132_3 (by assumption) ?f132_3
          case c132_3 => simp only [tA, tS, tZ]; rfl
          case d132_3 => exact fun _ _ _ h => h
          case e132_3 => (refine Or.inl ⟨by rfl, ?_⟩; intro w h; (try dsimp only at h); go_simp; all_goals with_reducible rfl)
          try simp only [Act.put, tI, tP, tQ]
          refine wpAnyH_take (i := 4) (oi := ?a132_4) (v := ?b132_4) ?c132_4 (by kernel_rfl) (by kernel_rfl) (by kernel_rfl) ?d132_4 ?e132_4 (by assumption) ?f132_4
          case c132_4 => simp only [tA, tS, tZ]; rfl
          case d132_4 => exact fun _ _ _ h => h
          case e132_4 => (refine Or.inl ⟨by rfl, ?_⟩; intro w h; (try dsimp only at h); go_simp; all_goals with_reducible rfl)
          try simp only [Act.put, tI, tP, tQ]
          refine wpAnyH_take (i := 5) (oi := ?a132_5) (v := ?b132_5) ?c132_5 (by kernel_rfl) (by kernel_rfl) (by kernel_rfl) ?d132_5 ?e132_5 (by assumption) ?f132_5
          case c132_5 => simp only [tA, tS, tZ]; rfl
          case d132_5 => exact fun _ _ _ h => h
          case e132_5 => (refine Or.inl ⟨by rfl, ?_⟩; intro w h; (try dsimp only at h); go_simp; all_goals with_reducible rfl)
          try simp only [Act.put, tI, tP, tQ]
          refine wpAnyH_take (i := 6) (oi := ?a132_6) (v := ?b132_6) ?c132_6 (by kernel_rfl) (by kernel_rfl) (by kernel_rfl) ?d132_6 ?e132_6 (by assumption) ?f132_6
          case c132_6 => simp only [tA, tS, tZ]; rfl
          case d132_6 => exact fun _ _ _ h => h
          case e132_6 => (refine Or.inl ⟨by rfl, ?_⟩; intro w h; (try dsimp only at h); go_simp; all_goals with_reducible rfl)
          try simp only [Act.put, tI, tP, tQ]
          refine wpAnyH_take (i := 7) (oi := ?a132_7) (v := ?b132_7) ?c132_7 (by kernel_rfl) (by kernel_rfl) (by kernel_rfl) ?d132_7 ?e132_7 (by assumption) ?f132_7
          case c132_7 => simp only [tA, tS, tZ]; rfl
          case d132_7 => exact fun _ _ _ h => h
          case e132_7 => (refine Or.inl ⟨by rfl, ?_⟩; intro w h; (try dsimp only at h); go_simp; all_goals with_reducible rfl)
          try simp only [Act.put, tI, tP, tQ]
          refine wpAnyH_take (i := 8) (oi := ?a132_8) (v := ?b132_8) ?c132_8 (by kernel_rfl) (by kernel_rfl) (by kernel_rfl) ?d132_8 ?e132_8 (by assumption) ?f132_8
          case c132_8 => simp only [tA, tS, tZ]; rfl
          case d132_8 => exact fun _ _ _ h => h
          case e132_8 => (refine Or.inl ⟨by rfl, ?_⟩; intro w h; (try dsimp only at h); go_simp; all_goals with_reducible rfl)
          try simp only [Act.put, tI, tP, tQ]
          refine wpAnyH_take (i := 9) (oi := ?a132_9) (v := ?b132_9) ?c132_9 (by kernel_rfl) (by kernel_rfl) (by kernel_rfl) ?d132_9 ?e132_9 (by assumption) ?f132_9
          case c132_9 => simp only [tA, tS, tZ]; rfl
          case d132_9 => exact fun _ _ _ h => h
          case e132_9 => (refine Or.inl ⟨by rfl, ?_⟩; intro w h; (try dsimp only at h); go_simp; all_goals with_reducible rfl)
          try simp only [Act.put, tI, tP, tQ]
          refine wpAnyH_ready (rs := [10]) (by kernel_rfl) (by simp) ?_
          refine AllReadyH.cons (o := ?or133_10) ?hor133_10 (fun K hK => ?kr133_10) AllReadyH.nil
          case hor133_10 => simp only [List.getElem?_toArray, List.getElem?_cons_succ, List.getElem?_cons_zero]; rfl
          go_simp
          have cc := cmAtMost_any wD ys rb1
          rw [BL.out] at cc
          refine cc.mono ?_
          rintro e2 wE ⟨rfl, hb⟩
          clear cc
          have R3 := R3.later hb
          have ys := ys.below hb
          have rb1 := rb1.below hb
          clear hb
          go_wp2_with fail
          refine hK.out _ _ ?_ (fun hHeld => ?_)
          · exact ⟨R3.cell 8 _ rfl, R3.cell 9 _ rfl⟩
          clear hK K
          try simp only [Act.put, List.setIfInBounds_toArray, List.set_cons_zero, List.set_cons_succ]
          refine wpAnyH_take (i := 11) (oi := ?a134_11) (v := ?b134_11) ?c134_11 (by kernel_rfl) (by kernel_rfl) (by kernel_rfl) ?d134_11 ?e134_11 (by assumption) ?f134_11
          case c134_11 => simp only [tA, tS, tZ]; rfl
          case d134_11 => exact fun _ _ _ h => h
          case e134_11 => (refine Or.inl ⟨by rfl, ?_⟩; intro w h; (try dsimp only at h); go_simp; all_goals with_reducible rfl)
          try simp only [Act.put, tI, tP, tQ]
          refine wpAnyH_done (by kernel_rfl) ?_ _
          clear hHeld
          go_wp2_with fail
          go_ret
          refine .inr ⟨_, _, _, _, _, _, e.out, rfl, R3, ?_, ?_⟩
          · rw [(show (stepC q (2 : Int)).lev = limbs (nextC q L (2 : Int)) by show limbs (nextC q (val q.lev) (2 : Int)) = _; rw [vld.out.lev, val_limbs])]; exact ys
          · rw [(show (stepC q (2 : Int)).best = limbs B by show limbs (max (val q.best) (nextC q (val q.lev) (2 : Int))) = _; rw [vld.out.lev, vld.out.best, val_limbs, val_limbs, Nat.max_eq_left HB.out])]; exact rb1
        · have BL := Lib.hid (show leC (limbs (nextC q L (2 : Int))) (limbs B) = false by rw [leC_ok nextC_lt vld.out.pw.2]; exact decide_eq_false hB)
          have HB := Lib.hid hB
          clear hB
          have hb := (Below.refl wC.heap.size wC).drew
          have R3 := R3.later hb
          have ys := ys.below hb
          have rb1 := rb1.below hb
          clear hb
          refine wp_region_held_drew (S := (fun w' => w'.cell? ⟨k, 8, none⟩ = some (.slice as' ns' cs') ∧ w'.cell? ⟨k, 9, none⟩ = some (.slice b m d))) (by kernel_rfl) ?_ (fun hHeld => ?_)
          · exact ⟨R3.cell 8 _ rfl, R3.cell 9 _ rfl⟩
          generalize wC.drew = wD at *
          refine wpAnyH_take (i := 0) (oi := ?a135_0) (v := ?b135_0) ?c135_0 (by kernel_rfl) (by kernel_rfl) (by kernel_rfl) ?d135_0 ?e135_0 (by assumption) ?f135_0
          case c135_0 => simp only [tA, tS, tZ]; rfl
          case d135_0 => exact fun _ _ _ h => h
          case e135_0 => (refine Or.inl ⟨by rfl, ?_⟩; intro w h; (try dsimp only at h); go_simp; all_goals with_reducible rfl)
          try simp only [Act.put, tI, tP, tQ]
          refine wpAnyH_take (i := 1) (oi := ?a135_1) (v := ?b135_1) ?c135_1 (by kernel_rfl) (by kernel_rfl) (by kernel_rfl) ?d135_1 ?e135_1 (by assumption) ?f135_1
          case c135_1 => simp only [tA, tS, tZ]; rfl
          case d135_1 => exact fun _ _ _ h => h
          case e135_1 => (refine Or.inl ⟨by rfl, ?_⟩; intro w h; (try dsimp only at h); go_simp; all_goals with_reducible rfl)
          try simp only [Act.put, tI, tP, tQ]
          refine wpAnyH_take (i := 2) (oi := ?a135_2) (v := ?b135_2) ?c135_2 (by kernel_rfl) (by kernel_rfl) (by kernel_rfl) ?d135_2 ?e135_2 (by assumption) ?f135_2
          case c135_2 => simp only [tA, tS, tZ]; rfl
          case d135_2 => exact fun _ _ _ h => h
          case e135_2 => (refine Or.inl ⟨by rfl, ?_⟩; intro w h; (try dsimp only at h); go_simp; all_goals with_reducible rfl)
          try simp only [Act.put, tI, tP, tQ]
          refine wpAnyH_take (i := 3) (oi := ?a135_3) (v := ?b135_3) ?c135_3 (by kernel_rfl) (by kernel_rfl) (by kernel_rfl) ?d135_3 ?e135_3 (by assumption) ?f135_3
          case c135_3 => simp only [tA, tS, tZ]; rfl
          case d135_3 => exact fun _ _ _ h => h
          case e135_3 => (refine Or.inl ⟨by rfl, ?_⟩; intro w h; (try dsimp only at h); go_simp; all_goals with_reducible rfl)
          try simp only [Act.put, tI, tP, tQ]
          refine wpAnyH_take (i := 4) (oi := ?a135_4) (v := ?b135_4) ?c135_4 (by kernel_rfl) (by kernel_rfl) (by kernel_rfl) ?d135_4 ?e135_4 (by assumption) ?f135_4
          case c135_4 => simp only [tA, tS, tZ]; rfl
          case d135_4 => exact fun _ _ _ h => h
          case e135_4 => (refine Or.inl ⟨by rfl, ?_⟩; intro w h; (try dsimp only at h); go_simp; all_goals with_reducible rfl)
          try simp only [Act.put, tI, tP, tQ]
          refine wpAnyH_take (i := 5) (oi := ?a135_5) (v := ?b135_5) ?c135_5 (by kernel_rfl) (by kernel_rfl) (by kernel_rfl) ?d135_5 ?e135_5 (by assumption) ?f135_5
          case c135_5 => simp only [tA, tS, tZ]; rfl
          case d135_5 => exact fun _ _ _ h => h
          case e135_5 => (refine Or.inl ⟨by rfl, ?_⟩; intro w h; (try dsimp only at h); go_simp; all_goals with_reducible rfl)
          try simp only [Act.put, tI, tP, tQ]
          refine wpAnyH_take (i := 6) (oi := ?a135_6) (v := ?b135_6) ?c135_6 (by kernel_rfl) (by kernel_rfl) (by kernel_rfl) ?d135_6 ?e135_6 (by assumption) ?f135_6
          case c135_6 => simp only [tA, tS, tZ]; rfl
          case d135_6 => exact fun _ _ _ h => h
          case e135_6 => (refine Or.inl ⟨by rfl, ?_⟩; intro w h; (try dsimp only at h); go_simp; all_goals with_reducible rfl)
          try simp only [Act.put, tI, tP, tQ]
          refine wpAnyH_take (i := 7) (oi := ?a135_7) (v := ?b135_7) ?c135_7 (by kernel_rfl) (by kernel_rfl) (by kernel_rfl) ?d135_7 ?e135_7 (by assumption) ?f135_7
          case c135_7 => simp only [tA, tS, tZ]; rfl
          case d135_7 => exact fun _ _ _ h => h
          case e135_7 => (refine Or.inl ⟨by rfl, ?_⟩; intro w h; (try dsimp only at h); go_simp; all_goals with_reducible rfl)
          try simp only [Act.put, tI, tP, tQ]
          refine wpAnyH_take (i := 8) (oi := ?a135_8) (v := ?b135_8) ?c135_8 (by kernel_rfl) (by kernel_rfl) (by kernel_rfl) ?d135_8 ?e135_8 (by assumption) ?f135_8
          case c135_8 => simp only [tA, tS, tZ]; rfl
          case d135_8 => exact fun _ _ _ h => h
          case e135_8 => (refine Or.inl ⟨by rfl, ?_⟩; intro w h; (try dsimp only at h); go_simp; all_goals with_reducible rfl)
          try simp only [Act.put, tI, tP, tQ]
          refine wpAnyH_take (i := 9) (oi := ?a135_9) (v := ?b135_9) ?c135_9 (by kernel_rfl) (by kernel_rfl) (by kernel_rfl) ?d135_9 ?e135_9 (by assumption) ?f135_9
          case c135_9 => simp only [tA, tS, tZ]; rfl
          case d135_9 => exact fun _ _ _ h => h
          case e135_9 => (refine Or.inl ⟨by rfl, ?_⟩; intro w h; (try dsimp only at h); go_simp; all_goals with_reducible rfl)
          try simp only [Act.put, tI, tP, tQ]
          refine wpAnyH_ready (rs := [10]) (by kernel_rfl) (by simp) ?_
          refine AllReadyH.cons (o := ?or136_10) ?hor136_10 (fun K hK => ?kr136_10) AllReadyH.nil
          case hor136_10 => simp only [List.getElem?_toArray, List.getElem?_cons_succ, List.getElem?_cons_zero]; rfl
          go_simp
          have cc := cmAtMost_any wD ys rb1
          rw [BL.out] at cc
          refine cc.mono ?_
          rintro e2 wE ⟨rfl, hb⟩
          clear cc
          have R3 := R3.later hb
          have ys := ys.below hb
          have rb1 := rb1.below hb
          clear hb
          go_wp2_with fail
          refine hK.out _ _ ?_ (fun hHeld => ?_)
          · exact ⟨R3.cell 8 _ rfl, R3.cell 9 _ rfl⟩
          clear hK K
          try simp only [Act.put, List.setIfInBounds_toArray, List.set_cons_zero, List.set_cons_succ]
          refine wpAnyH_take (i := 11) (oi := ?a137_11) (v := ?b137_11) ?c137_11 (by kernel_rfl) (by kernel_rfl) (by kernel_rfl) ?d137_11 ?e137_11 (by assumption) ?f137_11
          case c137_11 => simp only [tA, tS, tZ]; rfl
          case d137_11 => exact fun _ _ _ h => h
          case e137_11 => (refine Or.inl ⟨by rfl, ?_⟩; intro w h; (try dsimp only at h); go_simp; all_goals with_reducible rfl)
          try simp only [Act.put, tI, tP, tQ]
          refine wpAnyH_done (by kernel_rfl) ?_ _
          clear hHeld
          have k8 : wE.cell? ⟨k, 8, none⟩ = some (.slice as' ns' cs') := R3.cell 8 _ rfl
          go_wp2_with fail
          refine (Clone_any wE ys (by have h1 := ys.len; have h2 := limbs_len_le (k := 96) (show nextC q L (2 : Int) < pw 96 from Nat.lt_of_le_of_lt (Nat.min_le_right _ _) most_pw); omega)).mono ?_
          rintro e2 wF ⟨ak, nk, ck, rfl, yk, hb⟩
          have R3 := R3.later hb
          have ys := ys.below hb
          have rb1 := rb1.below hb
          clear hb k8
          have fr9 := R3.free 9
          have k9 := R3.cell 9 _ rfl
          have R4 : PRow 66 wb (wF.setCell ⟨k, 9, none⟩ (.slice ak nk ck)) k (cmC (bumpC q (2 : Int)) as' ns' cs' ak nk ck) := R3.set 9 (.slice ak nk ck)
          have yk := rd_setcell (i := 9) yk R3.row (cm_noint _ _ _ _ _ _ _) (.slice ak nk ck)
          have yl := rd_setcell (i := 9) ys R3.row (cm_noint _ _ _ _ _ _ _) (.slice ak nk ck)
          go_wp2_with fail
          go_ret
          refine .inr ⟨_, _, _, _, _, _, e.out, rfl, R4, ?_, ?_⟩
          · rw [(show (stepC q (2 : Int)).lev = limbs (nextC q L (2 : Int)) by show limbs (nextC q (val q.lev) (2 : Int)) = _; rw [vld.out.lev, val_limbs])]; exact yl
          · rw [(show (stepC q (2 : Int)).best = limbs (nextC q L (2 : Int)) by show limbs (max (val q.best) (nextC q (val q.lev) (2 : Int))) = _; rw [vld.out.lev, vld.out.best, val_limbs, val_limbs, Nat.max_eq_right (Nat.le_of_lt (Nat.lt_of_not_le HB.out))])]; exact yk

end Go.Proofs.Ytmkcdlhhbnakiaa
