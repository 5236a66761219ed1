/- Observing the overstatement 1. -/
import Derived.Test.YtmkcdlhhbnakiaaCmpV
namespace Go.Proofs.Ytmkcdlhhbnakiaa
open Go.RowKit Go.Suf
set_option linter.unusedVariables false
set_option linter.unusedSimpArgs false

set_option maxRecDepth 100000 in
set_option maxHeartbeats 8000000 in
theorem see3_any (wb w : World) {q : CV} {a b : Option Addr} {n m c d k L B : Nat} (R : PRow 66 wb w k (cmC q a n c b m d)) (ra : Rd .u32 w a n c (limbs L)) (rb : Rd .u32 w b m d (limbs B)) (vld' : VldC q L B) :
    Calls Try.prog 42 #[.pointer (some ⟨k, 0, none⟩), .int .i64 (1)] w (RetSee wb k q (1)) := by
  have vld := Lib.hid vld'
  clear vld'
  have k0 := R.cell 0 _ rfl
  have k1 := R.cell 1 _ rfl
  have k2 := R.cell 2 _ rfl
  have k3 := R.cell 3 _ rfl
  have k4 := R.cell 4 _ rfl
  have k5 := R.cell 5 _ rfl
  have k6 := R.cell 6 _ rfl
  have k7 := R.cell 7 _ rfl
  have k8 := R.cell 8 _ rfl
  have k9 := R.cell 9 _ rfl
  have fr := R.free 6
  have HF := Lib.hid (show seenAtC q (1 : Int) = q.s3 from rfl)
  have sv := vld.out.s3
  unfold inS at sv
  by_cases full : q.s3 = 1000000
  · have e := Lib.hid (show obs1C q (1 : Int) = none from obs1C_out (.inr (.inr (by rw [HF.out]; omega))))
    have d2 : (q.s3 == 1000000) = true := beq_iff_eq.2 full
    clear full sv
    go_enter Try.func42, Try.ntmps42
    go_wp2_with fail
    have cc := within_any w (1 : Int) (-2) 2
    rw [decide_eq_true (show (-2 : Int) ≤ (1 : Int) ∧ (1 : Int) ≤ 2 by decide)] at cc
    refine cc.mono ?_
    rintro e1 w9 ⟨rfl, hw⟩
    have hw := hw.symm
    subst hw
    clear cc
    go_wp2_with fail
    go_ret
    exact .inl ⟨e.out, rfl, R.below⟩
  have d2 : (q.s3 == 1000000) = false := beq_eq_false_iff_ne.2 full
  have e := Lib.hid (show obs1C q (1 : Int) = some (stepC q (1 : Int)) from obs1C_in (by rw [HF.out]; omega))
  have sv1 : q.s3 < 1000000 := by omega
  have sv0 : 0 ≤ q.s3 := by omega
  have wi : IntKind.i64.wrap (q.s3 + 1) = q.s3 + 1 := wrap_in (by omega) (by omega)
  clear full sv
  go_enter Try.func42, Try.ntmps42
  go_wp2_with fail
  have cc := within_any w (1 : Int) (-2) 2
  rw [decide_eq_true (show (-2 : Int) ≤ (1 : Int) ∧ (1 : Int) ≤ 2 by decide)] at cc
  refine cc.mono ?_
  rintro e1 w9 ⟨rfl, hw⟩
  have hw := hw.symm
  subst hw
  clear cc
  go_upto_region 4 with fail
  refine wp_region_any (by kernel_rfl) ?_
  change wpAny _ _ _ _ _ _ _ (World.drew _)
  refine wpAny_take (i := 0) (oi := ?a85_0) (v := ?b85_0) ?c85_0 (by kernel_rfl) (by kernel_rfl) (by kernel_rfl) ?d85_0 ?e85_0 ?f85_0
  case c85_0 => simp only [tA, tS, tZ]; rfl
  case d85_0 => exact fun _ _ _ h => h
  case e85_0 => (refine Or.inl ⟨by rfl, ?_⟩; intro w; go_simp; all_goals with_reducible rfl)
  try simp only [Act.put, tI, tP, tQ]
  refine wpAny_take (i := 1) (oi := ?a85_1) (v := ?b85_1) ?c85_1 (by kernel_rfl) (by kernel_rfl) (by kernel_rfl) ?d85_1 ?e85_1 ?f85_1
  case c85_1 => simp only [tA, tS, tZ]; rfl
  case d85_1 => exact fun _ _ _ h => h
  case e85_1 => (refine Or.inl ⟨by rfl, ?_⟩; intro w; go_simp; all_goals with_reducible rfl)
  try simp only [Act.put, tI, tP, tQ]
  refine wpAny_take (i := 2) (oi := ?a85_2) (v := ?b85_2) ?c85_2 (by kernel_rfl) (by kernel_rfl) (by kernel_rfl) ?d85_2 ?e85_2 ?f85_2
  case c85_2 => simp only [tA, tS, tZ]; rfl
  case d85_2 => exact fun _ _ _ h => h
  case e85_2 => (refine Or.inl ⟨by rfl, ?_⟩; intro w; go_simp; all_goals with_reducible rfl)
  try simp only [Act.put, tI, tP, tQ]
  refine wpAny_take (i := 3) (oi := ?a85_3) (v := ?b85_3) ?c85_3 (by kernel_rfl) (by kernel_rfl) (by kernel_rfl) ?d85_3 ?e85_3 ?f85_3
  case c85_3 => simp only [tA, tS, tZ]; rfl
  case d85_3 => exact fun _ _ _ h => h
  case e85_3 => (refine Or.inl ⟨by rfl, ?_⟩; intro w; go_simp; all_goals with_reducible rfl)
  try simp only [Act.put, tI, tP, tQ]
  refine wpAny_take (i := 4) (oi := ?a85_4) (v := ?b85_4) ?c85_4 (by kernel_rfl) (by kernel_rfl) (by kernel_rfl) ?d85_4 ?e85_4 ?f85_4
  case c85_4 => simp only [tA, tS, tZ]; rfl
  case d85_4 => exact fun _ _ _ h => h
  case e85_4 => (refine Or.inl ⟨by rfl, ?_⟩; intro w; go_simp; all_goals with_reducible rfl)
  try simp only [Act.put, tI, tP, tQ]
  refine wpAny_take (i := 5) (oi := ?a85_5) (v := ?b85_5) ?c85_5 (by kernel_rfl) (by kernel_rfl) (by kernel_rfl) ?d85_5 ?e85_5 ?f85_5
  case c85_5 => simp only [tA, tS, tZ]; rfl
  case d85_5 => exact fun _ _ _ h => h
  case e85_5 => (refine Or.inl ⟨by rfl, ?_⟩; intro w; go_simp; all_goals with_reducible rfl)
  try simp only [Act.put, tI, tP, tQ]
  refine wpAny_take (i := 8) (oi := ?a85_8) (v := ?b85_8) ?c85_8 (by kernel_rfl) (by kernel_rfl) (by kernel_rfl) ?d85_8 ?e85_8 ?f85_8
  case c85_8 => simp only [tA, tS, tZ]; rfl
  case d85_8 => exact fun _ _ _ h => h
  case e85_8 => (refine Or.inl ⟨by rfl, ?_⟩; intro w; go_simp; all_goals with_reducible rfl)
  try simp only [Act.put, tI, tP, tQ]
  refine wpAny_take (i := 9) (oi := ?a85_9) (v := ?b85_9) ?c85_9 (by kernel_rfl) (by kernel_rfl) (by kernel_rfl) ?d85_9 ?e85_9 ?f85_9
  case c85_9 => simp only [tA, tS, tZ]; rfl
  case d85_9 => exact fun _ _ _ h => h
  case e85_9 => (refine Or.inl ⟨by rfl, ?_⟩; intro w; go_simp; all_goals with_reducible rfl)
  try simp only [Act.put, tI, tP, tQ]
  refine wpAny_take (i := 10) (oi := ?a85_10) (v := ?b85_10) ?c85_10 (by kernel_rfl) (by kernel_rfl) (by kernel_rfl) ?d85_10 ?e85_10 ?f85_10
  case c85_10 => simp only [tA, tS, tZ]; rfl
  case d85_10 => exact fun _ _ _ h => h
  case e85_10 => (refine Or.inl ⟨by rfl, ?_⟩; intro w; go_simp; all_goals with_reducible rfl)
  try simp only [Act.put, tI, tP, tQ]
  refine wpAny_ready (rs := [6]) (by kernel_rfl) (by simp) ?_
  refine (AllReady.cons (o := ?ob112_6) ?hob112_6 (fun K hK => ?kb112_6) AllReady.nil)
  case hob112_6 => simp only [List.getElem?_toArray, List.getElem?_cons_succ, List.getElem?_cons_zero]; rfl
  case kb112_6 =>
    go_simp
    refine hK _ _ ?_
    clear hK K
    try simp only [Act.put, List.setIfInBounds_toArray, List.set_cons_zero, List.set_cons_succ]
    refine wpAny_take (i := 7) (oi := ?a111_7) (v := ?b111_7) ?c111_7 (by kernel_rfl) (by kernel_rfl) (by kernel_rfl) ?d111_7 ?e111_7 ?f111_7
    case c111_7 => simp only [tA, tS, tZ]; rfl
    case d111_7 => exact fun _ _ _ h => h
    case e111_7 => (refine Or.inl ⟨by rfl, ?_⟩; intro w; go_simp; all_goals with_reducible rfl)
    try simp only [Act.put, tI, tP, tQ]
    refine wpAny_take (i := 11) (oi := ?a111_11) (v := ?b111_11) ?c111_11 (by kernel_rfl) (by kernel_rfl) (by kernel_rfl) ?d111_11 ?e111_11 ?f111_11
    case c111_11 => simp only [tA, tS, tZ]; rfl
    case d111_11 => exact fun _ _ _ h => h
    case e111_11 => (refine Or.inl ⟨by rfl, ?_⟩; intro w; go_simp; all_goals with_reducible rfl)
    try simp only [Act.put, tI, tP, tQ]
    refine wpAny_ready (rs := [12]) (by kernel_rfl) (by simp) ?_
    refine (AllReady.cons (o := ?ob110_12) ?hob110_12 (fun K hK => ?kb110_12) AllReady.nil)
    case hob110_12 => simp only [List.getElem?_toArray, List.getElem?_cons_succ, List.getElem?_cons_zero]; rfl
    case kb110_12 =>
      go_simp
      refine hK _ _ ?_
      clear hK K
      try simp only [Act.put, List.setIfInBounds_toArray, List.set_cons_zero, List.set_cons_succ]
      refine wpAny_done (by kernel_rfl) ?_ _
      have R0 : PRow 66 wb (w.setCell ⟨k, 6, none⟩ (.int .i64 (q.s3 + 1))) k (cmC (bumpC q (1 : Int)) a n c b m d) := R.set 6 (.int .i64 (q.s3 + 1))
      have D0 := (Below.refl (w.setCell ⟨k, 6, none⟩ (.int .i64 (q.s3 + 1))).heap.size (w.setCell ⟨k, 6, none⟩ (.int .i64 (q.s3 + 1)))).drew
      have ra1 := (rd_setcell (i := 6) ra R.row (cm_noint _ _ _ _ _ _ _) (.int .i64 (q.s3 + 1))).below D0
      have rb1 := (rd_setcell (i := 6) rb R.row (cm_noint _ _ _ _ _ _ _) (.int .i64 (q.s3 + 1))).below D0
      have R1 := R0.later D0
      clear k0 k1 k2 k3 k4 k5 k6 k7 k8 k9 fr D0 R0 sv0 sv1 d2 wi
      generalize (w.setCell ⟨k, 6, none⟩ (.int .i64 (q.s3 + 1))).drew = w1 at *
      have k0 : w1.cell? ⟨k, 0, none⟩ = some (.int .i64 q.bet) := R1.cell 0 _ rfl
      have k1 : w1.cell? ⟨k, 1, none⟩ = some (.int .i64 q.ballots) := R1.cell 1 _ rfl
      have k2 : w1.cell? ⟨k, 2, none⟩ = some (.int .i64 q.margin) := R1.cell 2 _ rfl
      have k8 : w1.cell? ⟨k, 8, none⟩ = some (.slice a n c) := R1.cell 8 _ rfl
      have n1' : 1 ≤ q.ballots := vld.out.may.2.1.1
      have n2' : q.ballots ≤ 1000000 := vld.out.may.2.1.2
      have LP := Lib.hid vld.out.pw.1
      have LF := Lib.hid (show L * factC q (1 : Int) < pw 96 from Nat.lt_of_lt_of_le (mul_lt_pw (show L < pw 5 from Nat.lt_of_le_of_lt (Nat.le_trans vld.out.le vld.out.hi) (by decide)) (show factC q (1 : Int) < pw 2 from (fact_bd vld.out.may (by decide) (by decide)).1)) (pw_le (by decide)))
      go_upto_region 6 with fail
      have hb := (Below.refl w1.heap.size w1).drew
      have R1 := R1.later hb
      have ra1 := ra1.below hb
      have rb1 := rb1.below hb
      clear hb k0 k1 k2 k8
      refine wp_region_held_drew (S := (fun w' => w'.cell? ⟨k, 0, none⟩ = some (.int .i64 q.bet) ∧ w'.cell? ⟨k, 1, none⟩ = some (.int .i64 q.ballots) ∧ w'.cell? ⟨k, 2, none⟩ = some (.int .i64 q.margin) ∧ w'.cell? ⟨k, 8, none⟩ = some (.slice a n c))) (by kernel_rfl) ?_ (fun hHeld => ?_)
      · exact ⟨R1.cell 0 _ rfl, R1.cell 1 _ rfl, R1.cell 2 _ rfl, R1.cell 8 _ rfl⟩
      generalize w1.drew = w2 at *
      refine wpAnyH_take (i := 0) (oi := ?a86_0) (v := ?b86_0) ?c86_0 (by kernel_rfl) (by kernel_rfl) (by kernel_rfl) ?d86_0 ?e86_0 (by assumption) ?f86_0
      case c86_0 => simp only [tA, tS, tZ]; rfl
      case d86_0 => exact fun _ _ _ h => h
      case e86_0 => (refine Or.inl ⟨by rfl, ?_⟩; intro w h; (try dsimp only at h); go_simp; all_goals with_reducible rfl)
      try simp only [Act.put, tI, tP, tQ]
      refine wpAnyH_take (i := 1) (oi := ?a86_1) (v := ?b86_1) ?c86_1 (by kernel_rfl) (by kernel_rfl) (by kernel_rfl) ?d86_1 ?e86_1 (by assumption) ?f86_1
      case c86_1 => simp only [tA, tS, tZ]; rfl
      case d86_1 => exact fun _ _ _ h => h
      case e86_1 => (refine Or.inl ⟨by rfl, ?_⟩; intro w h; (try dsimp only at h); go_simp; all_goals with_reducible rfl)
      try simp only [Act.put, tI, tP, tQ]
      refine wpAnyH_take (i := 2) (oi := ?a86_2) (v := ?b86_2) ?c86_2 (by kernel_rfl) (by kernel_rfl) (by kernel_rfl) ?d86_2 ?e86_2 (by assumption) ?f86_2
      case c86_2 => simp only [tA, tS, tZ]; rfl
      case d86_2 => exact fun _ _ _ h => h
      case e86_2 => (refine Or.inl ⟨by rfl, ?_⟩; intro w h; (try dsimp only at h); go_simp; all_goals with_reducible rfl)
      try simp only [Act.put, tI, tP, tQ]
      refine wpAnyH_take (i := 3) (oi := ?a86_3) (v := ?b86_3) ?c86_3 (by kernel_rfl) (by kernel_rfl) (by kernel_rfl) ?d86_3 ?e86_3 (by assumption) ?f86_3
      case c86_3 => simp only [tA, tS, tZ]; rfl
      case d86_3 => exact fun _ _ _ h => h
      case e86_3 => (refine Or.inl ⟨by rfl, ?_⟩; intro w h; (try dsimp only at h); go_simp; all_goals with_reducible rfl)
      try simp only [Act.put, tI, tP, tQ]
      refine wpAnyH_take (i := 4) (oi := ?a86_4) (v := ?b86_4) ?c86_4 (by kernel_rfl) (by kernel_rfl) (by kernel_rfl) ?d86_4 ?e86_4 (by assumption) ?f86_4
      case c86_4 => simp only [tA, tS, tZ]; rfl
      case d86_4 => exact fun _ _ _ h => h
      case e86_4 => (refine Or.inl ⟨by rfl, ?_⟩; intro w h; (try dsimp only at h); go_simp; all_goals with_reducible rfl)
      try simp only [Act.put, tI, tP, tQ]
      refine wpAnyH_take (i := 5) (oi := ?a86_5) (v := ?b86_5) ?c86_5 (by kernel_rfl) (by kernel_rfl) (by kernel_rfl) ?d86_5 ?e86_5 (by assumption) ?f86_5
      case c86_5 => simp only [tA, tS, tZ]; rfl
      case d86_5 => exact fun _ _ _ h => h
      case e86_5 => (refine Or.inl ⟨by rfl, ?_⟩; intro w h; (try dsimp only at h); go_simp; all_goals with_reducible rfl)
      try simp only [Act.put, tI, tP, tQ]
      refine wpAnyH_take (i := 6) (oi := ?a86_6) (v := ?b86_6) ?c86_6 (by kernel_rfl) (by kernel_rfl) (by kernel_rfl) ?d86_6 ?e86_6 (by assumption) ?f86_6
      case c86_6 => simp only [tA, tS, tZ]; rfl
      case d86_6 => exact fun _ _ _ h => h
      case e86_6 => (refine Or.inl ⟨by rfl, ?_⟩; intro w h; (try dsimp only at h); go_simp; all_goals with_reducible rfl)
      try simp only [Act.put, tI, tP, tQ]
      refine wpAnyH_take (i := 7) (oi := ?a86_7) (v := ?b86_7) ?c86_7 (by kernel_rfl) (by kernel_rfl) (by kernel_rfl) ?d86_7 ?e86_7 (by assumption) ?f86_7
      case c86_7 => simp only [tA, tS, tZ]; rfl
      case d86_7 => exact fun _ _ _ h => h
      case e86_7 => (refine Or.inl ⟨by rfl, ?_⟩; intro w h; (try dsimp only at h); go_simp; all_goals with_reducible rfl)
      try simp only [Act.put, tI, tP, tQ]
      refine wpAnyH_take (i := 8) (oi := ?a86_8) (v := ?b86_8) ?c86_8 (by kernel_rfl) (by kernel_rfl) (by kernel_rfl) ?d86_8 ?e86_8 (by assumption) ?f86_8
      case c86_8 => simp only [tA, tS, tZ]; rfl
      case d86_8 => exact fun _ _ _ h => h
      case e86_8 => (refine Or.inl ⟨by rfl, ?_⟩; intro w h; (try dsimp only at h); go_simp; all_goals with_reducible rfl)
      try simp only [Act.put, tI, tP, tQ]
      refine wpAnyH_take (i := 9) (oi := ?a86_9) (v := ?b86_9) ?c86_9 (by kernel_rfl) (by kernel_rfl) (by kernel_rfl) ?d86_9 ?e86_9 (by assumption) ?f86_9
      case c86_9 => simp only [tA, tS, tZ]; rfl
      case d86_9 => exact fun _ _ _ h => h
      case e86_9 => (refine Or.inl ⟨by rfl, ?_⟩; intro w h; (try dsimp only at h); go_simp; all_goals with_reducible rfl)
      try simp only [Act.put, tI, tP, tQ]
      refine wpAnyH_take (i := 10) (oi := ?a86_10) (v := ?b86_10) ?c86_10 (by kernel_rfl) (by kernel_rfl) (by kernel_rfl) ?d86_10 ?e86_10 (by assumption) ?f86_10
      case c86_10 => simp only [tA, tS, tZ]; rfl
      case d86_10 => exact fun _ _ _ h => h
      case e86_10 => (refine Or.inl ⟨by rfl, ?_⟩; intro w h; (try dsimp only at h); go_simp; all_goals with_reducible rfl)
      try simp only [Act.put, tI, tP, tQ]
      refine wpAnyH_take (i := 11) (oi := ?a86_11) (v := ?b86_11) ?c86_11 (by kernel_rfl) (by kernel_rfl) (by kernel_rfl) ?d86_11 ?e86_11 (by assumption) ?f86_11
      case c86_11 => simp only [tA, tS, tZ]; rfl
      case d86_11 => exact fun _ _ _ h => h
      case e86_11 => (refine Or.inl ⟨by rfl, ?_⟩; intro w h; (try dsimp only at h); go_simp; all_goals with_reducible rfl)
      try simp only [Act.put, tI, tP, tQ]
      refine wpAnyH_take (i := 12) (oi := ?a86_12) (v := ?b86_12) ?c86_12 (by kernel_rfl) (by kernel_rfl) (by kernel_rfl) ?d86_12 ?e86_12 (by assumption) ?f86_12
      case c86_12 => simp only [tA, tS, tZ]; rfl
      case d86_12 => exact fun _ _ _ h => h
      case e86_12 => (refine Or.inl ⟨by rfl, ?_⟩; intro w h; (try dsimp only at h); go_simp; all_goals with_reducible rfl)
      try simp only [Act.put, tI, tP, tQ]
      refine wpAnyH_take (i := 13) (oi := ?a86_13) (v := ?b86_13) ?c86_13 (by kernel_rfl) (by kernel_rfl) (by kernel_rfl) ?d86_13 ?e86_13 (by assumption) ?f86_13
      case c86_13 => simp only [tA, tS, tZ]; rfl
      case d86_13 => exact fun _ _ _ h => h
      case e86_13 => (refine Or.inl ⟨by rfl, ?_⟩; intro w h; (try dsimp only at h); go_simp; all_goals with_reducible rfl)
      try simp only [Act.put, tI, tP, tQ]
      refine wpAnyH_take (i := 14) (oi := ?a86_14) (v := ?b86_14) ?c86_14 (by kernel_rfl) (by kernel_rfl) (by kernel_rfl) ?d86_14 ?e86_14 (by assumption) ?f86_14
      case c86_14 => simp only [tA, tS, tZ]; rfl
      case d86_14 => exact fun _ _ _ h => h
      case e86_14 => (refine Or.inl ⟨by rfl, ?_⟩; intro w h; (try dsimp only at h); go_simp; all_goals with_reducible rfl)
      try simp only [Act.put, tI, tP, tQ]
      refine wpAnyH_take (i := 15) (oi := ?a86_15) (v := ?b86_15) ?c86_15 (by kernel_rfl) (by kernel_rfl) (by kernel_rfl) ?d86_15 ?e86_15 (by assumption) ?f86_15
      case c86_15 => simp only [tA, tS, tZ]; rfl
      case d86_15 => exact fun _ _ _ h => h
      case e86_15 => (refine Or.inl ⟨by rfl, ?_⟩; intro w h; (try dsimp only at h); go_simp; all_goals with_reducible rfl)
      try simp only [Act.put, tI, tP, tQ]
      refine wpAnyH_take (i := 16) (oi := ?a86_16) (v := ?b86_16) ?c86_16 (by kernel_rfl) (by kernel_rfl) (by kernel_rfl) ?d86_16 ?e86_16 (by assumption) ?f86_16
      case c86_16 => simp only [tA, tS, tZ]; rfl
      case d86_16 => exact fun _ _ _ h => h
      case e86_16 => (refine Or.inl ⟨by rfl, ?_⟩; intro w h; (try dsimp only at h); go_simp; all_goals with_reducible rfl)
      try simp only [Act.put, tI, tP, tQ]
      refine wpAnyH_take (i := 17) (oi := ?a86_17) (v := ?b86_17) ?c86_17 (by kernel_rfl) (by kernel_rfl) (by kernel_rfl) ?d86_17 ?e86_17 (by assumption) ?f86_17
      case c86_17 => simp only [tA, tS, tZ]; rfl
      case d86_17 => exact fun _ _ _ h => h
      case e86_17 => (refine Or.inl ⟨by rfl, ?_⟩; intro w h; (try dsimp only at h); go_simp; all_goals with_reducible rfl)
      try simp only [Act.put, tI, tP, tQ]
      refine wpAnyH_take (i := 18) (oi := ?a86_18) (v := ?b86_18) ?c86_18 (by kernel_rfl) (by kernel_rfl) (by kernel_rfl) ?d86_18 ?e86_18 (by assumption) ?f86_18
      case c86_18 => simp only [tA, tS, tZ]; rfl
      case d86_18 => exact fun _ _ _ h => h
      case e86_18 => (refine Or.inl ⟨by rfl, ?_⟩; intro w h; (try dsimp only at h); go_simp; all_goals with_reducible rfl)
      try simp only [Act.put, tI, tP, tQ]
      refine wpAnyH_take (i := 19) (oi := ?a86_19) (v := ?b86_19) ?c86_19 (by kernel_rfl) (by kernel_rfl) (by kernel_rfl) ?d86_19 ?e86_19 (by assumption) ?f86_19
      case c86_19 => simp only [tA, tS, tZ]; rfl
      case d86_19 => exact fun _ _ _ h => h
      case e86_19 => (refine Or.inl ⟨by rfl, ?_⟩; intro w h; (try dsimp only at h); go_simp; all_goals with_reducible rfl)
      try simp only [Act.put, tI, tP, tQ]
      refine wpAnyH_take (i := 20) (oi := ?a86_20) (v := ?b86_20) ?c86_20 (by kernel_rfl) (by kernel_rfl) (by kernel_rfl) ?d86_20 ?e86_20 (by assumption) ?f86_20
      case c86_20 => simp only [tA, tS, tZ]; rfl
      case d86_20 => exact fun _ _ _ h => h
      case e86_20 => (refine Or.inl ⟨by rfl, ?_⟩; intro w h; (try dsimp only at h); go_simp; all_goals with_reducible rfl)
      try simp only [Act.put, tI, tP, tQ]
      refine wpAnyH_take (i := 21) (oi := ?a86_21) (v := ?b86_21) ?c86_21 (by kernel_rfl) (by kernel_rfl) (by kernel_rfl) ?d86_21 ?e86_21 (by assumption) ?f86_21
      case c86_21 => simp only [tA, tS, tZ]; rfl
      case d86_21 => exact fun _ _ _ h => h
      case e86_21 => (refine Or.inl ⟨by rfl, ?_⟩; intro w h; (try dsimp only at h); go_simp; all_goals with_reducible rfl)
      try simp only [Act.put, tI, tP, tQ]
      refine wpAnyH_take (i := 22) (oi := ?a86_22) (v := ?b86_22) ?c86_22 (by kernel_rfl) (by kernel_rfl) (by kernel_rfl) ?d86_22 ?e86_22 (by assumption) ?f86_22
      case c86_22 => simp only [tA, tS, tZ]; rfl
      case d86_22 => exact fun _ _ _ h => h
      case e86_22 => (refine Or.inl ⟨by rfl, ?_⟩; intro w h; (try dsimp only at h); go_simp; all_goals with_reducible rfl)
      try simp only [Act.put, tI, tP, tQ]
      refine wpAnyH_take (i := 23) (oi := ?a86_23) (v := ?b86_23) ?c86_23 (by kernel_rfl) (by kernel_rfl) (by kernel_rfl) ?d86_23 ?e86_23 (by assumption) ?f86_23
      case c86_23 => simp only [tA, tS, tZ]; rfl
      case d86_23 => exact fun _ _ _ h => h
      case e86_23 => (refine Or.inl ⟨by rfl, ?_⟩; intro w h; (try dsimp only at h); go_simp; all_goals with_reducible rfl)
      try simp only [Act.put, tI, tP, tQ]
      refine wpAnyH_take (i := 24) (oi := ?a86_24) (v := ?b86_24) ?c86_24 (by kernel_rfl) (by kernel_rfl) (by kernel_rfl) ?d86_24 ?e86_24 (by assumption) ?f86_24
      case c86_24 => simp only [tA, tS, tZ]; rfl
      case d86_24 => exact fun _ _ _ h => h
      case e86_24 => (refine Or.inl ⟨by rfl, ?_⟩; intro w h; (try dsimp only at h); go_simp; all_goals with_reducible rfl)
      try simp only [Act.put, tI, tP, tQ]
      refine wpAnyH_take (i := 25) (oi := ?a86_25) (v := ?b86_25) ?c86_25 (by kernel_rfl) (by kernel_rfl) (by kernel_rfl) ?d86_25 ?e86_25 (by assumption) ?f86_25
      case c86_25 => simp only [tA, tS, tZ]; rfl
      case d86_25 => exact fun _ _ _ h => h
      case e86_25 => (refine Or.inl ⟨by rfl, ?_⟩; intro w h; (try dsimp only at h); go_simp; all_goals with_reducible rfl)
      try simp only [Act.put, tI, tP, tQ]
      refine wpAnyH_take (i := 26) (oi := ?a86_26) (v := ?b86_26) ?c86_26 (by kernel_rfl) (by kernel_rfl) (by kernel_rfl) ?d86_26 ?e86_26 (by assumption) ?f86_26
      case c86_26 => simp only [tA, tS, tZ]; rfl
      case d86_26 => exact fun _ _ _ h => h
      case e86_26 => (refine Or.inl ⟨by rfl, ?_⟩; intro w h; (try dsimp only at h); go_simp; all_goals with_reducible rfl)
      try simp only [Act.put, tI, tP, tQ]
      have SF := see_fact vld.out.may (x := (1 : Int)) (Y := q.ballots) (by decide) (by decide) (by omega)
      rw [SF]
      clear SF
      refine wpAnyH_ready (rs := [27]) (by kernel_rfl) (by simp) ?_
      refine AllReadyH.cons (o := ?or87_27) ?hor87_27 (fun K hK => ?kr87_27) AllReadyH.nil
      case hor87_27 => simp only [List.getElem?_toArray, List.getElem?_cons_succ, List.getElem?_cons_zero]; rfl
      go_simp
      refine (Of_any w2 (factC q (1 : Int)) (fact_bd vld.out.may (by decide) (by decide)).1).mono ?_
      rintro e2 w3 ⟨af, nf, cf, rfl, yf, hb⟩
      have R1 := R1.later hb
      have ra1 := ra1.below hb
      have rb1 := rb1.below hb
      clear hb
      go_wp2_with fail
      refine hK.out _ _ ?_ (fun hHeld => ?_)
      · exact ⟨R1.cell 0 _ rfl, R1.cell 1 _ rfl, R1.cell 2 _ rfl, R1.cell 8 _ rfl⟩
      clear hK K
      try simp only [Act.put, List.setIfInBounds_toArray, List.set_cons_zero, List.set_cons_succ]
      refine wpAnyH_ready (rs := [28]) (by kernel_rfl) (by simp) ?_
      refine AllReadyH.cons (o := ?or88_28) ?hor88_28 (fun K hK => ?kr88_28) AllReadyH.nil
      case hor88_28 => simp only [List.getElem?_toArray, List.getElem?_cons_succ, List.getElem?_cons_zero]; rfl
      go_simp
      have cc := Mul_any w3 ra1 yf
      rw [mul_ok LP.out (Nat.lt_of_lt_of_le (show factC q (1 : Int) < pw 2 from (fact_bd vld.out.may (by decide) (by decide)).1) (pw_le (by decide))) LF.out] at cc
      refine cc.mono ?_
      rintro e2 w4 ⟨ax, nx, cx, rfl, yx, hb⟩
      clear cc
      have R1 := R1.later hb
      have ra1 := ra1.below hb
      have rb1 := rb1.below hb
      clear hb yf
      go_wp2_with fail
      refine hK.out _ _ ?_ (fun hHeld => ?_)
      · exact ⟨R1.cell 0 _ rfl, R1.cell 1 _ rfl, R1.cell 2 _ rfl, R1.cell 8 _ rfl⟩
      clear hK K
      try simp only [Act.put, List.setIfInBounds_toArray, List.set_cons_zero, List.set_cons_succ]
      refine wpAnyH_take (i := 29) (oi := ?a89_29) (v := ?b89_29) ?c89_29 (by kernel_rfl) (by kernel_rfl) (by kernel_rfl) ?d89_29 ?e89_29 (by assumption) ?f89_29
      case c89_29 => simp only [tA, tS, tZ]; rfl
      case d89_29 => exact fun _ _ _ h => h
      case e89_29 => (refine Or.inl ⟨by rfl, ?_⟩; intro w h; (try dsimp only at h); go_simp; all_goals with_reducible rfl)
      try simp only [Act.put, tI, tP, tQ]
      refine wpAnyH_take (i := 30) (oi := ?a89_30) (v := ?b89_30) ?c89_30 (by kernel_rfl) (by kernel_rfl) (by kernel_rfl) ?d89_30 ?e89_30 (by assumption) ?f89_30
      case c89_30 => simp only [tA, tS, tZ]; rfl
      case d89_30 => exact fun _ _ _ h => h
      case e89_30 => (refine Or.inl ⟨by rfl, ?_⟩; intro w h; (try dsimp only at h); go_simp; all_goals with_reducible rfl)
      try simp only [Act.put, tI, tP, tQ]
      refine wpAnyH_take (i := 31) (oi := ?a89_31) (v := ?b89_31) ?c89_31 (by kernel_rfl) (by kernel_rfl) (by kernel_rfl) ?d89_31 ?e89_31 (by assumption) ?f89_31
      case c89_31 => simp only [tA, tS, tZ]; rfl
      case d89_31 => exact fun _ _ _ h => h
      case e89_31 => (refine Or.inl ⟨by rfl, ?_⟩; intro w h; (try dsimp only at h); go_simp; all_goals with_reducible rfl)
      try simp only [Act.put, tI, tP, tQ]
      refine wpAnyH_take (i := 32) (oi := ?a89_32) (v := ?b89_32) ?c89_32 (by kernel_rfl) (by kernel_rfl) (by kernel_rfl) ?d89_32 ?e89_32 (by assumption) ?f89_32
      case c89_32 => simp only [tA, tS, tZ]; rfl
      case d89_32 => exact fun _ _ _ h => h
      case e89_32 => (refine Or.inl ⟨by rfl, ?_⟩; intro w h; (try dsimp only at h); go_simp; all_goals with_reducible rfl)
      try simp only [Act.put, tI, tP, tQ]
      refine wpAnyH_take (i := 33) (oi := ?a89_33) (v := ?b89_33) ?c89_33 (by kernel_rfl) (by kernel_rfl) (by kernel_rfl) ?d89_33 ?e89_33 (by assumption) ?f89_33
      case c89_33 => simp only [tA, tS, tZ]; rfl
      case d89_33 => exact fun _ _ _ h => h
      case e89_33 => (refine Or.inl ⟨by rfl, ?_⟩; intro w h; (try dsimp only at h); go_simp; all_goals with_reducible rfl)
      try simp only [Act.put, tI, tP, tQ]
      refine wpAnyH_done (by kernel_rfl) ?_ _
      clear hHeld
      have cW := see_whole vld.out.may
      go_wp2_with fail
      refine (Of_any w4 (wholeC q) (fact_bd vld.out.may (x := 0) (by decide) (by decide)).2).mono ?_
      rintro e2 w5 ⟨ay, ny, cy, rfl, yy, hb⟩
      have R1 := R1.later hb
      have ra1 := ra1.below hb
      have rb1 := rb1.below hb
      have yx := yx.below hb
      clear hb
      go_wp2_with fail
      have cc := Div_any w5 yx yy
      rw [div_ok LF.out (Nat.lt_of_lt_of_le (show wholeC q < pw 2 from (fact_bd vld.out.may (x := 0) (by decide) (by decide)).2) (pw_le (by decide))) (fact_whole vld.out.may).2] at cc
      refine cc.mono ?_
      rintro e2 w6 ⟨az, nz, cz, ar, nr, cr, rfl, yz, -, hb⟩
      clear cc
      have R1 := R1.later hb
      have ra1 := ra1.below hb
      have rb1 := rb1.below hb
      clear hb yx yy
      have fr8 := R1.free 8
      have k8 := R1.cell 8 _ rfl
      have R2 : PRow 66 wb (w6.setCell ⟨k, 8, none⟩ (.slice az nz cz)) k (cmC (bumpC q (1 : Int)) az nz cz b m d) := R1.set 8 (.slice az nz cz)
      have yz := rd_setcell (i := 8) yz R1.row (cm_noint _ _ _ _ _ _ _) (.slice az nz cz)
      have rb1 := rd_setcell (i := 8) rb1 R1.row (cm_noint _ _ _ _ _ _ _) (.slice az nz cz)
      clear ra1 R1
      go_upto_region 8 with fail
      clear fr8 k8 cW n1' n2'
      generalize w6.setCell ⟨k, 8, none⟩ (.slice az nz cz) = w7 at *
      by_cases hD : (L * factC q (1 : Int) / wholeC q) ≤ mostN
      · have NX := Lib.hid (show nextC q L (1 : Int) = (L * factC q (1 : Int) / wholeC q) by unfold nextC timesN; exact Nat.min_eq_left hD)
        have DL := Lib.hid (show leC (limbs (L * factC q (1 : Int) / wholeC q)) [0, 0, 0, 0, 1] = true by rw [← most_limbs, leC_ok (Nat.lt_of_le_of_lt hD most_pw) most_pw]; exact decide_eq_true hD)
        clear hD
        have hb := (Below.refl w7.heap.size w7).drew
        have R2 := R2.later hb
        have yz := yz.below hb
        have rb1 := rb1.below hb
        clear hb
        refine wp_region_held_drew (S := (fun w' => w'.cell? ⟨k, 8, none⟩ = some (.slice az nz cz) ∧ True)) (by kernel_rfl) ?_ (fun hHeld => ?_)
        · exact ⟨R2.cell 8 _ rfl, trivial⟩
        generalize w7.drew = w8 at *
        refine wpAnyH_take (i := 0) (oi := ?a90_0) (v := ?b90_0) ?c90_0 (by kernel_rfl) (by kernel_rfl) (by kernel_rfl) ?d90_0 ?e90_0 (by assumption) ?f90_0
        case c90_0 => simp only [tA, tS, tZ]; rfl
        case d90_0 => exact fun _ _ _ h => h
        case e90_0 => (refine Or.inl ⟨by rfl, ?_⟩; intro w h; (try dsimp only at h); go_simp; all_goals with_reducible rfl)
        try simp only [Act.put, tI, tP, tQ]
        refine wpAnyH_take (i := 1) (oi := ?a90_1) (v := ?b90_1) ?c90_1 (by kernel_rfl) (by kernel_rfl) (by kernel_rfl) ?d90_1 ?e90_1 (by assumption) ?f90_1
        case c90_1 => simp only [tA, tS, tZ]; rfl
        case d90_1 => exact fun _ _ _ h => h
        case e90_1 => (refine Or.inl ⟨by rfl, ?_⟩; intro w h; (try dsimp only at h); go_simp; all_goals with_reducible rfl)
        try simp only [Act.put, tI, tP, tQ]
        refine wpAnyH_take (i := 2) (oi := ?a90_2) (v := ?b90_2) ?c90_2 (by kernel_rfl) (by kernel_rfl) (by kernel_rfl) ?d90_2 ?e90_2 (by assumption) ?f90_2
        case c90_2 => simp only [tA, tS, tZ]; rfl
        case d90_2 => exact fun _ _ _ h => h
        case e90_2 => (refine Or.inl ⟨by rfl, ?_⟩; intro w h; (try dsimp only at h); go_simp; all_goals with_reducible rfl)
        try simp only [Act.put, tI, tP, tQ]
        refine wpAnyH_take (i := 3) (oi := ?a90_3) (v := ?b90_3) ?c90_3 (by kernel_rfl) (by kernel_rfl) (by kernel_rfl) ?d90_3 ?e90_3 (by assumption) ?f90_3
        case c90_3 => simp only [tA, tS, tZ]; rfl
        case d90_3 => exact fun _ _ _ h => h
        case e90_3 => (refine Or.inl ⟨by rfl, ?_⟩; intro w h; (try dsimp only at h); go_simp; all_goals with_reducible rfl)
        try simp only [Act.put, tI, tP, tQ]
        refine wpAnyH_take (i := 4) (oi := ?a90_4) (v := ?b90_4) ?c90_4 (by kernel_rfl) (by kernel_rfl) (by kernel_rfl) ?d90_4 ?e90_4 (by assumption) ?f90_4
        case c90_4 => simp only [tA, tS, tZ]; rfl
        case d90_4 => exact fun _ _ _ h => h
        case e90_4 => (refine Or.inl ⟨by rfl, ?_⟩; intro w h; (try dsimp only at h); go_simp; all_goals with_reducible rfl)
        try simp only [Act.put, tI, tP, tQ]
        refine wpAnyH_ready (rs := [5]) (by kernel_rfl) (by simp) ?_
        refine AllReadyH.cons (o := ?or91_5) ?hor91_5 (fun K hK => ?kr91_5) AllReadyH.nil
        case hor91_5 => simp only [List.getElem?_toArray, List.getElem?_cons_succ, List.getElem?_cons_zero]; rfl
        go_simp
        refine (cmMost_any w8).mono ?_
        rintro e2 w9 ⟨am, nm, cm, rfl, ym, hb⟩
        have R2 := R2.later hb
        have yz := yz.below hb
        have rb1 := rb1.below hb
        clear hb
        go_wp2_with fail
        refine hK.out _ _ ?_ (fun hHeld => ?_)
        · exact ⟨R2.cell 8 _ rfl, trivial⟩
        clear hK K
        try simp only [Act.put, List.setIfInBounds_toArray, List.set_cons_zero, List.set_cons_succ]
        refine wpAnyH_ready (rs := [6]) (by kernel_rfl) (by simp) ?_
        refine AllReadyH.cons (o := ?or92_6) ?hor92_6 (fun K hK => ?kr92_6) AllReadyH.nil
        case hor92_6 => simp only [List.getElem?_toArray, List.getElem?_cons_succ, List.getElem?_cons_zero]; rfl
        go_simp
        have cc := cmAtMost_any w9 yz ym
        rw [DL.out] at cc
        refine cc.mono ?_
        rintro e2 wA ⟨rfl, hb⟩
        clear cc
        have R2 := R2.later hb
        have yz := yz.below hb
        have rb1 := rb1.below hb
        clear hb ym
        go_wp2_with fail
        refine hK.out _ _ ?_ (fun hHeld => ?_)
        · exact ⟨R2.cell 8 _ rfl, trivial⟩
        clear hK K
        try simp only [Act.put, List.setIfInBounds_toArray, List.set_cons_zero, List.set_cons_succ]
        refine wpAnyH_take (i := 7) (oi := ?a93_7) (v := ?b93_7) ?c93_7 (by kernel_rfl) (by kernel_rfl) (by kernel_rfl) ?d93_7 ?e93_7 (by assumption) ?f93_7
        case c93_7 => simp only [tA, tS, tZ]; rfl
        case d93_7 => exact fun _ _ _ h => h
        case e93_7 => (refine Or.inl ⟨by rfl, ?_⟩; intro w h; (try dsimp only at h); go_simp; all_goals with_reducible rfl)
        try simp only [Act.put, tI, tP, tQ]
        refine wpAnyH_done (by kernel_rfl) ?_ _
        clear hHeld
        rw [← NX.out] at yz
        by_cases hB : nextC q L (1 : Int) ≤ B
        · have BL := Lib.hid (show leC (limbs (nextC q L (1 : Int))) (limbs B) = true by rw [leC_ok nextC_lt vld.out.pw.2]; exact decide_eq_true hB)
          have HB := Lib.hid hB
          clear hB
          go_upto_region 10 with fail
          have hb := (Below.refl wA.heap.size wA).drew
          have R2 := R2.later hb
          have yz := yz.below hb
          have rb1 := rb1.below hb
          clear hb
          refine wp_region_held_drew (S := (fun w' => w'.cell? ⟨k, 8, none⟩ = some (.slice az nz cz) ∧ w'.cell? ⟨k, 9, none⟩ = some (.slice b m d))) (by kernel_rfl) ?_ (fun hHeld => ?_)
          · exact ⟨R2.cell 8 _ rfl, R2.cell 9 _ rfl⟩
          generalize wA.drew = wD at *
          refine wpAnyH_take (i := 0) (oi := ?a94_0) (v := ?b94_0) ?c94_0 (by kernel_rfl) (by kernel_rfl) (by kernel_rfl) ?d94_0 ?e94_0 (by assumption) ?f94_0
          case c94_0 => simp only [tA, tS, tZ]; rfl
          case d94_0 => exact fun _ _ _ h => h
          case e94_0 => (refine Or.inl ⟨by rfl, ?_⟩; intro w h; (try dsimp only at h); go_simp; all_goals with_reducible rfl)
          try simp only [Act.put, tI, tP, tQ]
          refine wpAnyH_take (i := 1) (oi := ?a94_1) (v := ?b94_1) ?c94_1 (by kernel_rfl) (by kernel_rfl) (by kernel_rfl) ?d94_1 ?e94_1 (by assumption) ?f94_1
          case c94_1 => simp only [tA, tS, tZ]; rfl
          case d94_1 => exact fun _ _ _ h => h
          case e94_1 => (refine Or.inl ⟨by rfl, ?_⟩; intro w h; (try dsimp only at h); go_simp; all_goals with_reducible rfl)
          try simp only [Act.put, tI, tP, tQ]
          refine wpAnyH_take (i := 2) (oi := ?a94_2) (v := ?b94_2) ?c94_2 (by kernel_rfl) (by kernel_rfl) (by kernel_rfl) ?d94_2 ?e94_2 (by assumption) ?f94_2
          case c94_2 => simp only [tA, tS, tZ]; rfl
          case d94_2 => exact fun _ _ _ h => h
          case e94_2 => (refine Or.inl ⟨by rfl, ?_⟩; intro w h; (try dsimp only at h); go_simp; all_goals with_reducible rfl)
          try simp only [Act.put, tI, tP, tQ]
          refine wpAnyH_take (i := 3) (oi := ?a94_3) (v := ?b94_3) ?c94_3 (by kernel_rfl) (by kernel_rfl) (by kernel_rfl) ?d94_3 ?e94_3 (by assumption) ?f94_3
          case c94_3 => simp only [tA, tS, tZ]; rfl
          case d94_3 => exact fun _ _ _ h => h
          case e94_3 => (refine Or.inl ⟨by rfl, ?_⟩; intro w h; (try dsimp only at h); go_simp; all_goals with_reducible rfl)
          try simp only [Act.put, tI, tP, tQ]
          refine wpAnyH_take (i := 4) (oi := ?a94_4) (v := ?b94_4) ?c94_4 (by kernel_rfl) (by kernel_rfl) (by kernel_rfl) ?d94_4 ?e94_4 (by assumption) ?f94_4
          case c94_4 => simp only [tA, tS, tZ]; rfl
          case d94_4 => exact fun _ _ _ h => h
          case e94_4 => (refine Or.inl ⟨by rfl, ?_⟩; intro w h; (try dsimp only at h); go_simp; all_goals with_reducible rfl)
          try simp only [Act.put, tI, tP, tQ]
          refine wpAnyH_take (i := 5) (oi := ?a94_5) (v := ?b94_5) ?c94_5 (by kernel_rfl) (by kernel_rfl) (by kernel_rfl) ?d94_5 ?e94_5 (by assumption) ?f94_5
          case c94_5 => simp only [tA, tS, tZ]; rfl
          case d94_5 => exact fun _ _ _ h => h
          case e94_5 => (refine Or.inl ⟨by rfl, ?_⟩; intro w h; (try dsimp only at h); go_simp; all_goals with_reducible rfl)
          try simp only [Act.put, tI, tP, tQ]
          refine wpAnyH_take (i := 6) (oi := ?a94_6) (v := ?b94_6) ?c94_6 (by kernel_rfl) (by kernel_rfl) (by kernel_rfl) ?d94_6 ?e94_6 (by assumption) ?f94_6
          case c94_6 => simp only [tA, tS, tZ]; rfl
          case d94_6 => exact fun _ _ _ h => h
          case e94_6 => (refine Or.inl ⟨by rfl, ?_⟩; intro w h; (try dsimp only at h); go_simp; all_goals with_reducible rfl)
          try simp only [Act.put, tI, tP, tQ]
          refine wpAnyH_take (i := 7) (oi := ?a94_7) (v := ?b94_7) ?c94_7 (by kernel_rfl) (by kernel_rfl) (by kernel_rfl) ?d94_7 ?e94_7 (by assumption) ?f94_7
          case c94_7 => simp only [tA, tS, tZ]; rfl
          case d94_7 => exact fun _ _ _ h => h
          case e94_7 => (refine Or.inl ⟨by rfl, ?_⟩; intro w h; (try dsimp only at h); go_simp; all_goals with_reducible rfl)
          try simp only [Act.put, tI, tP, tQ]
          refine wpAnyH_take (i := 8) (oi := ?a94_8) (v := ?b94_8) ?c94_8 (by kernel_rfl) (by kernel_rfl) (by kernel_rfl) ?d94_8 ?e94_8 (by assumption) ?f94_8
          case c94_8 => simp only [tA, tS, tZ]; rfl
          case d94_8 => exact fun _ _ _ h => h
          case e94_8 => (refine Or.inl ⟨by rfl, ?_⟩; intro w h; (try dsimp only at h); go_simp; all_goals with_reducible rfl)
          try simp only [Act.put, tI, tP, tQ]
          refine wpAnyH_take (i := 9) (oi := ?a94_9) (v := ?b94_9) ?c94_9 (by kernel_rfl) (by kernel_rfl) (by kernel_rfl) ?d94_9 ?e94_9 (by assumption) ?f94_9
          case c94_9 => simp only [tA, tS, tZ]; rfl
          case d94_9 => exact fun _ _ _ h => h
          case e94_9 => (refine Or.inl ⟨by rfl, ?_⟩; intro w h; (try dsimp only at h); go_simp; all_goals with_reducible rfl)
          try simp only [Act.put, tI, tP, tQ]
          refine wpAnyH_ready (rs := [10]) (by kernel_rfl) (by simp) ?_
          refine AllReadyH.cons (o := ?or95_10) ?hor95_10 (fun K hK => ?kr95_10) AllReadyH.nil
          case hor95_10 => simp only [List.getElem?_toArray, List.getElem?_cons_succ, List.getElem?_cons_zero]; rfl
          go_simp
          have cc := cmAtMost_any wD yz rb1
          rw [BL.out] at cc
          refine cc.mono ?_
          rintro e2 wE ⟨rfl, hb⟩
          clear cc
          have R2 := R2.later hb
          have yz := yz.below hb
          have rb1 := rb1.below hb
          clear hb
          go_wp2_with fail
          refine hK.out _ _ ?_ (fun hHeld => ?_)
          · exact ⟨R2.cell 8 _ rfl, R2.cell 9 _ rfl⟩
          clear hK K
          try simp only [Act.put, List.setIfInBounds_toArray, List.set_cons_zero, List.set_cons_succ]
          refine wpAnyH_take (i := 11) (oi := ?a96_11) (v := ?b96_11) ?c96_11 (by kernel_rfl) (by kernel_rfl) (by kernel_rfl) ?d96_11 ?e96_11 (by assumption) ?f96_11
          case c96_11 => simp only [tA, tS, tZ]; rfl
          case d96_11 => exact fun _ _ _ h => h
          case e96_11 => (refine Or.inl ⟨by rfl, ?_⟩; intro w h; (try dsimp only at h); go_simp; all_goals with_reducible rfl)
          try simp only [Act.put, tI, tP, tQ]
          refine wpAnyH_done (by kernel_rfl) ?_ _
          clear hHeld
          go_wp2_with fail
          go_ret
          refine .inr ⟨_, _, _, _, _, _, e.out, rfl, R2, ?_, ?_⟩
          · rw [(show (stepC q (1 : Int)).lev = limbs (nextC q L (1 : Int)) by show limbs (nextC q (val q.lev) (1 : Int)) = _; rw [vld.out.lev, val_limbs])]; exact yz
          · rw [(show (stepC q (1 : Int)).best = limbs B by show limbs (max (val q.best) (nextC q (val q.lev) (1 : Int))) = _; rw [vld.out.lev, vld.out.best, val_limbs, val_limbs, Nat.max_eq_left HB.out])]; exact rb1
        · have BL := Lib.hid (show leC (limbs (nextC q L (1 : Int))) (limbs B) = false by rw [leC_ok nextC_lt vld.out.pw.2]; exact decide_eq_false hB)
          have HB := Lib.hid hB
          clear hB
          go_upto_region 10 with fail
          have hb := (Below.refl wA.heap.size wA).drew
          have R2 := R2.later hb
          have yz := yz.below hb
          have rb1 := rb1.below hb
          clear hb
          refine wp_region_held_drew (S := (fun w' => w'.cell? ⟨k, 8, none⟩ = some (.slice az nz cz) ∧ w'.cell? ⟨k, 9, none⟩ = some (.slice b m d))) (by kernel_rfl) ?_ (fun hHeld => ?_)
          · exact ⟨R2.cell 8 _ rfl, R2.cell 9 _ rfl⟩
          generalize wA.drew = wD at *
          refine wpAnyH_take (i := 0) (oi := ?a97_0) (v := ?b97_0) ?c97_0 (by kernel_rfl) (by kernel_rfl) (by kernel_rfl) ?d97_0 ?e97_0 (by assumption) ?f97_0
          case c97_0 => simp only [tA, tS, tZ]; rfl
          case d97_0 => exact fun _ _ _ h => h
          case e97_0 => (refine Or.inl ⟨by rfl, ?_⟩; intro w h; (try dsimp only at h); go_simp; all_goals with_reducible rfl)
          try simp only [Act.put, tI, tP, tQ]
          refine wpAnyH_take (i := 1) (oi := ?a97_1) (v := ?b97_1) ?c97_1 (by kernel_rfl) (by kernel_rfl) (by kernel_rfl) ?d97_1 ?e97_1 (by assumption) ?f97_1
          case c97_1 => simp only [tA, tS, tZ]; rfl
          case d97_1 => exact fun _ _ _ h => h
          case e97_1 => (refine Or.inl ⟨by rfl, ?_⟩; intro w h; (try dsimp only at h); go_simp; all_goals with_reducible rfl)
          try simp only [Act.put, tI, tP, tQ]
          refine wpAnyH_take (i := 2) (oi := ?a97_2) (v := ?b97_2) ?c97_2 (by kernel_rfl) (by kernel_rfl) (by kernel_rfl) ?d97_2 ?e97_2 (by assumption) ?f97_2
          case c97_2 => simp only [tA, tS, tZ]; rfl
          case d97_2 => exact fun _ _ _ h => h
          case e97_2 => (refine Or.inl ⟨by rfl, ?_⟩; intro w h; (try dsimp only at h); go_simp; all_goals with_reducible rfl)
          try simp only [Act.put, tI, tP, tQ]
          refine wpAnyH_take (i := 3) (oi := ?a97_3) (v := ?b97_3) ?c97_3 (by kernel_rfl) (by kernel_rfl) (by kernel_rfl) ?d97_3 ?e97_3 (by assumption) ?f97_3
          case c97_3 => simp only [tA, tS, tZ]; rfl
          case d97_3 => exact fun _ _ _ h => h
          case e97_3 => (refine Or.inl ⟨by rfl, ?_⟩; intro w h; (try dsimp only at h); go_simp; all_goals with_reducible rfl)
          try simp only [Act.put, tI, tP, tQ]
          refine wpAnyH_take (i := 4) (oi := ?a97_4) (v := ?b97_4) ?c97_4 (by kernel_rfl) (by kernel_rfl) (by kernel_rfl) ?d97_4 ?e97_4 (by assumption) ?f97_4
          case c97_4 => simp only [tA, tS, tZ]; rfl
          case d97_4 => exact fun _ _ _ h => h
          case e97_4 => (refine Or.inl ⟨by rfl, ?_⟩; intro w h; (try dsimp only at h); go_simp; all_goals with_reducible rfl)
          try simp only [Act.put, tI, tP, tQ]
          refine wpAnyH_take (i := 5) (oi := ?a97_5) (v := ?b97_5) ?c97_5 (by kernel_rfl) (by kernel_rfl) (by kernel_rfl) ?d97_5 ?e97_5 (by assumption) ?f97_5
          case c97_5 => simp only [tA, tS, tZ]; rfl
          case d97_5 => exact fun _ _ _ h => h
          case e97_5 => (refine Or.inl ⟨by rfl, ?_⟩; intro w h; (try dsimp only at h); go_simp; all_goals with_reducible rfl)
          try simp only [Act.put, tI, tP, tQ]
          refine wpAnyH_take (i := 6) (oi := ?a97_6) (v := ?b97_6) ?c97_6 (by kernel_rfl) (by kernel_rfl) (by kernel_rfl) ?d97_6 ?e97_6 (by assumption) ?f97_6
          case c97_6 => simp only [tA, tS, tZ]; rfl
          case d97_6 => exact fun _ _ _ h => h
          case e97_6 => (refine Or.inl ⟨by rfl, ?_⟩; intro w h; (try dsimp only at h); go_simp; all_goals with_reducible rfl)
          try simp only [Act.put, tI, tP, tQ]
          refine wpAnyH_take (i := 7) (oi := ?a97_7) (v := ?b97_7) ?c97_7 (by kernel_rfl) (by kernel_rfl) (by kernel_rfl) ?d97_7 ?e97_7 (by assumption) ?f97_7
          case c97_7 => simp only [tA, tS, tZ]; rfl
          case d97_7 => exact fun _ _ _ h => h
          case e97_7 => (refine Or.inl ⟨by rfl, ?_⟩; intro w h; (try dsimp only at h); go_simp; all_goals with_reducible rfl)
          try simp only [Act.put, tI, tP, tQ]
          refine wpAnyH_take (i := 8) (oi := ?a97_8) (v := ?b97_8) ?c97_8 (by kernel_rfl) (by kernel_rfl) (by kernel_rfl) ?d97_8 ?e97_8 (by assumption) ?f97_8
          case c97_8 => simp only [tA, tS, tZ]; rfl
          case d97_8 => exact fun _ _ _ h => h
          case e97_8 => (refine Or.inl ⟨by rfl, ?_⟩; intro w h; (try dsimp only at h); go_simp; all_goals with_reducible rfl)
          try simp only [Act.put, tI, tP, tQ]
          refine wpAnyH_take (i := 9) (oi := ?a97_9) (v := ?b97_9) ?c97_9 (by kernel_rfl) (by kernel_rfl) (by kernel_rfl) ?d97_9 ?e97_9 (by assumption) ?f97_9
          case c97_9 => simp only [tA, tS, tZ]; rfl
          case d97_9 => exact fun _ _ _ h => h
          case e97_9 => (refine Or.inl ⟨by rfl, ?_⟩; intro w h; (try dsimp only at h); go_simp; all_goals with_reducible rfl)
          try simp only [Act.put, tI, tP, tQ]
          refine wpAnyH_ready (rs := [10]) (by kernel_rfl) (by simp) ?_
          refine AllReadyH.cons (o := ?or98_10) ?hor98_10 (fun K hK => ?kr98_10) AllReadyH.nil
          case hor98_10 => simp only [List.getElem?_toArray, List.getElem?_cons_succ, List.getElem?_cons_zero]; rfl
          go_simp
          have cc := cmAtMost_any wD yz rb1
          rw [BL.out] at cc
          refine cc.mono ?_
          rintro e2 wE ⟨rfl, hb⟩
          clear cc
          have R2 := R2.later hb
          have yz := yz.below hb
          have rb1 := rb1.below hb
          clear hb
          go_wp2_with fail
          refine hK.out _ _ ?_ (fun hHeld => ?_)
          · exact ⟨R2.cell 8 _ rfl, R2.cell 9 _ rfl⟩
          clear hK K
          try simp only [Act.put, List.setIfInBounds_toArray, List.set_cons_zero, List.set_cons_succ]
          refine wpAnyH_take (i := 11) (oi := ?a99_11) (v := ?b99_11) ?c99_11 (by kernel_rfl) (by kernel_rfl) (by kernel_rfl) ?d99_11 ?e99_11 (by assumption) ?f99_11
          case c99_11 => simp only [tA, tS, tZ]; rfl
          case d99_11 => exact fun _ _ _ h => h
          case e99_11 => (refine Or.inl ⟨by rfl, ?_⟩; intro w h; (try dsimp only at h); go_simp; all_goals with_reducible rfl)
          try simp only [Act.put, tI, tP, tQ]
          refine wpAnyH_done (by kernel_rfl) ?_ _
          clear hHeld
          have k8 : wE.cell? ⟨k, 8, none⟩ = some (.slice az nz cz) := R2.cell 8 _ rfl
          go_wp2_with fail
          refine (Clone_any wE yz (by have h1 := yz.len; have h2 := limbs_len_le (k := 96) (show nextC q L (1 : Int) < pw 96 from Nat.lt_of_le_of_lt (Nat.min_le_right _ _) most_pw); omega)).mono ?_
          rintro e2 wF ⟨ak, nk, ck, rfl, yk, hb⟩
          have R2 := R2.later hb
          have yz := yz.below hb
          have rb1 := rb1.below hb
          clear hb k8
          have fr9 := R2.free 9
          have k9 := R2.cell 9 _ rfl
          have R4 : PRow 66 wb (wF.setCell ⟨k, 9, none⟩ (.slice ak nk ck)) k (cmC (bumpC q (1 : Int)) az nz cz ak nk ck) := R2.set 9 (.slice ak nk ck)
          have yk := rd_setcell (i := 9) yk R2.row (cm_noint _ _ _ _ _ _ _) (.slice ak nk ck)
          have yl := rd_setcell (i := 9) yz R2.row (cm_noint _ _ _ _ _ _ _) (.slice ak nk ck)
          go_wp2_with fail
          go_ret
          refine .inr ⟨_, _, _, _, _, _, e.out, rfl, R4, ?_, ?_⟩
          · rw [(show (stepC q (1 : Int)).lev = limbs (nextC q L (1 : Int)) by show limbs (nextC q (val q.lev) (1 : Int)) = _; rw [vld.out.lev, val_limbs])]; exact yl
          · rw [(show (stepC q (1 : Int)).best = limbs (nextC q L (1 : Int)) by show limbs (max (val q.best) (nextC q (val q.lev) (1 : Int))) = _; rw [vld.out.lev, vld.out.best, val_limbs, val_limbs, Nat.max_eq_right (Nat.le_of_lt (Nat.lt_of_not_le HB.out))])]; exact yk
      · have NX := Lib.hid (show nextC q L (1 : Int) = mostN by unfold nextC timesN; exact Nat.min_eq_right (Nat.le_of_lt (Nat.lt_of_not_le hD)))
        have DL := Lib.hid (show leC (limbs (L * factC q (1 : Int) / wholeC q)) [0, 0, 0, 0, 1] = false by rw [← most_limbs, leC_ok (Nat.lt_of_le_of_lt (Nat.div_le_self _ _) LF.out) most_pw]; exact decide_eq_false hD)
        clear hD
        have hb := (Below.refl w7.heap.size w7).drew
        have R2 := R2.later hb
        have yz := yz.below hb
        have rb1 := rb1.below hb
        clear hb
        refine wp_region_held_drew (S := (fun w' => w'.cell? ⟨k, 8, none⟩ = some (.slice az nz cz) ∧ True)) (by kernel_rfl) ?_ (fun hHeld => ?_)
        · exact ⟨R2.cell 8 _ rfl, trivial⟩
        generalize w7.drew = w8 at *
        refine wpAnyH_take (i := 0) (oi := ?a100_0) (v := ?b100_0) ?c100_0 (by kernel_rfl) (by kernel_rfl) (by kernel_rfl) ?d100_0 ?e100_0 (by assumption) ?f100_0
        case c100_0 => simp only [tA, tS, tZ]; rfl
        case d100_0 => exact fun _ _ _ h => h
        case e100_0 => (refine Or.inl ⟨by rfl, ?_⟩; intro w h; (try dsimp only at h); go_simp; all_goals with_reducible rfl)
        try simp only [Act.put, tI, tP, tQ]
        refine wpAnyH_take (i := 1) (oi := ?a100_1) (v := ?b100_1) ?c100_1 (by kernel_rfl) (by kernel_rfl) (by kernel_rfl) ?d100_1 ?e100_1 (by assumption) ?f100_1
        case c100_1 => simp only [tA, tS, tZ]; rfl
        case d100_1 => exact fun _ _ _ h => h
        case e100_1 => (refine Or.inl ⟨by rfl, ?_⟩; intro w h; (try dsimp only at h); go_simp; all_goals with_reducible rfl)
        try simp only [Act.put, tI, tP, tQ]
        refine wpAnyH_take (i := 2) (oi := ?a100_2) (v := ?b100_2) ?c100_2 (by kernel_rfl) (by kernel_rfl) (by kernel_rfl) ?d100_2 ?e100_2 (by assumption) ?f100_2
        case c100_2 => simp only [tA, tS, tZ]; rfl
        case d100_2 => exact fun _ _ _ h => h
        case e100_2 => (refine Or.inl ⟨by rfl, ?_⟩; intro w h; (try dsimp only at h); go_simp; all_goals with_reducible rfl)
        try simp only [Act.put, tI, tP, tQ]
        refine wpAnyH_take (i := 3) (oi := ?a100_3) (v := ?b100_3) ?c100_3 (by kernel_rfl) (by kernel_rfl) (by kernel_rfl) ?d100_3 ?e100_3 (by assumption) ?f100_3
        case c100_3 => simp only [tA, tS, tZ]; rfl
        case d100_3 => exact fun _ _ _ h => h
        case e100_3 => (refine Or.inl ⟨by rfl, ?_⟩; intro w h; (try dsimp only at h); go_simp; all_goals with_reducible rfl)
        try simp only [Act.put, tI, tP, tQ]
        refine wpAnyH_take (i := 4) (oi := ?a100_4) (v := ?b100_4) ?c100_4 (by kernel_rfl) (by kernel_rfl) (by kernel_rfl) ?d100_4 ?e100_4 (by assumption) ?f100_4
        case c100_4 => simp only [tA, tS, tZ]; rfl
        case d100_4 => exact fun _ _ _ h => h
        case e100_4 => (refine Or.inl ⟨by rfl, ?_⟩; intro w h; (try dsimp only at h); go_simp; all_goals with_reducible rfl)
        try simp only [Act.put, tI, tP, tQ]
        refine wpAnyH_ready (rs := [5]) (by kernel_rfl) (by simp) ?_
        refine AllReadyH.cons (o := ?or101_5) ?hor101_5 (fun K hK => ?kr101_5) AllReadyH.nil
        case hor101_5 => simp only [List.getElem?_toArray, List.getElem?_cons_succ, List.getElem?_cons_zero]; rfl
        go_simp
        refine (cmMost_any w8).mono ?_
        rintro e2 w9 ⟨am, nm, cm, rfl, ym, hb⟩
        have R2 := R2.later hb
        have yz := yz.below hb
        have rb1 := rb1.below hb
        clear hb
        go_wp2_with fail
        refine hK.out _ _ ?_ (fun hHeld => ?_)
        · exact ⟨R2.cell 8 _ rfl, trivial⟩
        clear hK K
        try simp only [Act.put, List.setIfInBounds_toArray, List.set_cons_zero, List.set_cons_succ]
        refine wpAnyH_ready (rs := [6]) (by kernel_rfl) (by simp) ?_
        refine AllReadyH.cons (o := ?or102_6) ?hor102_6 (fun K hK => ?kr102_6) AllReadyH.nil
        case hor102_6 => simp only [List.getElem?_toArray, List.getElem?_cons_succ, List.getElem?_cons_zero]; rfl
        go_simp
        have cc := cmAtMost_any w9 yz ym
        rw [DL.out] at cc
        refine cc.mono ?_
        rintro e2 wA ⟨rfl, hb⟩
        clear cc
        have R2 := R2.later hb
        have yz := yz.below hb
        have rb1 := rb1.below hb
        clear hb ym
        go_wp2_with fail
        refine hK.out _ _ ?_ (fun hHeld => ?_)
        · exact ⟨R2.cell 8 _ rfl, trivial⟩
        clear hK K
        try simp only [Act.put, List.setIfInBounds_toArray, List.set_cons_zero, List.set_cons_succ]
        refine wpAnyH_take (i := 7) (oi := ?a103_7) (v := ?b103_7) ?c103_7 (by kernel_rfl) (by kernel_rfl) (by kernel_rfl) ?d103_7 ?e103_7 (by assumption) ?f103_7
        case c103_7 => simp only [tA, tS, tZ]; rfl
        case d103_7 => exact fun _ _ _ h => h
        case e103_7 => (refine Or.inl ⟨by rfl, ?_⟩; intro w h; (try dsimp only at h); go_simp; all_goals with_reducible rfl)
        try simp only [Act.put, tI, tP, tQ]
        refine wpAnyH_done (by kernel_rfl) ?_ _
        clear hHeld
        go_wp2_with fail
        refine (cmMost_any wA).mono ?_
        rintro e2 wB ⟨as', ns', cs', rfl, ys, hb⟩
        have R2 := R2.later hb
        have yz := yz.below hb
        have rb1 := rb1.below hb
        clear hb
        have fr8 := R2.free 8
        have k8 := R2.cell 8 _ rfl
        have R3 : PRow 66 wb (wB.setCell ⟨k, 8, none⟩ (.slice as' ns' cs')) k (cmC (bumpC q (1 : Int)) as' ns' cs' b m d) := R2.set 8 (.slice as' ns' cs')
        have ys := rd_setcell (i := 8) ys R2.row (cm_noint _ _ _ _ _ _ _) (.slice as' ns' cs')
        have rb1 := rd_setcell (i := 8) rb1 R2.row (cm_noint _ _ _ _ _ _ _) (.slice as' ns' cs')
        clear R2 yz
        rw [← most_limbs, ← NX.out] at ys
        go_upto_region 10 with fail
        clear fr8 k8
        generalize wB.setCell ⟨k, 8, none⟩ (.slice as' ns' cs') = wC at *
        by_cases hB : nextC q L (1 : Int) ≤ B
        · have BL := Lib.hid (show leC (limbs (nextC q L (1 : Int))) (limbs B) = true by rw [leC_ok nextC_lt vld.out.pw.2]; exact decide_eq_true hB)
          have HB := Lib.hid hB
          clear hB
          have hb := (Below.refl wC.heap.size wC).drew
          have R3 := R3.later hb
          have ys := ys.below hb
          have rb1 := rb1.below hb
          clear hb
          refine wp_region_held_drew (S := (fun w' => w'.cell? ⟨k, 8, none⟩ = some (.slice as' ns' cs') ∧ w'.cell? ⟨k, 9, none⟩ = some (.slice b m d))) (by kernel_rfl) ?_ (fun hHeld => ?_)
          · exact ⟨R3.cell 8 _ rfl, R3.cell 9 _ rfl⟩
          generalize wC.drew = wD at *
          refine wpAnyH_take (i := 0) (oi := ?a104_0) (v := ?b104_0) ?c104_0 (by kernel_rfl) (by kernel_rfl) (by kernel_rfl) ?d104_0 ?e104_0 (by assumption) ?f104_0
          case c104_0 => simp only [tA, tS, tZ]; rfl
          case d104_0 => exact fun _ _ _ h => h
          case e104_0 => (refine Or.inl ⟨by rfl, ?_⟩; intro w h; (try dsimp only at h); go_simp; all_goals with_reducible rfl)
          try simp only [Act.put, tI, tP, tQ]
          refine wpAnyH_take (i := 1) (oi := ?a104_1) (v := ?b104_1) ?c104_1 (by kernel_rfl) (by kernel_rfl) (by kernel_rfl) ?d104_1 ?e104_1 (by assumption) ?f104_1
          case c104_1 => simp only [tA, tS, tZ]; rfl
          case d104_1 => exact fun _ _ _ h => h
          case e104_1 => (refine Or.inl ⟨by rfl, ?_⟩; intro w h; (try dsimp only at h); go_simp; all_goals with_reducible rfl)
          try simp only [Act.put, tI, tP, tQ]
          refine wpAnyH_take (i := 2) (oi := ?a104_2) (v := ?b104_2) ?c104_2 (by kernel_rfl) (by kernel_rfl) (by kernel_rfl) ?d104_2 ?e104_2 (by assumption) ?f104_2
          case c104_2 => simp only [tA, tS, tZ]; rfl
          case d104_2 => exact fun _ _ _ h => h
          case e104_2 => (refine Or.inl ⟨by rfl, ?_⟩; intro w h; (try dsimp only at h); go_simp; all_goals with_reducible rfl)
          try simp only [Act.put, tI, tP, tQ]
          refine wpAnyH_take (i := 3) (oi := ?a104_3) (v := ?b104_3) ?c104_3 (by kernel_rfl) (by kernel_rfl) (by kernel_rfl) ?d104_3 ?e104_3 (by assumption) ?f104_3
          case c104_3 => simp only [tA, tS, tZ]; rfl
          case d104_3 => exact fun _ _ _ h => h
          case e104_3 => (refine Or.inl ⟨by rfl, ?_⟩; intro w h; (try dsimp only at h); go_simp; all_goals with_reducible rfl)
          try simp only [Act.put, tI, tP, tQ]
          refine wpAnyH_take (i := 4) (oi := ?a104_4) (v := ?b104_4) ?c104_4 (by kernel_rfl) (by kernel_rfl) (by kernel_rfl) ?d104_4 ?e104_4 (by assumption) ?f104_4
          case c104_4 => simp only [tA, tS, tZ]; rfl
          case d104_4 => exact fun _ _ _ h => h
          case e104_4 => (refine Or.inl ⟨by rfl, ?_⟩; intro w h; (try dsimp only at h); go_simp; all_goals with_reducible rfl)
          try simp only [Act.put, tI, tP, tQ]
          refine wpAnyH_take (i := 5) (oi := ?a104_5) (v := ?b104_5) ?c104_5 (by kernel_rfl) (by kernel_rfl) (by kernel_rfl) ?d104_5 ?e104_5 (by assumption) ?f104_5
          case c104_5 => simp only [tA, tS, tZ]; rfl
          case d104_5 => exact fun _ _ _ h => h
          case e104_5 => (refine Or.inl ⟨by rfl, ?_⟩; intro w h; (try dsimp only at h); go_simp; all_goals with_reducible rfl)
          try simp only [Act.put, tI, tP, tQ]
          refine wpAnyH_take (i := 6) (oi := ?a104_6) (v := ?b104_6) ?c104_6 (by kernel_rfl) (by kernel_rfl) (by kernel_rfl) ?d104_6 ?e104_6 (by assumption) ?f104_6
          case c104_6 => simp only [tA, tS, tZ]; rfl
          case d104_6 => exact fun _ _ _ h => h
          case e104_6 => (refine Or.inl ⟨by rfl, ?_⟩; intro w h; (try dsimp only at h); go_simp; all_goals with_reducible rfl)
          try simp only [Act.put, tI, tP, tQ]
          refine wpAnyH_take (i := 7) (oi := ?a104_7) (v := ?b104_7) ?c104_7 (by kernel_rfl) (by kernel_rfl) (by kernel_rfl) ?d104_7 ?e104_7 (by assumption) ?f104_7
          case c104_7 => simp only [tA, tS, tZ]; rfl
          case d104_7 => exact fun _ _ _ h => h
          case e104_7 => (refine Or.inl ⟨by rfl, ?_⟩; intro w h; (try dsimp only at h); go_simp; all_goals with_reducible rfl)
          try simp only [Act.put, tI, tP, tQ]
          refine wpAnyH_take (i := 8) (oi := ?a104_8) (v := ?b104_8) ?c104_8 (by kernel_rfl) (by kernel_rfl) (by kernel_rfl) ?d104_8 ?e104_8 (by assumption) ?f104_8
          case c104_8 => simp only [tA, tS, tZ]; rfl
          case d104_8 => exact fun _ _ _ h => h
          case e104_8 => (refine Or.inl ⟨by rfl, ?_⟩; intro w h; (try dsimp only at h); go_simp; all_goals with_reducible rfl)
          try simp only [Act.put, tI, tP, tQ]
          refine wpAnyH_take (i := 9) (oi := ?a104_9) (v := ?b104_9) ?c104_9 (by kernel_rfl) (by kernel_rfl) (by kernel_rfl) ?d104_9 ?e104_9 (by assumption) ?f104_9
          case c104_9 => simp only [tA, tS, tZ]; rfl
          case d104_9 => exact fun _ _ _ h => h
          case e104_9 => (refine Or.inl ⟨by rfl, ?_⟩; intro w h; (try dsimp only at h); go_simp; all_goals with_reducible rfl)
          try simp only [Act.put, tI, tP, tQ]
          refine wpAnyH_ready (rs := [10]) (by kernel_rfl) (by simp) ?_
          refine AllReadyH.cons (o := ?or105_10) ?hor105_10 (fun K hK => ?kr105_10) AllReadyH.nil
          case hor105_10 => simp only [List.getElem?_toArray, List.getElem?_cons_succ, List.getElem?_cons_zero]; rfl
          go_simp
          have cc := cmAtMost_any wD ys rb1
          rw [BL.out] at cc
          refine cc.mono ?_
          rintro e2 wE ⟨rfl, hb⟩
          clear cc
          have R3 := R3.later hb
          have ys := ys.below hb
          have rb1 := rb1.below hb
          clear hb
          go_wp2_with fail
          refine hK.out _ _ ?_ (fun hHeld => ?_)
          · exact ⟨R3.cell 8 _ rfl, R3.cell 9 _ rfl⟩
          clear hK K
          try simp only [Act.put, List.setIfInBounds_toArray, List.set_cons_zero, List.set_cons_succ]
          refine wpAnyH_take (i := 11) (oi := ?a106_11) (v := ?b106_11) ?c106_11 (by kernel_rfl) (by kernel_rfl) (by kernel_rfl) ?d106_11 ?e106_11 (by assumption) ?f106_11
          case c106_11 => simp only [tA, tS, tZ]; rfl
          case d106_11 => exact fun _ _ _ h => h
          case e106_11 => (refine Or.inl ⟨by rfl, ?_⟩; intro w h; (try dsimp only at h); go_simp; all_goals with_reducible rfl)
          try simp only [Act.put, tI, tP, tQ]
          refine wpAnyH_done (by kernel_rfl) ?_ _
          clear hHeld
          go_wp2_with fail
          go_ret
          refine .inr ⟨_, _, _, _, _, _, e.out, rfl, R3, ?_, ?_⟩
          · rw [(show (stepC q (1 : Int)).lev = limbs (nextC q L (1 : Int)) by show limbs (nextC q (val q.lev) (1 : Int)) = _; rw [vld.out.lev, val_limbs])]; exact ys
          · rw [(show (stepC q (1 : Int)).best = limbs B by show limbs (max (val q.best) (nextC q (val q.lev) (1 : Int))) = _; rw [vld.out.lev, vld.out.best, val_limbs, val_limbs, Nat.max_eq_left HB.out])]; exact rb1
        · have BL := Lib.hid (show leC (limbs (nextC q L (1 : Int))) (limbs B) = false by rw [leC_ok nextC_lt vld.out.pw.2]; exact decide_eq_false hB)
          have HB := Lib.hid hB
          clear hB
          have hb := (Below.refl wC.heap.size wC).drew
          have R3 := R3.later hb
          have ys := ys.below hb
          have rb1 := rb1.below hb
          clear hb
          refine wp_region_held_drew (S := (fun w' => w'.cell? ⟨k, 8, none⟩ = some (.slice as' ns' cs') ∧ w'.cell? ⟨k, 9, none⟩ = some (.slice b m d))) (by kernel_rfl) ?_ (fun hHeld => ?_)
          · exact ⟨R3.cell 8 _ rfl, R3.cell 9 _ rfl⟩
          generalize wC.drew = wD at *
          refine wpAnyH_take (i := 0) (oi := ?a107_0) (v := ?b107_0) ?c107_0 (by kernel_rfl) (by kernel_rfl) (by kernel_rfl) ?d107_0 ?e107_0 (by assumption) ?f107_0
          case c107_0 => simp only [tA, tS, tZ]; rfl
          case d107_0 => exact fun _ _ _ h => h
          case e107_0 => (refine Or.inl ⟨by rfl, ?_⟩; intro w h; (try dsimp only at h); go_simp; all_goals with_reducible rfl)
          try simp only [Act.put, tI, tP, tQ]
          refine wpAnyH_take (i := 1) (oi := ?a107_1) (v := ?b107_1) ?c107_1 (by kernel_rfl) (by kernel_rfl) (by kernel_rfl) ?d107_1 ?e107_1 (by assumption) ?f107_1
          case c107_1 => simp only [tA, tS, tZ]; rfl
          case d107_1 => exact fun _ _ _ h => h
          case e107_1 => (refine Or.inl ⟨by rfl, ?_⟩; intro w h; (try dsimp only at h); go_simp; all_goals with_reducible rfl)
          try simp only [Act.put, tI, tP, tQ]
          refine wpAnyH_take (i := 2) (oi := ?a107_2) (v := ?b107_2) ?c107_2 (by kernel_rfl) (by kernel_rfl) (by kernel_rfl) ?d107_2 ?e107_2 (by assumption) ?f107_2
          case c107_2 => simp only [tA, tS, tZ]; rfl
          case d107_2 => exact fun _ _ _ h => h
          case e107_2 => (refine Or.inl ⟨by rfl, ?_⟩; intro w h; (try dsimp only at h); go_simp; all_goals with_reducible rfl)
          try simp only [Act.put, tI, tP, tQ]
          refine wpAnyH_take (i := 3) (oi := ?a107_3) (v := ?b107_3) ?c107_3 (by kernel_rfl) (by kernel_rfl) (by kernel_rfl) ?d107_3 ?e107_3 (by assumption) ?f107_3
          case c107_3 => simp only [tA, tS, tZ]; rfl
          case d107_3 => exact fun _ _ _ h => h
          case e107_3 => (refine Or.inl ⟨by rfl, ?_⟩; intro w h; (try dsimp only at h); go_simp; all_goals with_reducible rfl)
          try simp only [Act.put, tI, tP, tQ]
          refine wpAnyH_take (i := 4) (oi := ?a107_4) (v := ?b107_4) ?c107_4 (by kernel_rfl) (by kernel_rfl) (by kernel_rfl) ?d107_4 ?e107_4 (by assumption) ?f107_4
          case c107_4 => simp only [tA, tS, tZ]; rfl
          case d107_4 => exact fun _ _ _ h => h
          case e107_4 => (refine Or.inl ⟨by rfl, ?_⟩; intro w h; (try dsimp only at h); go_simp; all_goals with_reducible rfl)
          try simp only [Act.put, tI, tP, tQ]
          refine wpAnyH_take (i := 5) (oi := ?a107_5) (v := ?b107_5) ?c107_5 (by kernel_rfl) (by kernel_rfl) (by kernel_rfl) ?d107_5 ?e107_5 (by assumption) ?f107_5
          case c107_5 => simp only [tA, tS, tZ]; rfl
          case d107_5 => exact fun _ _ _ h => h
          case e107_5 => (refine Or.inl ⟨by rfl, ?_⟩; intro w h; (try dsimp only at h); go_simp; all_goals with_reducible rfl)
          try simp only [Act.put, tI, tP, tQ]
          refine wpAnyH_take (i := 6) (oi := ?a107_6) (v := ?b107_6) ?c107_6 (by kernel_rfl) (by kernel_rfl) (by kernel_rfl) ?d107_6 ?e107_6 (by assumption) ?f107_6
          case c107_6 => simp only [tA, tS, tZ]; rfl
          case d107_6 => exact fun _ _ _ h => h
          case e107_6 => (refine Or.inl ⟨by rfl, ?_⟩; intro w h; (try dsimp only at h); go_simp; all_goals with_reducible rfl)
          try simp only [Act.put, tI, tP, tQ]
          refine wpAnyH_take (i := 7) (oi := ?a107_7) (v := ?b107_7) ?c107_7 (by kernel_rfl) (by kernel_rfl) (by kernel_rfl) ?d107_7 ?e107_7 (by assumption) ?f107_7
          case c107_7 => simp only [tA, tS, tZ]; rfl
          case d107_7 => exact fun _ _ _ h => h
          case e107_7 => (refine Or.inl ⟨by rfl, ?_⟩; intro w h; (try dsimp only at h); go_simp; all_goals with_reducible rfl)
          try simp only [Act.put, tI, tP, tQ]
          refine wpAnyH_take (i := 8) (oi := ?a107_8) (v := ?b107_8) ?c107_8 (by kernel_rfl) (by kernel_rfl) (by kernel_rfl) ?d107_8 ?e107_8 (by assumption) ?f107_8
          case c107_8 => simp only [tA, tS, tZ]; rfl
          case d107_8 => exact fun _ _ _ h => h
          case e107_8 => (refine Or.inl ⟨by rfl, ?_⟩; intro w h; (try dsimp only at h); go_simp; all_goals with_reducible rfl)
          try simp only [Act.put, tI, tP, tQ]
          refine wpAnyH_take (i := 9) (oi := ?a107_9) (v := ?b107_9) ?c107_9 (by kernel_rfl) (by kernel_rfl) (by kernel_rfl) ?d107_9 ?e107_9 (by assumption) ?f107_9
          case c107_9 => simp only [tA, tS, tZ]; rfl
          case d107_9 => exact fun _ _ _ h => h
          case e107_9 => (refine Or.inl ⟨by rfl, ?_⟩; intro w h; (try dsimp only at h); go_simp; all_goals with_reducible rfl)
          try simp only [Act.put, tI, tP, tQ]
          refine wpAnyH_ready (rs := [10]) (by kernel_rfl) (by simp) ?_
          refine AllReadyH.cons (o := ?or108_10) ?hor108_10 (fun K hK => ?kr108_10) AllReadyH.nil
          case hor108_10 => simp only [List.getElem?_toArray, List.getElem?_cons_succ, List.getElem?_cons_zero]; rfl
          go_simp
          have cc := cmAtMost_any wD ys rb1
          rw [BL.out] at cc
          refine cc.mono ?_
          rintro e2 wE ⟨rfl, hb⟩
          clear cc
          have R3 := R3.later hb
          have ys := ys.below hb
          have rb1 := rb1.below hb
          clear hb
          go_wp2_with fail
          refine hK.out _ _ ?_ (fun hHeld => ?_)
          · exact ⟨R3.cell 8 _ rfl, R3.cell 9 _ rfl⟩
          clear hK K
          try simp only [Act.put, List.setIfInBounds_toArray, List.set_cons_zero, List.set_cons_succ]
          refine wpAnyH_take (i := 11) (oi := ?a109_11) (v := ?b109_11) ?c109_11 (by kernel_rfl) (by kernel_rfl) (by kernel_rfl) ?d109_11 ?e109_11 (by assumption) ?f109_11
          case c109_11 => simp only [tA, tS, tZ]; rfl
          case d109_11 => exact fun _ _ _ h => h
          case e109_11 => (refine Or.inl ⟨by rfl, ?_⟩; intro w h; (try dsimp only at h); go_simp; all_goals with_reducible rfl)
          try simp only [Act.put, tI, tP, tQ]
          refine wpAnyH_done (by kernel_rfl) ?_ _
          clear hHeld
          have k8 : wE.cell? ⟨k, 8, none⟩ = some (.slice as' ns' cs') := R3.cell 8 _ rfl
          go_wp2_with fail
          refine (Clone_any wE ys (by have h1 := ys.len; have h2 := limbs_len_le (k := 96) (show nextC q L (1 : Int) < pw 96 from Nat.lt_of_le_of_lt (Nat.min_le_right _ _) most_pw); omega)).mono ?_
          rintro e2 wF ⟨ak, nk, ck, rfl, yk, hb⟩
          have R3 := R3.later hb
          have ys := ys.below hb
          have rb1 := rb1.below hb
          clear hb k8
          have fr9 := R3.free 9
          have k9 := R3.cell 9 _ rfl
          have R4 : PRow 66 wb (wF.setCell ⟨k, 9, none⟩ (.slice ak nk ck)) k (cmC (bumpC q (1 : Int)) as' ns' cs' ak nk ck) := R3.set 9 (.slice ak nk ck)
          have yk := rd_setcell (i := 9) yk R3.row (cm_noint _ _ _ _ _ _ _) (.slice ak nk ck)
          have yl := rd_setcell (i := 9) ys R3.row (cm_noint _ _ _ _ _ _ _) (.slice ak nk ck)
          go_wp2_with fail
          go_ret
          refine .inr ⟨_, _, _, _, _, _, e.out, rfl, R4, ?_, ?_⟩
          · rw [(show (stepC q (1 : Int)).lev = limbs (nextC q L (1 : Int)) by show limbs (nextC q (val q.lev) (1 : Int)) = _; rw [vld.out.lev, val_limbs])]; exact yl
          · rw [(show (stepC q (1 : Int)).best = limbs (nextC q L (1 : Int)) by show limbs (max (val q.best) (nextC q (val q.lev) (1 : Int))) = _; rw [vld.out.lev, vld.out.best, val_limbs, val_limbs, Nat.max_eq_right (Nat.le_of_lt (Nat.lt_of_not_le HB.out))])]; exact yk

end Go.Proofs.Ytmkcdlhhbnakiaa
