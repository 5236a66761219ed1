/- Observing the overstatement -2. -/
import Derived.Test.YtmkcdlhhbnakiaaCmpV
namespace Go.Proofs.Ytmkcdlhhbnakiaa
open Go.RowKit Go.Suf
set_option linter.unusedVariables false
set_option linter.unusedSimpArgs false

set_option maxRecDepth 100000 in
set_option maxHeartbeats 8000000 in
theorem see0_any (wb w : World) {q : CV} {a b : Option Addr} {n m c d k L B : Nat} (R : PRow 66 wb w k (cmC q a n c b m d)) (ra : Rd .u32 w a n c (limbs L)) (rb : Rd .u32 w b m d (limbs B)) (vld' : VldC q L B) :
    Calls Try.prog 42 #[.pointer (some ⟨k, 0, none⟩), .int .i64 (-2)] w (RetSee wb k q (-2)) := by
  have vld := Lib.hid vld'
  clear vld'
  have k0 := R.cell 0 _ rfl
  have k1 := R.cell 1 _ rfl
  have k2 := R.cell 2 _ rfl
  have k3 := R.cell 3 _ rfl
  have k4 := R.cell 4 _ rfl
  have k5 := R.cell 5 _ rfl
  have k6 := R.cell 6 _ rfl
  have k7 := R.cell 7 _ rfl
  have k8 := R.cell 8 _ rfl
  have k9 := R.cell 9 _ rfl
  have fr := R.free 3
  have HF := Lib.hid (show seenAtC q (-2 : Int) = q.s0 from rfl)
  have sv := vld.out.s0
  unfold inS at sv
  by_cases full : q.s0 = 1000000
  · have e := Lib.hid (show obs1C q (-2 : Int) = none from obs1C_out (.inr (.inr (by rw [HF.out]; omega))))
    have d2 : (q.s0 == 1000000) = true := beq_iff_eq.2 full
    clear full sv
    go_enter Try.func42, Try.ntmps42
    go_wp2_with fail
    have cc := within_any w (-2 : Int) (-2) 2
    rw [decide_eq_true (show (-2 : Int) ≤ (-2 : Int) ∧ (-2 : Int) ≤ 2 by decide)] at cc
    refine cc.mono ?_
    rintro e1 w9 ⟨rfl, hw⟩
    have hw := hw.symm
    subst hw
    clear cc
    go_wp2_with fail
    go_ret
    exact .inl ⟨e.out, rfl, R.below⟩
  have d2 : (q.s0 == 1000000) = false := beq_eq_false_iff_ne.2 full
  have e := Lib.hid (show obs1C q (-2 : Int) = some (stepC q (-2 : Int)) from obs1C_in (by rw [HF.out]; omega))
  have sv1 : q.s0 < 1000000 := by omega
  have sv0 : 0 ≤ q.s0 := by omega
  have wi : IntKind.i64.wrap (q.s0 + 1) = q.s0 + 1 := wrap_in (by omega) (by omega)
  clear full sv
  go_enter Try.func42, Try.ntmps42
  go_wp2_with fail
  have cc := within_any w (-2 : Int) (-2) 2
  rw [decide_eq_true (show (-2 : Int) ≤ (-2 : Int) ∧ (-2 : Int) ≤ 2 by decide)] at cc
  refine cc.mono ?_
  rintro e1 w9 ⟨rfl, hw⟩
  have hw := hw.symm
  subst hw
  clear cc
  go_upto_region 4 with fail
  refine wp_region_any (by kernel_rfl) ?_
  change wpAny _ _ _ _ _ _ _ (World.drew _)
  refine wpAny_take (i := 0) (oi := ?a1_0) (v := ?b1_0) ?c1_0 (by kernel_rfl) (by kernel_rfl) (by kernel_rfl) ?d1_0 ?e1_0 ?f1_0
  case c1_0 => simp only [tA, tS, tZ]; rfl
  case d1_0 => exact fun _ _ _ h => h
  case e1_0 => (refine Or.inl ⟨by rfl, ?_⟩; intro w; go_simp; all_goals with_reducible rfl)
  try simp only [Act.put, tI, tP, tQ]
  refine wpAny_take (i := 1) (oi := ?a1_1) (v := ?b1_1) ?c1_1 (by kernel_rfl) (by kernel_rfl) (by kernel_rfl) ?d1_1 ?e1_1 ?f1_1
  case c1_1 => simp only [tA, tS, tZ]; rfl
  case d1_1 => exact fun _ _ _ h => h
  case e1_1 => (refine Or.inl ⟨by rfl, ?_⟩; intro w; go_simp; all_goals with_reducible rfl)
  try simp only [Act.put, tI, tP, tQ]
  refine wpAny_take (i := 2) (oi := ?a1_2) (v := ?b1_2) ?c1_2 (by kernel_rfl) (by kernel_rfl) (by kernel_rfl) ?d1_2 ?e1_2 ?f1_2
  case c1_2 => simp only [tA, tS, tZ]; rfl
  case d1_2 => exact fun _ _ _ h => h
  case e1_2 => (refine Or.inl ⟨by rfl, ?_⟩; intro w; go_simp; all_goals with_reducible rfl)
  try simp only [Act.put, tI, tP, tQ]
  refine wpAny_take (i := 3) (oi := ?a1_3) (v := ?b1_3) ?c1_3 (by kernel_rfl) (by kernel_rfl) (by kernel_rfl) ?d1_3 ?e1_3 ?f1_3
  case c1_3 => simp only [tA, tS, tZ]; rfl
  case d1_3 => exact fun _ _ _ h => h
  case e1_3 => (refine Or.inl ⟨by rfl, ?_⟩; intro w; go_simp; all_goals with_reducible rfl)
  try simp only [Act.put, tI, tP, tQ]
  refine wpAny_take (i := 4) (oi := ?a1_4) (v := ?b1_4) ?c1_4 (by kernel_rfl) (by kernel_rfl) (by kernel_rfl) ?d1_4 ?e1_4 ?f1_4
  case c1_4 => simp only [tA, tS, tZ]; rfl
  case d1_4 => exact fun _ _ _ h => h
  case e1_4 => (refine Or.inl ⟨by rfl, ?_⟩; intro w; go_simp; all_goals with_reducible rfl)
  try simp only [Act.put, tI, tP, tQ]
  refine wpAny_take (i := 5) (oi := ?a1_5) (v := ?b1_5) ?c1_5 (by kernel_rfl) (by kernel_rfl) (by kernel_rfl) ?d1_5 ?e1_5 ?f1_5
  case c1_5 => simp only [tA, tS, tZ]; rfl
  case d1_5 => exact fun _ _ _ h => h
  case e1_5 => (refine Or.inl ⟨by rfl, ?_⟩; intro w; go_simp; all_goals with_reducible rfl)
  try simp only [Act.put, tI, tP, tQ]
  refine wpAny_take (i := 8) (oi := ?a1_8) (v := ?b1_8) ?c1_8 (by kernel_rfl) (by kernel_rfl) (by kernel_rfl) ?d1_8 ?e1_8 ?f1_8
  case c1_8 => simp only [tA, tS, tZ]; rfl
  case d1_8 => exact fun _ _ _ h => h
  case e1_8 => (refine Or.inl ⟨by rfl, ?_⟩; intro w; go_simp; all_goals with_reducible rfl)
  try simp only [Act.put, tI, tP, tQ]
  refine wpAny_take (i := 9) (oi := ?a1_9) (v := ?b1_9) ?c1_9 (by kernel_rfl) (by kernel_rfl) (by kernel_rfl) ?d1_9 ?e1_9 ?f1_9
  case c1_9 => simp only [tA, tS, tZ]; rfl
  case d1_9 => exact fun _ _ _ h => h
  case e1_9 => (refine Or.inl ⟨by rfl, ?_⟩; intro w; go_simp; all_goals with_reducible rfl)
  try simp only [Act.put, tI, tP, tQ]
  refine wpAny_take (i := 10) (oi := ?a1_10) (v := ?b1_10) ?c1_10 (by kernel_rfl) (by kernel_rfl) (by kernel_rfl) ?d1_10 ?e1_10 ?f1_10
  case c1_10 => simp only [tA, tS, tZ]; rfl
  case d1_10 => exact fun _ _ _ h => h
  case e1_10 => (refine Or.inl ⟨by rfl, ?_⟩; intro w; go_simp; all_goals with_reducible rfl)
  try simp only [Act.put, tI, tP, tQ]
  refine wpAny_ready (rs := [6]) (by kernel_rfl) (by simp) ?_
  refine (AllReady.cons (o := ?ob28_6) ?hob28_6 (fun K hK => ?kb28_6) AllReady.nil)
  case hob28_6 => simp only [List.getElem?_toArray, List.getElem?_cons_succ, List.getElem?_cons_zero]; rfl
  case kb28_6 =>
    go_simp
    refine hK _ _ ?_
    clear hK K
    try simp only [Act.put, List.setIfInBounds_toArray, List.set_cons_zero, List.set_cons_succ]
    refine wpAny_take (i := 7) (oi := ?a27_7) (v := ?b27_7) ?c27_7 (by kernel_rfl) (by kernel_rfl) (by kernel_rfl) ?d27_7 ?e27_7 ?f27_7
    case c27_7 => simp only [tA, tS, tZ]; rfl
    case d27_7 => exact fun _ _ _ h => h
    case e27_7 => (refine Or.inl ⟨by rfl, ?_⟩; intro w; go_simp; all_goals with_reducible rfl)
    try simp only [Act.put, tI, tP, tQ]
    refine wpAny_take (i := 11) (oi := ?a27_11) (v := ?b27_11) ?c27_11 (by kernel_rfl) (by kernel_rfl) (by kernel_rfl) ?d27_11 ?e27_11 ?f27_11
    case c27_11 => simp only [tA, tS, tZ]; rfl
    case d27_11 => exact fun _ _ _ h => h
    case e27_11 => (refine Or.inl ⟨by rfl, ?_⟩; intro w; go_simp; all_goals with_reducible rfl)
    try simp only [Act.put, tI, tP, tQ]
    refine wpAny_ready (rs := [12]) (by kernel_rfl) (by simp) ?_
    refine (AllReady.cons (o := ?ob26_12) ?hob26_12 (fun K hK => ?kb26_12) AllReady.nil)
    case hob26_12 => simp only [List.getElem?_toArray, List.getElem?_cons_succ, List.getElem?_cons_zero]; rfl
    case kb26_12 =>
      go_simp
      refine hK _ _ ?_
      clear hK K
      try simp only [Act.put, List.setIfInBounds_toArray, List.set_cons_zero, List.set_cons_succ]
      refine wpAny_done (by kernel_rfl) ?_ _
      have R0 : PRow 66 wb (w.setCell ⟨k, 3, none⟩ (.int .i64 (q.s0 + 1))) k (cmC (bumpC q (-2 : Int)) a n c b m d) := R.set 3 (.int .i64 (q.s0 + 1))
      have D0 := (Below.refl (w.setCell ⟨k, 3, none⟩ (.int .i64 (q.s0 + 1))).heap.size (w.setCell ⟨k, 3, none⟩ (.int .i64 (q.s0 + 1)))).drew
      have ra1 := (rd_setcell (i := 3) ra R.row (cm_noint _ _ _ _ _ _ _) (.int .i64 (q.s0 + 1))).below D0
      have rb1 := (rd_setcell (i := 3) rb R.row (cm_noint _ _ _ _ _ _ _) (.int .i64 (q.s0 + 1))).below D0
      have R1 := R0.later D0
      clear k0 k1 k2 k3 k4 k5 k6 k7 k8 k9 fr D0 R0 sv0 sv1 d2 wi
      generalize (w.setCell ⟨k, 3, none⟩ (.int .i64 (q.s0 + 1))).drew = w1 at *
      have k0 : w1.cell? ⟨k, 0, none⟩ = some (.int .i64 q.bet) := R1.cell 0 _ rfl
      have k1 : w1.cell? ⟨k, 1, none⟩ = some (.int .i64 q.ballots) := R1.cell 1 _ rfl
      have k2 : w1.cell? ⟨k, 2, none⟩ = some (.int .i64 q.margin) := R1.cell 2 _ rfl
      have k8 : w1.cell? ⟨k, 8, none⟩ = some (.slice a n c) := R1.cell 8 _ rfl
      have n1' : 1 ≤ q.ballots := vld.out.may.2.1.1
      have n2' : q.ballots ≤ 1000000 := vld.out.may.2.1.2
      have LP := Lib.hid vld.out.pw.1
      have LF := Lib.hid (show L * factC q (-2 : Int) < pw 96 from Nat.lt_of_lt_of_le (mul_lt_pw (show L < pw 5 from Nat.lt_of_le_of_lt (Nat.le_trans vld.out.le vld.out.hi) (by decide)) (show factC q (-2 : Int) < pw 2 from (fact_bd vld.out.may (by decide) (by decide)).1)) (pw_le (by decide)))
      go_upto_region 6 with fail
      have hb := (Below.refl w1.heap.size w1).drew
      have R1 := R1.later hb
      have ra1 := ra1.below hb
      have rb1 := rb1.below hb
      clear hb k0 k1 k2 k8
      refine wp_region_held_drew (S := (fun w' => w'.cell? ⟨k, 0, none⟩ = some (.int .i64 q.bet) ∧ w'.cell? ⟨k, 1, none⟩ = some (.int .i64 q.ballots) ∧ w'.cell? ⟨k, 2, none⟩ = some (.int .i64 q.margin) ∧ w'.cell? ⟨k, 8, none⟩ = some (.slice a n c))) (by kernel_rfl) ?_ (fun hHeld => ?_)
      · exact ⟨R1.cell 0 _ rfl, R1.cell 1 _ rfl, R1.cell 2 _ rfl, R1.cell 8 _ rfl⟩
      generalize w1.drew = w2 at *
      refine wpAnyH_take (i := 0) (oi := ?a2_0) (v := ?b2_0) ?c2_0 (by kernel_rfl) (by kernel_rfl) (by kernel_rfl) ?d2_0 ?e2_0 (by assumption) ?f2_0
      case c2_0 => simp only [tA, tS, tZ]; rfl
      case d2_0 => exact fun _ _ _ h => h
      case e2_0 => (refine Or.inl ⟨by rfl, ?_⟩; intro w h; (try dsimp only at h); go_simp; all_goals with_reducible rfl)
      try simp only [Act.put, tI, tP, tQ]
      refine wpAnyH_take (i := 1) (oi := ?a2_1) (v := ?b2_1) ?c2_1 (by kernel_rfl) (by kernel_rfl) (by kernel_rfl) ?d2_1 ?e2_1 (by assumption) ?f2_1
      case c2_1 => simp only [tA, tS, tZ]; rfl
      case d2_1 => exact fun _ _ _ h => h
      case e2_1 => (refine Or.inl ⟨by rfl, ?_⟩; intro w h; (try dsimp only at h); go_simp; all_goals with_reducible rfl)
      try simp only [Act.put, tI, tP, tQ]
      refine wpAnyH_take (i := 2) (oi := ?a2_2) (v := ?b2_2) ?c2_2 (by kernel_rfl) (by kernel_rfl) (by kernel_rfl) ?d2_2 ?e2_2 (by assumption) ?f2_2
      case c2_2 => simp only [tA, tS, tZ]; rfl
      case d2_2 => exact fun _ _ _ h => h
      case e2_2 => (refine Or.inl ⟨by rfl, ?_⟩; intro w h; (try dsimp only at h); go_simp; all_goals with_reducible rfl)
      try simp only [Act.put, tI, tP, tQ]
      refine wpAnyH_take (i := 3) (oi := ?a2_3) (v := ?b2_3) ?c2_3 (by kernel_rfl) (by kernel_rfl) (by kernel_rfl) ?d2_3 ?e2_3 (by assumption) ?f2_3
      case c2_3 => simp only [tA, tS, tZ]; rfl
      case d2_3 => exact fun _ _ _ h => h
      case e2_3 => (refine Or.inl ⟨by rfl, ?_⟩; intro w h; (try dsimp only at h); go_simp; all_goals with_reducible rfl)
      try simp only [Act.put, tI, tP, tQ]
      refine wpAnyH_take (i := 4) (oi := ?a2_4) (v := ?b2_4) ?c2_4 (by kernel_rfl) (by kernel_rfl) (by kernel_rfl) ?d2_4 ?e2_4 (by assumption) ?f2_4
      case c2_4 => simp only [tA, tS, tZ]; rfl
      case d2_4 => exact fun _ _ _ h => h
      case e2_4 => (refine Or.inl ⟨by rfl, ?_⟩; intro w h; (try dsimp only at h); go_simp; all_goals with_reducible rfl)
      try simp only [Act.put, tI, tP, tQ]
      refine wpAnyH_take (i := 5) (oi := ?a2_5) (v := ?b2_5) ?c2_5 (by kernel_rfl) (by kernel_rfl) (by kernel_rfl) ?d2_5 ?e2_5 (by assumption) ?f2_5
      case c2_5 => simp only [tA, tS, tZ]; rfl
      case d2_5 => exact fun _ _ _ h => h
      case e2_5 => (refine Or.inl ⟨by rfl, ?_⟩; intro w h; (try dsimp only at h); go_simp; all_goals with_reducible rfl)
      try simp only [Act.put, tI, tP, tQ]
      refine wpAnyH_take (i := 6) (oi := ?a2_6) (v := ?b2_6) ?c2_6 (by kernel_rfl) (by kernel_rfl) (by kernel_rfl) ?d2_6 ?e2_6 (by assumption) ?f2_6
      case c2_6 => simp only [tA, tS, tZ]; rfl
      case d2_6 => exact fun _ _ _ h => h
      case e2_6 => (refine Or.inl ⟨by rfl, ?_⟩; intro w h; (try dsimp only at h); go_simp; all_goals with_reducible rfl)
      try simp only [Act.put, tI, tP, tQ]
      refine wpAnyH_take (i := 7) (oi := ?a2_7) (v := ?b2_7) ?c2_7 (by kernel_rfl) (by kernel_rfl) (by kernel_rfl) ?d2_7 ?e2_7 (by assumption) ?f2_7
      case c2_7 => simp only [tA, tS, tZ]; rfl
      case d2_7 => exact fun _ _ _ h => h
      case e2_7 => (refine Or.inl ⟨by rfl, ?_⟩; intro w h; (try dsimp only at h); go_simp; all_goals with_reducible rfl)
      try simp only [Act.put, tI, tP, tQ]
      refine wpAnyH_take (i := 8) (oi := ?a2_8) (v := ?b2_8) ?c2_8 (by kernel_rfl) (by kernel_rfl) (by kernel_rfl) ?d2_8 ?e2_8 (by assumption) ?f2_8
      case c2_8 => simp only [tA, tS, tZ]; rfl
      case d2_8 => exact fun _ _ _ h => h
      case e2_8 => (refine Or.inl ⟨by rfl, ?_⟩; intro w h; (try dsimp only at h); go_simp; all_goals with_reducible rfl)
      try simp only [Act.put, tI, tP, tQ]
      refine wpAnyH_take (i := 9) (oi := ?a2_9) (v := ?b2_9) ?c2_9 (by kernel_rfl) (by kernel_rfl) (by kernel_rfl) ?d2_9 ?e2_9 (by assumption) ?f2_9
      case c2_9 => simp only [tA, tS, tZ]; rfl
      case d2_9 => exact fun _ _ _ h => h
      case e2_9 => (refine Or.inl ⟨by rfl, ?_⟩; intro w h; (try dsimp only at h); go_simp; all_goals with_reducible rfl)
      try simp only [Act.put, tI, tP, tQ]
      refine wpAnyH_take (i := 10) (oi := ?a2_10) (v := ?b2_10) ?c2_10 (by kernel_rfl) (by kernel_rfl) (by kernel_rfl) ?d2_10 ?e2_10 (by assumption) ?f2_10
      case c2_10 => simp only [tA, tS, tZ]; rfl
      case d2_10 => exact fun _ _ _ h => h
      case e2_10 => (refine Or.inl ⟨by rfl, ?_⟩; intro w h; (try dsimp only at h); go_simp; all_goals with_reducible rfl)
      try simp only [Act.put, tI, tP, tQ]
      refine wpAnyH_take (i := 11) (oi := ?a2_11) (v := ?b2_11) ?c2_11 (by kernel_rfl) (by kernel_rfl) (by kernel_rfl) ?d2_11 ?e2_11 (by assumption) ?f2_11
      case c2_11 => simp only [tA, tS, tZ]; rfl
      case d2_11 => exact fun _ _ _ h => h
      case e2_11 => (refine Or.inl ⟨by rfl, ?_⟩; intro w h; (try dsimp only at h); go_simp; all_goals with_reducible rfl)
      try simp only [Act.put, tI, tP, tQ]
      refine wpAnyH_take (i := 12) (oi := ?a2_12) (v := ?b2_12) ?c2_12 (by kernel_rfl) (by kernel_rfl) (by kernel_rfl) ?d2_12 ?e2_12 (by assumption) ?f2_12
      case c2_12 => simp only [tA, tS, tZ]; rfl
      case d2_12 => exact fun _ _ _ h => h
      case e2_12 => (refine Or.inl ⟨by rfl, ?_⟩; intro w h; (try dsimp only at h); go_simp; all_goals with_reducible rfl)
      try simp only [Act.put, tI, tP, tQ]
      refine wpAnyH_take (i := 13) (oi := ?a2_13) (v := ?b2_13) ?c2_13 (by kernel_rfl) (by kernel_rfl) (by kernel_rfl) ?d2_13 ?e2_13 (by assumption) ?f2_13
      case c2_13 => simp only [tA, tS, tZ]; rfl
      case d2_13 => exact fun _ _ _ h => h
      case e2_13 => (refine Or.inl ⟨by rfl, ?_⟩; intro w h; (try dsimp only at h); go_simp; all_goals with_reducible rfl)
      try simp only [Act.put, tI, tP, tQ]
      refine wpAnyH_take (i := 14) (oi := ?a2_14) (v := ?b2_14) ?c2_14 (by kernel_rfl) (by kernel_rfl) (by kernel_rfl) ?d2_14 ?e2_14 (by assumption) ?f2_14
      case c2_14 => simp only [tA, tS, tZ]; rfl
      case d2_14 => exact fun _ _ _ h => h
      case e2_14 => (refine Or.inl ⟨by rfl, ?_⟩; intro w h; (try dsimp only at h); go_simp; all_goals with_reducible rfl)
      try simp only [Act.put, tI, tP, tQ]
      refine wpAnyH_take (i := 15) (oi := ?a2_15) (v := ?b2_15) ?c2_15 (by kernel_rfl) (by kernel_rfl) (by kernel_rfl) ?d2_15 ?e2_15 (by assumption) ?f2_15
      case c2_15 => simp only [tA, tS, tZ]; rfl
      case d2_15 => exact fun _ _ _ h => h
      case e2_15 => (refine Or.inl ⟨by rfl, ?_⟩; intro w h; (try dsimp only at h); go_simp; all_goals with_reducible rfl)
      try simp only [Act.put, tI, tP, tQ]
      refine wpAnyH_take (i := 16) (oi := ?a2_16) (v := ?b2_16) ?c2_16 (by kernel_rfl) (by kernel_rfl) (by kernel_rfl) ?d2_16 ?e2_16 (by assumption) ?f2_16
      case c2_16 => simp only [tA, tS, tZ]; rfl
      case d2_16 => exact fun _ _ _ h => h
      case e2_16 => (refine Or.inl ⟨by rfl, ?_⟩; intro w h; (try dsimp only at h); go_simp; all_goals with_reducible rfl)
      try simp only [Act.put, tI, tP, tQ]
      refine wpAnyH_take (i := 17) (oi := ?a2_17) (v := ?b2_17) ?c2_17 (by kernel_rfl) (by kernel_rfl) (by kernel_rfl) ?d2_17 ?e2_17 (by assumption) ?f2_17
      case c2_17 => simp only [tA, tS, tZ]; rfl
      case d2_17 => exact fun _ _ _ h => h
      case e2_17 => (refine Or.inl ⟨by rfl, ?_⟩; intro w h; (try dsimp only at h); go_simp; all_goals with_reducible rfl)
      try simp only [Act.put, tI, tP, tQ]
      refine wpAnyH_take (i := 18) (oi := ?a2_18) (v := ?b2_18) ?c2_18 (by kernel_rfl) (by kernel_rfl) (by kernel_rfl) ?d2_18 ?e2_18 (by assumption) ?f2_18
      case c2_18 => simp only [tA, tS, tZ]; rfl
      case d2_18 => exact fun _ _ _ h => h
      case e2_18 => (refine Or.inl ⟨by rfl, ?_⟩; intro w h; (try dsimp only at h); go_simp; all_goals with_reducible rfl)
      try simp only [Act.put, tI, tP, tQ]
      refine wpAnyH_take (i := 19) (oi := ?a2_19) (v := ?b2_19) ?c2_19 (by kernel_rfl) (by kernel_rfl) (by kernel_rfl) ?d2_19 ?e2_19 (by assumption) ?f2_19
      case c2_19 => simp only [tA, tS, tZ]; rfl
      case d2_19 => exact fun _ _ _ h => h
      case e2_19 => (refine Or.inl ⟨by rfl, ?_⟩; intro w h; (try dsimp only at h); go_simp; all_goals with_reducible rfl)
      try simp only [Act.put, tI, tP, tQ]
      refine wpAnyH_take (i := 20) (oi := ?a2_20) (v := ?b2_20) ?c2_20 (by kernel_rfl) (by kernel_rfl) (by kernel_rfl) ?d2_20 ?e2_20 (by assumption) ?f2_20
      case c2_20 => simp only [tA, tS, tZ]; rfl
      case d2_20 => exact fun _ _ _ h => h
      case e2_20 => (refine Or.inl ⟨by rfl, ?_⟩; intro w h; (try dsimp only at h); go_simp; all_goals with_reducible rfl)
      try simp only [Act.put, tI, tP, tQ]
      refine wpAnyH_take (i := 21) (oi := ?a2_21) (v := ?b2_21) ?c2_21 (by kernel_rfl) (by kernel_rfl) (by kernel_rfl) ?d2_21 ?e2_21 (by assumption) ?f2_21
      case c2_21 => simp only [tA, tS, tZ]; rfl
      case d2_21 => exact fun _ _ _ h => h
      case e2_21 => (refine Or.inl ⟨by rfl, ?_⟩; intro w h; (try dsimp only at h); go_simp; all_goals with_reducible rfl)
      try simp only [Act.put, tI, tP, tQ]
      refine wpAnyH_take (i := 22) (oi := ?a2_22) (v := ?b2_22) ?c2_22 (by kernel_rfl) (by kernel_rfl) (by kernel_rfl) ?d2_22 ?e2_22 (by assumption) ?f2_22
      case c2_22 => simp only [tA, tS, tZ]; rfl
      case d2_22 => exact fun _ _ _ h => h
      case e2_22 => (refine Or.inl ⟨by rfl, ?_⟩; intro w h; (try dsimp only at h); go_simp; all_goals with_reducible rfl)
      try simp only [Act.put, tI, tP, tQ]
      refine wpAnyH_take (i := 23) (oi := ?a2_23) (v := ?b2_23) ?c2_23 (by kernel_rfl) (by kernel_rfl) (by kernel_rfl) ?d2_23 ?e2_23 (by assumption) ?f2_23
      case c2_23 => simp only [tA, tS, tZ]; rfl
      case d2_23 => exact fun _ _ _ h => h
      case e2_23 => (refine Or.inl ⟨by rfl, ?_⟩; intro w h; (try dsimp only at h); go_simp; all_goals with_reducible rfl)
      try simp only [Act.put, tI, tP, tQ]
      refine wpAnyH_take (i := 24) (oi := ?a2_24) (v := ?b2_24) ?c2_24 (by kernel_rfl) (by kernel_rfl) (by kernel_rfl) ?d2_24 ?e2_24 (by assumption) ?f2_24
      case c2_24 => simp only [tA, tS, tZ]; rfl
      case d2_24 => exact fun _ _ _ h => h
      case e2_24 => (refine Or.inl ⟨by rfl, ?_⟩; intro w h; (try dsimp only at h); go_simp; all_goals with_reducible rfl)
      try simp only [Act.put, tI, tP, tQ]
      refine wpAnyH_take (i := 25) (oi := ?a2_25) (v := ?b2_25) ?c2_25 (by kernel_rfl) (by kernel_rfl) (by kernel_rfl) ?d2_25 ?e2_25 (by assumption) ?f2_25
      case c2_25 => simp only [tA, tS, tZ]; rfl
      case d2_25 => exact fun _ _ _ h => h
      case e2_25 => (refine Or.inl ⟨by rfl, ?_⟩; intro w h; (try dsimp only at h); go_simp; all_goals with_reducible rfl)
      try simp only [Act.put, tI, tP, tQ]
      refine wpAnyH_take (i := 26) (oi := ?a2_26) (v := ?b2_26) ?c2_26 (by kernel_rfl) (by kernel_rfl) (by kernel_rfl) ?d2_26 ?e2_26 (by assumption) ?f2_26
      case c2_26 => simp only [tA, tS, tZ]; rfl
      case d2_26 => exact fun _ _ _ h => h
      case e2_26 => (refine Or.inl ⟨by rfl, ?_⟩; intro w h; (try dsimp only at h); go_simp; all_goals with_reducible rfl)
      try simp only [Act.put, tI, tP, tQ]
      have SF := see_fact vld.out.may (x := (-2 : Int)) (Y := -2 * q.ballots) (by decide) (by decide) (by omega)
      rw [SF]
      clear SF
      refine wpAnyH_ready (rs := [27]) (by kernel_rfl) (by simp) ?_
      refine AllReadyH.cons (o := ?or3_27) ?hor3_27 (fun K hK => ?kr3_27) AllReadyH.nil
      case hor3_27 => simp only [List.getElem?_toArray, List.getElem?_cons_succ, List.getElem?_cons_zero]; rfl
      go_simp
      refine (Of_any w2 (factC q (-2 : Int)) (fact_bd vld.out.may (by decide) (by decide)).1).mono ?_
      rintro e2 w3 ⟨af, nf, cf, rfl, yf, hb⟩
      have R1 := R1.later hb
      have ra1 := ra1.below hb
      have rb1 := rb1.below hb
      clear hb
      go_wp2_with fail
      refine hK.out _ _ ?_ (fun hHeld => ?_)
      · exact ⟨R1.cell 0 _ rfl, R1.cell 1 _ rfl, R1.cell 2 _ rfl, R1.cell 8 _ rfl⟩
      clear hK K
      try simp only [Act.put, List.setIfInBounds_toArray, List.set_cons_zero, List.set_cons_succ]
      refine wpAnyH_ready (rs := [28]) (by kernel_rfl) (by simp) ?_
      refine AllReadyH.cons (o := ?or4_28) ?hor4_28 (fun K hK => ?kr4_28) AllReadyH.nil
      case hor4_28 => simp only [List.getElem?_toArray, List.getElem?_cons_succ, List.getElem?_cons_zero]; rfl
      go_simp
      have cc := Mul_any w3 ra1 yf
      rw [mul_ok LP.out (Nat.lt_of_lt_of_le (show factC q (-2 : Int) < pw 2 from (fact_bd vld.out.may (by decide) (by decide)).1) (pw_le (by decide))) LF.out] at cc
      refine cc.mono ?_
      rintro e2 w4 ⟨ax, nx, cx, rfl, yx, hb⟩
      clear cc
      have R1 := R1.later hb
      have ra1 := ra1.below hb
      have rb1 := rb1.below hb
      clear hb yf
      go_wp2_with fail
      refine hK.out _ _ ?_ (fun hHeld => ?_)
      · exact ⟨R1.cell 0 _ rfl, R1.cell 1 _ rfl, R1.cell 2 _ rfl, R1.cell 8 _ rfl⟩
      clear hK K
      try simp only [Act.put, List.setIfInBounds_toArray, List.set_cons_zero, List.set_cons_succ]
      refine wpAnyH_take (i := 29) (oi := ?a5_29) (v := ?b5_29) ?c5_29 (by kernel_rfl) (by kernel_rfl) (by kernel_rfl) ?d5_29 ?e5_29 (by assumption) ?f5_29
      case c5_29 => simp only [tA, tS, tZ]; rfl
      case d5_29 => exact fun _ _ _ h => h
      case e5_29 => (refine Or.inl ⟨by rfl, ?_⟩; intro w h; (try dsimp only at h); go_simp; all_goals with_reducible rfl)
      try simp only [Act.put, tI, tP, tQ]
      refine wpAnyH_take (i := 30) (oi := ?a5_30) (v := ?b5_30) ?c5_30 (by kernel_rfl) (by kernel_rfl) (by kernel_rfl) ?d5_30 ?e5_30 (by assumption) ?f5_30
      case c5_30 => simp only [tA, tS, tZ]; rfl
      case d5_30 => exact fun _ _ _ h => h
      case e5_30 => (refine Or.inl ⟨by rfl, ?_⟩; intro w h; (try dsimp only at h); go_simp; all_goals with_reducible rfl)
      try simp only [Act.put, tI, tP, tQ]
      refine wpAnyH_take (i := 31) (oi := ?a5_31) (v := ?b5_31) ?c5_31 (by kernel_rfl) (by kernel_rfl) (by kernel_rfl) ?d5_31 ?e5_31 (by assumption) ?f5_31
      case c5_31 => simp only [tA, tS, tZ]; rfl
      case d5_31 => exact fun _ _ _ h => h
      case e5_31 => (refine Or.inl ⟨by rfl, ?_⟩; intro w h; (try dsimp only at h); go_simp; all_goals with_reducible rfl)
      try simp only [Act.put, tI, tP, tQ]
      refine wpAnyH_take (i := 32) (oi := ?a5_32) (v := ?b5_32) ?c5_32 (by kernel_rfl) (by kernel_rfl) (by kernel_rfl) ?d5_32 ?e5_32 (by assumption) ?f5_32
      case c5_32 => simp only [tA, tS, tZ]; rfl
      case d5_32 => exact fun _ _ _ h => h
      case e5_32 => (refine Or.inl ⟨by rfl, ?_⟩; intro w h; (try dsimp only at h); go_simp; all_goals with_reducible rfl)
      try simp only [Act.put, tI, tP, tQ]
      refine wpAnyH_take (i := 33) (oi := ?a5_33) (v := ?b5_33) ?c5_33 (by kernel_rfl) (by kernel_rfl) (by kernel_rfl) ?d5_33 ?e5_33 (by assumption) ?f5_33
      case c5_33 => simp only [tA, tS, tZ]; rfl
      case d5_33 => exact fun _ _ _ h => h
      case e5_33 => (refine Or.inl ⟨by rfl, ?_⟩; intro w h; (try dsimp only at h); go_simp; all_goals with_reducible rfl)
      try simp only [Act.put, tI, tP, tQ]
      refine wpAnyH_done (by kernel_rfl) ?_ _
      clear hHeld
      have cW := see_whole vld.out.may
      go_wp2_with fail
      refine (Of_any w4 (wholeC q) (fact_bd vld.out.may (x := 0) (by decide) (by decide)).2).mono ?_
      rintro e2 w5 ⟨ay, ny, cy, rfl, yy, hb⟩
      have R1 := R1.later hb
      have ra1 := ra1.below hb
      have rb1 := rb1.below hb
      have yx := yx.below hb
      clear hb
      go_wp2_with fail
      have cc := Div_any w5 yx yy
      rw [div_ok LF.out (Nat.lt_of_lt_of_le (show wholeC q < pw 2 from (fact_bd vld.out.may (x := 0) (by decide) (by decide)).2) (pw_le (by decide))) (fact_whole vld.out.may).2] at cc
      refine cc.mono ?_
      rintro e2 w6 ⟨az, nz, cz, ar, nr, cr, rfl, yz, -, hb⟩
      clear cc
      have R1 := R1.later hb
      have ra1 := ra1.below hb
      have rb1 := rb1.below hb
      clear hb yx yy
      have fr8 := R1.free 8
      have k8 := R1.cell 8 _ rfl
      have R2 : PRow 66 wb (w6.setCell ⟨k, 8, none⟩ (.slice az nz cz)) k (cmC (bumpC q (-2 : Int)) az nz cz b m d) := R1.set 8 (.slice az nz cz)
      have yz := rd_setcell (i := 8) yz R1.row (cm_noint _ _ _ _ _ _ _) (.slice az nz cz)
      have rb1 := rd_setcell (i := 8) rb1 R1.row (cm_noint _ _ _ _ _ _ _) (.slice az nz cz)
      clear ra1 R1
      go_upto_region 8 with fail
      clear fr8 k8 cW n1' n2'
      generalize w6.setCell ⟨k, 8, none⟩ (.slice az nz cz) = w7 at *
      by_cases hD : (L * factC q (-2 : Int) / wholeC q) ≤ mostN
      · have NX := Lib.hid (show nextC q L (-2 : Int) = (L * factC q (-2 : Int) / wholeC q) by unfold nextC timesN; exact Nat.min_eq_left hD)
        have DL := Lib.hid (show leC (limbs (L * factC q (-2 : Int) / wholeC q)) [0, 0, 0, 0, 1] = true by rw [← most_limbs, leC_ok (Nat.lt_of_le_of_lt hD most_pw) most_pw]; exact decide_eq_true hD)
        clear hD
        have hb := (Below.refl w7.heap.size w7).drew
        have R2 := R2.later hb
        have yz := yz.below hb
        have rb1 := rb1.below hb
        clear hb
        refine wp_region_held_drew (S := (fun w' => w'.cell? ⟨k, 8, none⟩ = some (.slice az nz cz) ∧ True)) (by kernel_rfl) ?_ (fun hHeld => ?_)
        · exact ⟨R2.cell 8 _ rfl, trivial⟩
        generalize w7.drew = w8 at *
        refine wpAnyH_take (i := 0) (oi := ?a6_0) (v := ?b6_0) ?c6_0 (by kernel_rfl) (by kernel_rfl) (by kernel_rfl) ?d6_0 ?e6_0 (by assumption) ?f6_0
        case c6_0 => simp only [tA, tS, tZ]; rfl
        case d6_0 => exact fun _ _ _ h => h
        case e6_0 => (refine Or.inl ⟨by rfl, ?_⟩; intro w h; (try dsimp only at h); go_simp; all_goals with_reducible rfl)
        try simp only [Act.put, tI, tP, tQ]
        refine wpAnyH_take (i := 1) (oi := ?a6_1) (v := ?b6_1) ?c6_1 (by kernel_rfl) (by kernel_rfl) (by kernel_rfl) ?d6_1 ?e6_1 (by assumption) ?f6_1
        case c6_1 => simp only [tA, tS, tZ]; rfl
        case d6_1 => exact fun _ _ _ h => h
        case e6_1 => (refine Or.inl ⟨by rfl, ?_⟩; intro w h; (try dsimp only at h); go_simp; all_goals with_reducible rfl)
        try simp only [Act.put, tI, tP, tQ]
        refine wpAnyH_take (i := 2) (oi := ?a6_2) (v := ?b6_2) ?c6_2 (by kernel_rfl) (by kernel_rfl) (by kernel_rfl) ?d6_2 ?e6_2 (by assumption) ?f6_2
        case c6_2 => simp only [tA, tS, tZ]; rfl
        case d6_2 => exact fun _ _ _ h => h
        case e6_2 => (refine Or.inl ⟨by rfl, ?_⟩; intro w h; (try dsimp only at h); go_simp; all_goals with_reducible rfl)
        try simp only [Act.put, tI, tP, tQ]
        refine wpAnyH_take (i := 3) (oi := ?a6_3) (v := ?b6_3) ?c6_3 (by kernel_rfl) (by kernel_rfl) (by kernel_rfl) ?d6_3 ?e6_3 (by assumption) ?f6_3
        case c6_3 => simp only [tA, tS, tZ]; rfl
        case d6_3 => exact fun _ _ _ h => h
        case e6_3 => (refine Or.inl ⟨by rfl, ?_⟩; intro w h; (try dsimp only at h); go_simp; all_goals with_reducible rfl)
        try simp only [Act.put, tI, tP, tQ]
        refine wpAnyH_take (i := 4) (oi := ?a6_4) (v := ?b6_4) ?c6_4 (by kernel_rfl) (by kernel_rfl) (by kernel_rfl) ?d6_4 ?e6_4 (by assumption) ?f6_4
        case c6_4 => simp only [tA, tS, tZ]; rfl
        case d6_4 => exact fun _ _ _ h => h
        case e6_4 => (refine Or.inl ⟨by rfl, ?_⟩; intro w h; (try dsimp only at h); go_simp; all_goals with_reducible rfl)
        try simp only [Act.put, tI, tP, tQ]
        refine wpAnyH_ready (rs := [5]) (by kernel_rfl) (by simp) ?_
        refine AllReadyH.cons (o := ?or7_5) ?hor7_5 (fun K hK => ?kr7_5) AllReadyH.nil
        case hor7_5 => simp only [List.getElem?_toArray, List.getElem?_cons_succ, List.getElem?_cons_zero]; rfl
        go_simp
        refine (cmMost_any w8).mono ?_
        rintro e2 w9 ⟨am, nm, cm, rfl, ym, hb⟩
        have R2 := R2.later hb
        have yz := yz.below hb
        have rb1 := rb1.below hb
        clear hb
        go_wp2_with fail
        refine hK.out _ _ ?_ (fun hHeld => ?_)
        · exact ⟨R2.cell 8 _ rfl, trivial⟩
        clear hK K
        try simp only [Act.put, List.setIfInBounds_toArray, List.set_cons_zero, List.set_cons_succ]
        refine wpAnyH_ready (rs := [6]) (by kernel_rfl) (by simp) ?_
        refine AllReadyH.cons (o := ?or8_6) ?hor8_6 (fun K hK => ?kr8_6) AllReadyH.nil
        case hor8_6 => simp only [List.getElem?_toArray, List.getElem?_cons_succ, List.getElem?_cons_zero]; rfl
        go_simp
        have cc := cmAtMost_any w9 yz ym
        rw [DL.out] at cc
        refine cc.mono ?_
        rintro e2 wA ⟨rfl, hb⟩
        clear cc
        have R2 := R2.later hb
        have yz := yz.below hb
        have rb1 := rb1.below hb
        clear hb ym
        go_wp2_with fail
        refine hK.out _ _ ?_ (fun hHeld => ?_)
        · exact ⟨R2.cell 8 _ rfl, trivial⟩
        clear hK K
        try simp only [Act.put, List.setIfInBounds_toArray, List.set_cons_zero, List.set_cons_succ]
        refine wpAnyH_take (i := 7) (oi := ?a9_7) (v := ?b9_7) ?c9_7 (by kernel_rfl) (by kernel_rfl) (by kernel_rfl) ?d9_7 ?e9_7 (by assumption) ?f9_7
        case c9_7 => simp only [tA, tS, tZ]; rfl
        case d9_7 => exact fun _ _ _ h => h
        case e9_7 => (refine Or.inl ⟨by rfl, ?_⟩; intro w h; (try dsimp only at h); go_simp; all_goals with_reducible rfl)
        try simp only [Act.put, tI, tP, tQ]
        refine wpAnyH_done (by kernel_rfl) ?_ _
        clear hHeld
        rw [← NX.out] at yz
        by_cases hB : nextC q L (-2 : Int) ≤ B
        · have BL := Lib.hid (show leC (limbs (nextC q L (-2 : Int))) (limbs B) = true by rw [leC_ok nextC_lt vld.out.pw.2]; exact decide_eq_true hB)
          have HB := Lib.hid hB
          clear hB
          go_upto_region 10 with fail
          have hb := (Below.refl wA.heap.size wA).drew
          have R2 := R2.later hb
          have yz := yz.below hb
          have rb1 := rb1.below hb
          clear hb
          refine wp_region_held_drew (S := (fun w' => w'.cell? ⟨k, 8, none⟩ = some (.slice az nz cz) ∧ w'.cell? ⟨k, 9, none⟩ = some (.slice b m d))) (by kernel_rfl) ?_ (fun hHeld => ?_)
          · exact ⟨R2.cell 8 _ rfl, R2.cell 9 _ rfl⟩
          generalize wA.drew = wD at *
          refine wpAnyH_take (i := 0) (oi := ?a10_0) (v := ?b10_0) ?c10_0 (by kernel_rfl) (by kernel_rfl) (by kernel_rfl) ?d10_0 ?e10_0 (by assumption) ?f10_0
          case c10_0 => simp only [tA, tS, tZ]; rfl
          case d10_0 => exact fun _ _ _ h => h
          case e10_0 => (refine Or.inl ⟨by rfl, ?_⟩; intro w h; (try dsimp only at h); go_simp; all_goals with_reducible rfl)
          try simp only [Act.put, tI, tP, tQ]
          refine wpAnyH_take (i := 1) (oi := ?a10_1) (v := ?b10_1) ?c10_1 (by kernel_rfl) (by kernel_rfl) (by kernel_rfl) ?d10_1 ?e10_1 (by assumption) ?f10_1
          case c10_1 => simp only [tA, tS, tZ]; rfl
          case d10_1 => exact fun _ _ _ h => h
          case e10_1 => (refine Or.inl ⟨by rfl, ?_⟩; intro w h; (try dsimp only at h); go_simp; all_goals with_reducible rfl)
          try simp only [Act.put, tI, tP, tQ]
          refine wpAnyH_take (i := 2) (oi := ?a10_2) (v := ?b10_2) ?c10_2 (by kernel_rfl) (by kernel_rfl) (by kernel_rfl) ?d10_2 ?e10_2 (by assumption) ?f10_2
          case c10_2 => simp only [tA, tS, tZ]; rfl
          case d10_2 => exact fun _ _ _ h => h
          case e10_2 => (refine Or.inl ⟨by rfl, ?_⟩; intro w h; (try dsimp only at h); go_simp; all_goals with_reducible rfl)
          try simp only [Act.put, tI, tP, tQ]
          refine wpAnyH_take (i := 3) (oi := ?a10_3) (v := ?b10_3) ?c10_3 (by kernel_rfl) (by kernel_rfl) (by kernel_rfl) ?d10_3 ?e10_3 (by assumption) ?f10_3
          case c10_3 => simp only [tA, tS, tZ]; rfl
          case d10_3 => exact fun _ _ _ h => h
          case e10_3 => (refine Or.inl ⟨by rfl, ?_⟩; intro w h; (try dsimp only at h); go_simp; all_goals with_reducible rfl)
          try simp only [Act.put, tI, tP, tQ]
          refine wpAnyH_take (i := 4) (oi := ?a10_4) (v := ?b10_4) ?c10_4 (by kernel_rfl) (by kernel_rfl) (by kernel_rfl) ?d10_4 ?e10_4 (by assumption) ?f10_4
          case c10_4 => simp only [tA, tS, tZ]; rfl
          case d10_4 => exact fun _ _ _ h => h
          case e10_4 => (refine Or.inl ⟨by rfl, ?_⟩; intro w h; (try dsimp only at h); go_simp; all_goals with_reducible rfl)
          try simp only [Act.put, tI, tP, tQ]
          refine wpAnyH_take (i := 5) (oi := ?a10_5) (v := ?b10_5) ?c10_5 (by kernel_rfl) (by kernel_rfl) (by kernel_rfl) ?d10_5 ?e10_5 (by assumption) ?f10_5
          case c10_5 => simp only [tA, tS, tZ]; rfl
          case d10_5 => exact fun _ _ _ h => h
          case e10_5 => (refine Or.inl ⟨by rfl, ?_⟩; intro w h; (try dsimp only at h); go_simp; all_goals with_reducible rfl)
          try simp only [Act.put, tI, tP, tQ]
          refine wpAnyH_take (i := 6) (oi := ?a10_6) (v := ?b10_6) ?c10_6 (by kernel_rfl) (by kernel_rfl) (by kernel_rfl) ?d10_6 ?e10_6 (by assumption) ?f10_6
          case c10_6 => simp only [tA, tS, tZ]; rfl
          case d10_6 => exact fun _ _ _ h => h
          case e10_6 => (refine Or.inl ⟨by rfl, ?_⟩; intro w h; (try dsimp only at h); go_simp; all_goals with_reducible rfl)
          try simp only [Act.put, tI, tP, tQ]
          refine wpAnyH_take (i := 7) (oi := ?a10_7) (v := ?b10_7) ?c10_7 (by kernel_rfl) (by kernel_rfl) (by kernel_rfl) ?d10_7 ?e10_7 (by assumption) ?f10_7
          case c10_7 => simp only [tA, tS, tZ]; rfl
          case d10_7 => exact fun _ _ _ h => h
          case e10_7 => (refine Or.inl ⟨by rfl, ?_⟩; intro w h; (try dsimp only at h); go_simp; all_goals with_reducible rfl)
          try simp only [Act.put, tI, tP, tQ]
          refine wpAnyH_take (i := 8) (oi := ?a10_8) (v := ?b10_8) ?c10_8 (by kernel_rfl) (by kernel_rfl) (by kernel_rfl) ?d10_8 ?e10_8 (by assumption) ?f10_8
          case c10_8 => simp only [tA, tS, tZ]; rfl
          case d10_8 => exact fun _ _ _ h => h
          case e10_8 => (refine Or.inl ⟨by rfl, ?_⟩; intro w h; (try dsimp only at h); go_simp; all_goals with_reducible rfl)
          try simp only [Act.put, tI, tP, tQ]
          refine wpAnyH_take (i := 9) (oi := ?a10_9) (v := ?b10_9) ?c10_9 (by kernel_rfl) (by kernel_rfl) (by kernel_rfl) ?d10_9 ?e10_9 (by assumption) ?f10_9
          case c10_9 => simp only [tA, tS, tZ]; rfl
          case d10_9 => exact fun _ _ _ h => h
          case e10_9 => (refine Or.inl ⟨by rfl, ?_⟩; intro w h; (try dsimp only at h); go_simp; all_goals with_reducible rfl)
          try simp only [Act.put, tI, tP, tQ]
          refine wpAnyH_ready (rs := [10]) (by kernel_rfl) (by simp) ?_
          refine AllReadyH.cons (o := ?or11_10) ?hor11_10 (fun K hK => ?kr11_10) AllReadyH.nil
          case hor11_10 => simp only [List.getElem?_toArray, List.getElem?_cons_succ, List.getElem?_cons_zero]; rfl
          go_simp
          have cc := cmAtMost_any wD yz rb1
          rw [BL.out] at cc
          refine cc.mono ?_
          rintro e2 wE ⟨rfl, hb⟩
          clear cc
          have R2 := R2.later hb
          have yz := yz.below hb
          have rb1 := rb1.below hb
          clear hb
          go_wp2_with fail
          refine hK.out _ _ ?_ (fun hHeld => ?_)
          · exact ⟨R2.cell 8 _ rfl, R2.cell 9 _ rfl⟩
          clear hK K
          try simp only [Act.put, List.setIfInBounds_toArray, List.set_cons_zero, List.set_cons_succ]
          refine wpAnyH_take (i := 11) (oi := ?a12_11) (v := ?b12_11) ?c12_11 (by kernel_rfl) (by kernel_rfl) (by kernel_rfl) ?d12_11 ?e12_11 (by assumption) ?f12_11
          case c12_11 => simp only [tA, tS, tZ]; rfl
          case d12_11 => exact fun _ _ _ h => h
          case e12_11 => (refine Or.inl ⟨by rfl, ?_⟩; intro w h; (try dsimp only at h); go_simp; all_goals with_reducible rfl)
          try simp only [Act.put, tI, tP, tQ]
          refine wpAnyH_done (by kernel_rfl) ?_ _
          clear hHeld
          go_wp2_with fail
          go_ret
          refine .inr ⟨_, _, _, _, _, _, e.out, rfl, R2, ?_, ?_⟩
          · rw [(show (stepC q (-2 : Int)).lev = limbs (nextC q L (-2 : Int)) by show limbs (nextC q (val q.lev) (-2 : Int)) = _; rw [vld.out.lev, val_limbs])]; exact yz
          · rw [(show (stepC q (-2 : Int)).best = limbs B by show limbs (max (val q.best) (nextC q (val q.lev) (-2 : Int))) = _; rw [vld.out.lev, vld.out.best, val_limbs, val_limbs, Nat.max_eq_left HB.out])]; exact rb1
        · have BL := Lib.hid (show leC (limbs (nextC q L (-2 : Int))) (limbs B) = false by rw [leC_ok nextC_lt vld.out.pw.2]; exact decide_eq_false hB)
          have HB := Lib.hid hB
          clear hB
          go_upto_region 10 with fail
          have hb := (Below.refl wA.heap.size wA).drew
          have R2 := R2.later hb
          have yz := yz.below hb
          have rb1 := rb1.below hb
          clear hb
          refine wp_region_held_drew (S := (fun w' => w'.cell? ⟨k, 8, none⟩ = some (.slice az nz cz) ∧ w'.cell? ⟨k, 9, none⟩ = some (.slice b m d))) (by kernel_rfl) ?_ (fun hHeld => ?_)
          · exact ⟨R2.cell 8 _ rfl, R2.cell 9 _ rfl⟩
          generalize wA.drew = wD at *
          refine wpAnyH_take (i := 0) (oi := ?a13_0) (v := ?b13_0) ?c13_0 (by kernel_rfl) (by kernel_rfl) (by kernel_rfl) ?d13_0 ?e13_0 (by assumption) ?f13_0
          case c13_0 => simp only [tA, tS, tZ]; rfl
          case d13_0 => exact fun _ _ _ h => h
          case e13_0 => (refine Or.inl ⟨by rfl, ?_⟩; intro w h; (try dsimp only at h); go_simp; all_goals with_reducible rfl)
          try simp only [Act.put, tI, tP, tQ]
          refine wpAnyH_take (i := 1) (oi := ?a13_1) (v := ?b13_1) ?c13_1 (by kernel_rfl) (by kernel_rfl) (by kernel_rfl) ?d13_1 ?e13_1 (by assumption) ?f13_1
          case c13_1 => simp only [tA, tS, tZ]; rfl
          case d13_1 => exact fun _ _ _ h => h
          case e13_1 => (refine Or.inl ⟨by rfl, ?_⟩; intro w h; (try dsimp only at h); go_simp; all_goals with_reducible rfl)
          try simp only [Act.put, tI, tP, tQ]
          refine wpAnyH_take (i := 2) (oi := ?a13_2) (v := ?b13_2) ?c13_2 (by kernel_rfl) (by kernel_rfl) (by kernel_rfl) ?d13_2 ?e13_2 (by assumption) ?f13_2
          case c13_2 => simp only [tA, tS, tZ]; rfl
          case d13_2 => exact fun _ _ _ h => h
          case e13_2 => (refine Or.inl ⟨by rfl, ?_⟩; intro w h; (try dsimp only at h); go_simp; all_goals with_reducible rfl)
          try simp only [Act.put, tI, tP, tQ]
          refine wpAnyH_take (i := 3) (oi := ?a13_3) (v := ?b13_3) ?c13_3 (by kernel_rfl) (by kernel_rfl) (by kernel_rfl) ?d13_3 ?e13_3 (by assumption) ?f13_3
          case c13_3 => simp only [tA, tS, tZ]; rfl
          case d13_3 => exact fun _ _ _ h => h
          case e13_3 => (refine Or.inl ⟨by rfl, ?_⟩; intro w h; (try dsimp only at h); go_simp; all_goals with_reducible rfl)
          try simp only [Act.put, tI, tP, tQ]
          refine wpAnyH_take (i := 4) (oi := ?a13_4) (v := ?b13_4) ?c13_4 (by kernel_rfl) (by kernel_rfl) (by kernel_rfl) ?d13_4 ?e13_4 (by assumption) ?f13_4
          case c13_4 => simp only [tA, tS, tZ]; rfl
          case d13_4 => exact fun _ _ _ h => h
          case e13_4 => (refine Or.inl ⟨by rfl, ?_⟩; intro w h; (try dsimp only at h); go_simp; all_goals with_reducible rfl)
          try simp only [Act.put, tI, tP, tQ]
          refine wpAnyH_take (i := 5) (oi := ?a13_5) (v := ?b13_5) ?c13_5 (by kernel_rfl) (by kernel_rfl) (by kernel_rfl) ?d13_5 ?e13_5 (by assumption) ?f13_5
          case c13_5 => simp only [tA, tS, tZ]; rfl
          case d13_5 => exact fun _ _ _ h => h
          case e13_5 => (refine Or.inl ⟨by rfl, ?_⟩; intro w h; (try dsimp only at h); go_simp; all_goals with_reducible rfl)
          try simp only [Act.put, tI, tP, tQ]
          refine wpAnyH_take (i := 6) (oi := ?a13_6) (v := ?b13_6) ?c13_6 (by kernel_rfl) (by kernel_rfl) (by kernel_rfl) ?d13_6 ?e13_6 (by assumption) ?f13_6
          case c13_6 => simp only [tA, tS, tZ]; rfl
          case d13_6 => exact fun _ _ _ h => h
          case e13_6 => (refine Or.inl ⟨by rfl, ?_⟩; intro w h; (try dsimp only at h); go_simp; all_goals with_reducible rfl)
          try simp only [Act.put, tI, tP, tQ]
          refine wpAnyH_take (i := 7) (oi := ?a13_7) (v := ?b13_7) ?c13_7 (by kernel_rfl) (by kernel_rfl) (by kernel_rfl) ?d13_7 ?e13_7 (by assumption) ?f13_7
          case c13_7 => simp only [tA, tS, tZ]; rfl
          case d13_7 => exact fun _ _ _ h => h
          case e13_7 => (refine Or.inl ⟨by rfl, ?_⟩; intro w h; (try dsimp only at h); go_simp; all_goals with_reducible rfl)
          try simp only [Act.put, tI, tP, tQ]
          refine wpAnyH_take (i := 8) (oi := ?a13_8) (v := ?b13_8) ?c13_8 (by kernel_rfl) (by kernel_rfl) (by kernel_rfl) ?d13_8 ?e13_8 (by assumption) ?f13_8
          case c13_8 => simp only [tA, tS, tZ]; rfl
          case d13_8 => exact fun _ _ _ h => h
          case e13_8 => (refine Or.inl ⟨by rfl, ?_⟩; intro w h; (try dsimp only at h); go_simp; all_goals with_reducible rfl)
          try simp only [Act.put, tI, tP, tQ]
          refine wpAnyH_take (i := 9) (oi := ?a13_9) (v := ?b13_9) ?c13_9 (by kernel_rfl) (by kernel_rfl) (by kernel_rfl) ?d13_9 ?e13_9 (by assumption) ?f13_9
          case c13_9 => simp only [tA, tS, tZ]; rfl
          case d13_9 => exact fun _ _ _ h => h
          case e13_9 => (refine Or.inl ⟨by rfl, ?_⟩; intro w h; (try dsimp only at h); go_simp; all_goals with_reducible rfl)
          try simp only [Act.put, tI, tP, tQ]
          refine wpAnyH_ready (rs := [10]) (by kernel_rfl) (by simp) ?_
          refine AllReadyH.cons (o := ?or14_10) ?hor14_10 (fun K hK => ?kr14_10) AllReadyH.nil
          case hor14_10 => simp only [List.getElem?_toArray, List.getElem?_cons_succ, List.getElem?_cons_zero]; rfl
          go_simp
          have cc := cmAtMost_any wD yz rb1
          rw [BL.out] at cc
          refine cc.mono ?_
          rintro e2 wE ⟨rfl, hb⟩
          clear cc
          have R2 := R2.later hb
          have yz := yz.below hb
          have rb1 := rb1.below hb
          clear hb
          go_wp2_with fail
          refine hK.out _ _ ?_ (fun hHeld => ?_)
          · exact ⟨R2.cell 8 _ rfl, R2.cell 9 _ rfl⟩
          clear hK K
          try simp only [Act.put, List.setIfInBounds_toArray, List.set_cons_zero, List.set_cons_succ]
          refine wpAnyH_take (i := 11) (oi := ?a15_11) (v := ?b15_11) ?c15_11 (by kernel_rfl) (by kernel_rfl) (by kernel_rfl) ?d15_11 ?e15_11 (by assumption) ?f15_11
          case c15_11 => simp only [tA, tS, tZ]; rfl
          case d15_11 => exact fun _ _ _ h => h
          case e15_11 => (refine Or.inl ⟨by rfl, ?_⟩; intro w h; (try dsimp only at h); go_simp; all_goals with_reducible rfl)
          try simp only [Act.put, tI, tP, tQ]
          refine wpAnyH_done (by kernel_rfl) ?_ _
          clear hHeld
          have k8 : wE.cell? ⟨k, 8, none⟩ = some (.slice az nz cz) := R2.cell 8 _ rfl
          go_wp2_with fail
          refine (Clone_any wE yz (by have h1 := yz.len; have h2 := limbs_len_le (k := 96) (show nextC q L (-2 : Int) < pw 96 from Nat.lt_of_le_of_lt (Nat.min_le_right _ _) most_pw); omega)).mono ?_
          rintro e2 wF ⟨ak, nk, ck, rfl, yk, hb⟩
          have R2 := R2.later hb
          have yz := yz.below hb
          have rb1 := rb1.below hb
          clear hb k8
          have fr9 := R2.free 9
          have k9 := R2.cell 9 _ rfl
          have R4 : PRow 66 wb (wF.setCell ⟨k, 9, none⟩ (.slice ak nk ck)) k (cmC (bumpC q (-2 : Int)) az nz cz ak nk ck) := R2.set 9 (.slice ak nk ck)
          have yk := rd_setcell (i := 9) yk R2.row (cm_noint _ _ _ _ _ _ _) (.slice ak nk ck)
          have yl := rd_setcell (i := 9) yz R2.row (cm_noint _ _ _ _ _ _ _) (.slice ak nk ck)
          go_wp2_with fail
          go_ret
          refine .inr ⟨_, _, _, _, _, _, e.out, rfl, R4, ?_, ?_⟩
          · rw [(show (stepC q (-2 : Int)).lev = limbs (nextC q L (-2 : Int)) by show limbs (nextC q (val q.lev) (-2 : Int)) = _; rw [vld.out.lev, val_limbs])]; exact yl
          · rw [(show (stepC q (-2 : Int)).best = limbs (nextC q L (-2 : Int)) by show limbs (max (val q.best) (nextC q (val q.lev) (-2 : Int))) = _; rw [vld.out.lev, vld.out.best, val_limbs, val_limbs, Nat.max_eq_right (Nat.le_of_lt (Nat.lt_of_not_le HB.out))])]; exact yk
      · have NX := Lib.hid (show nextC q L (-2 : Int) = mostN by unfold nextC timesN; exact Nat.min_eq_right (Nat.le_of_lt (Nat.lt_of_not_le hD)))
        have DL := Lib.hid (show leC (limbs (L * factC q (-2 : Int) / wholeC q)) [0, 0, 0, 0, 1] = false by rw [← most_limbs, leC_ok (Nat.lt_of_le_of_lt (Nat.div_le_self _ _) LF.out) most_pw]; exact decide_eq_false hD)
        clear hD
        have hb := (Below.refl w7.heap.size w7).drew
        have R2 := R2.later hb
        have yz := yz.below hb
        have rb1 := rb1.below hb
        clear hb
        refine wp_region_held_drew (S := (fun w' => w'.cell? ⟨k, 8, none⟩ = some (.slice az nz cz) ∧ True)) (by kernel_rfl) ?_ (fun hHeld => ?_)
        · exact ⟨R2.cell 8 _ rfl, trivial⟩
        generalize w7.drew = w8 at *
        refine wpAnyH_take (i := 0) (oi := ?a16_0) (v := ?b16_0) ?c16_0 (by kernel_rfl) (by kernel_rfl) (by kernel_rfl) ?d16_0 ?e16_0 (by assumption) ?f16_0
        case c16_0 => simp only [tA, tS, tZ]; rfl
        case d16_0 => exact fun _ _ _ h => h
        case e16_0 => (refine Or.inl ⟨by rfl, ?_⟩; intro w h; (try dsimp only at h); go_simp; all_goals with_reducible rfl)
        try simp only [Act.put, tI, tP, tQ]
        refine wpAnyH_take (i := 1) (oi := ?a16_1) (v := ?b16_1) ?c16_1 (by kernel_rfl) (by kernel_rfl) (by kernel_rfl) ?d16_1 ?e16_1 (by assumption) ?f16_1
        case c16_1 => simp only [tA, tS, tZ]; rfl
        case d16_1 => exact fun _ _ _ h => h
        case e16_1 => (refine Or.inl ⟨by rfl, ?_⟩; intro w h; (try dsimp only at h); go_simp; all_goals with_reducible rfl)
        try simp only [Act.put, tI, tP, tQ]
        refine wpAnyH_take (i := 2) (oi := ?a16_2) (v := ?b16_2) ?c16_2 (by kernel_rfl) (by kernel_rfl) (by kernel_rfl) ?d16_2 ?e16_2 (by assumption) ?f16_2
        case c16_2 => simp only [tA, tS, tZ]; rfl
        case d16_2 => exact fun _ _ _ h => h
        case e16_2 => (refine Or.inl ⟨by rfl, ?_⟩; intro w h; (try dsimp only at h); go_simp; all_goals with_reducible rfl)
        try simp only [Act.put, tI, tP, tQ]
        refine wpAnyH_take (i := 3) (oi := ?a16_3) (v := ?b16_3) ?c16_3 (by kernel_rfl) (by kernel_rfl) (by kernel_rfl) ?d16_3 ?e16_3 (by assumption) ?f16_3
        case c16_3 => simp only [tA, tS, tZ]; rfl
        case d16_3 => exact fun _ _ _ h => h
        case e16_3 => (refine Or.inl ⟨by rfl, ?_⟩; intro w h; (try dsimp only at h); go_simp; all_goals with_reducible rfl)
        try simp only [Act.put, tI, tP, tQ]
        refine wpAnyH_take (i := 4) (oi := ?a16_4) (v := ?b16_4) ?c16_4 (by kernel_rfl) (by kernel_rfl) (by kernel_rfl) ?d16_4 ?e16_4 (by assumption) ?f16_4
        case c16_4 => simp only [tA, tS, tZ]; rfl
        case d16_4 => exact fun _ _ _ h => h
        case e16_4 => (refine Or.inl ⟨by rfl, ?_⟩; intro w h; (try dsimp only at h); go_simp; all_goals with_reducible rfl)
        try simp only [Act.put, tI, tP, tQ]
        refine wpAnyH_ready (rs := [5]) (by kernel_rfl) (by simp) ?_
        refine AllReadyH.cons (o := ?or17_5) ?hor17_5 (fun K hK => ?kr17_5) AllReadyH.nil
        case hor17_5 => simp only [List.getElem?_toArray, List.getElem?_cons_succ, List.getElem?_cons_zero]; rfl
        go_simp
        refine (cmMost_any w8).mono ?_
        rintro e2 w9 ⟨am, nm, cm, rfl, ym, hb⟩
        have R2 := R2.later hb
        have yz := yz.below hb
        have rb1 := rb1.below hb
        clear hb
        go_wp2_with fail
        refine hK.out _ _ ?_ (fun hHeld => ?_)
        · exact ⟨R2.cell 8 _ rfl, trivial⟩
        clear hK K
        try simp only [Act.put, List.setIfInBounds_toArray, List.set_cons_zero, List.set_cons_succ]
        refine wpAnyH_ready (rs := [6]) (by kernel_rfl) (by simp) ?_
        refine AllReadyH.cons (o := ?or18_6) ?hor18_6 (fun K hK => ?kr18_6) AllReadyH.nil
        case hor18_6 => simp only [List.getElem?_toArray, List.getElem?_cons_succ, List.getElem?_cons_zero]; rfl
        go_simp
        have cc := cmAtMost_any w9 yz ym
        rw [DL.out] at cc
        refine cc.mono ?_
        rintro e2 wA ⟨rfl, hb⟩
        clear cc
        have R2 := R2.later hb
        have yz := yz.below hb
        have rb1 := rb1.below hb
        clear hb ym
        go_wp2_with fail
        refine hK.out _ _ ?_ (fun hHeld => ?_)
        · exact ⟨R2.cell 8 _ rfl, trivial⟩
        clear hK K
        try simp only [Act.put, List.setIfInBounds_toArray, List.set_cons_zero, List.set_cons_succ]
        refine wpAnyH_take (i := 7) (oi := ?a19_7) (v := ?b19_7) ?c19_7 (by kernel_rfl) (by kernel_rfl) (by kernel_rfl) ?d19_7 ?e19_7 (by assumption) ?f19_7
        case c19_7 => simp only [tA, tS, tZ]; rfl
        case d19_7 => exact fun _ _ _ h => h
        case e19_7 => (refine Or.inl ⟨by rfl, ?_⟩; intro w h; (try dsimp only at h); go_simp; all_goals with_reducible rfl)
        try simp only [Act.put, tI, tP, tQ]
        refine wpAnyH_done (by kernel_rfl) ?_ _
        clear hHeld
        go_wp2_with fail
        refine (cmMost_any wA).mono ?_
        rintro e2 wB ⟨as', ns', cs', rfl, ys, hb⟩
        have R2 := R2.later hb
        have yz := yz.below hb
        have rb1 := rb1.below hb
        clear hb
        have fr8 := R2.free 8
        have k8 := R2.cell 8 _ rfl
        have R3 : PRow 66 wb (wB.setCell ⟨k, 8, none⟩ (.slice as' ns' cs')) k (cmC (bumpC q (-2 : Int)) as' ns' cs' b m d) := R2.set 8 (.slice as' ns' cs')
        have ys := rd_setcell (i := 8) ys R2.row (cm_noint _ _ _ _ _ _ _) (.slice as' ns' cs')
        have rb1 := rd_setcell (i := 8) rb1 R2.row (cm_noint _ _ _ _ _ _ _) (.slice as' ns' cs')
        clear R2 yz
        rw [← most_limbs, ← NX.out] at ys
        go_upto_region 10 with fail
        clear fr8 k8
        generalize wB.setCell ⟨k, 8, none⟩ (.slice as' ns' cs') = wC at *
        by_cases hB : nextC q L (-2 : Int) ≤ B
        · have BL := Lib.hid (show leC (limbs (nextC q L (-2 : Int))) (limbs B) = true by rw [leC_ok nextC_lt vld.out.pw.2]; exact decide_eq_true hB)
          have HB := Lib.hid hB
          clear hB
          have hb := (Below.refl wC.heap.size wC).drew
          have R3 := R3.later hb
          have ys := ys.below hb
          have rb1 := rb1.below hb
          clear hb
          refine wp_region_held_drew (S := (fun w' => w'.cell? ⟨k, 8, none⟩ = some (.slice as' ns' cs') ∧ w'.cell? ⟨k, 9, none⟩ = some (.slice b m d))) (by kernel_rfl) ?_ (fun hHeld => ?_)
          · exact ⟨R3.cell 8 _ rfl, R3.cell 9 _ rfl⟩
          generalize wC.drew = wD at *
          refine wpAnyH_take (i := 0) (oi := ?a20_0) (v := ?b20_0) ?c20_0 (by kernel_rfl) (by kernel_rfl) (by kernel_rfl) ?d20_0 ?e20_0 (by assumption) ?f20_0
          case c20_0 => simp only [tA, tS, tZ]; rfl
          case d20_0 => exact fun _ _ _ h => h
          case e20_0 => (refine Or.inl ⟨by rfl, ?_⟩; intro w h; (try dsimp only at h); go_simp; all_goals with_reducible rfl)
          try simp only [Act.put, tI, tP, tQ]
          refine wpAnyH_take (i := 1) (oi := ?a20_1) (v := ?b20_1) ?c20_1 (by kernel_rfl) (by kernel_rfl) (by kernel_rfl) ?d20_1 ?e20_1 (by assumption) ?f20_1
          case c20_1 => simp only [tA, tS, tZ]; rfl
          case d20_1 => exact fun _ _ _ h => h
          case e20_1 => (refine Or.inl ⟨by rfl, ?_⟩; intro w h; (try dsimp only at h); go_simp; all_goals with_reducible rfl)
          try simp only [Act.put, tI, tP, tQ]
          refine wpAnyH_take (i := 2) (oi := ?a20_2) (v := ?b20_2) ?c20_2 (by kernel_rfl) (by kernel_rfl) (by kernel_rfl) ?d20_2 ?e20_2 (by assumption) ?f20_2
          case c20_2 => simp only [tA, tS, tZ]; rfl
          case d20_2 => exact fun _ _ _ h => h
          case e20_2 => (refine Or.inl ⟨by rfl, ?_⟩; intro w h; (try dsimp only at h); go_simp; all_goals with_reducible rfl)
          try simp only [Act.put, tI, tP, tQ]
          refine wpAnyH_take (i := 3) (oi := ?a20_3) (v := ?b20_3) ?c20_3 (by kernel_rfl) (by kernel_rfl) (by kernel_rfl) ?d20_3 ?e20_3 (by assumption) ?f20_3
          case c20_3 => simp only [tA, tS, tZ]; rfl
          case d20_3 => exact fun _ _ _ h => h
          case e20_3 => (refine Or.inl ⟨by rfl, ?_⟩; intro w h; (try dsimp only at h); go_simp; all_goals with_reducible rfl)
          try simp only [Act.put, tI, tP, tQ]
          refine wpAnyH_take (i := 4) (oi := ?a20_4) (v := ?b20_4) ?c20_4 (by kernel_rfl) (by kernel_rfl) (by kernel_rfl) ?d20_4 ?e20_4 (by assumption) ?f20_4
          case c20_4 => simp only [tA, tS, tZ]; rfl
          case d20_4 => exact fun _ _ _ h => h
          case e20_4 => (refine Or.inl ⟨by rfl, ?_⟩; intro w h; (try dsimp only at h); go_simp; all_goals with_reducible rfl)
          try simp only [Act.put, tI, tP, tQ]
          refine wpAnyH_take (i := 5) (oi := ?a20_5) (v := ?b20_5) ?c20_5 (by kernel_rfl) (by kernel_rfl) (by kernel_rfl) ?d20_5 ?e20_5 (by assumption) ?f20_5
          case c20_5 => simp only [tA, tS, tZ]; rfl
          case d20_5 => exact fun _ _ _ h => h
          case e20_5 => (refine Or.inl ⟨by rfl, ?_⟩; intro w h; (try dsimp only at h); go_simp; all_goals with_reducible rfl)
          try simp only [Act.put, tI, tP, tQ]
          refine wpAnyH_take (i := 6) (oi := ?a20_6) (v := ?b20_6) ?c20_6 (by kernel_rfl) (by kernel_rfl) (by kernel_rfl) ?d20_6 ?e20_6 (by assumption) ?f20_6
          case c20_6 => simp only [tA, tS, tZ]; rfl
          case d20_6 => exact fun _ _ _ h => h
          case e20_6 => (refine Or.inl ⟨by rfl, ?_⟩; intro w h; (try dsimp only at h); go_simp; all_goals with_reducible rfl)
          try simp only [Act.put, tI, tP, tQ]
          refine wpAnyH_take (i := 7) (oi := ?a20_7) (v := ?b20_7) ?c20_7 (by kernel_rfl) (by kernel_rfl) (by kernel_rfl) ?d20_7 ?e20_7 (by assumption) ?f20_7
          case c20_7 => simp only [tA, tS, tZ]; rfl
          case d20_7 => exact fun _ _ _ h => h
          case e20_7 => (refine Or.inl ⟨by rfl, ?_⟩; intro w h; (try dsimp only at h); go_simp; all_goals with_reducible rfl)
          try simp only [Act.put, tI, tP, tQ]
          refine wpAnyH_take (i := 8) (oi := ?a20_8) (v := ?b20_8) ?c20_8 (by kernel_rfl) (by kernel_rfl) (by kernel_rfl) ?d20_8 ?e20_8 (by assumption) ?f20_8
          case c20_8 => simp only [tA, tS, tZ]; rfl
          case d20_8 => exact fun _ _ _ h => h
          case e20_8 => (refine Or.inl ⟨by rfl, ?_⟩; intro w h; (try dsimp only at h); go_simp; all_goals with_reducible rfl)
          try simp only [Act.put, tI, tP, tQ]
          refine wpAnyH_take (i := 9) (oi := ?a20_9) (v := ?b20_9) ?c20_9 (by kernel_rfl) (by kernel_rfl) (by kernel_rfl) ?d20_9 ?e20_9 (by assumption) ?f20_9
          case c20_9 => simp only [tA, tS, tZ]; rfl
          case d20_9 => exact fun _ _ _ h => h
          case e20_9 => (refine Or.inl ⟨by rfl, ?_⟩; intro w h; (try dsimp only at h); go_simp; all_goals with_reducible rfl)
          try simp only [Act.put, tI, tP, tQ]
          refine wpAnyH_ready (rs := [10]) (by kernel_rfl) (by simp) ?_
          refine AllReadyH.cons (o := ?or21_10) ?hor21_10 (fun K hK => ?kr21_10) AllReadyH.nil
          case hor21_10 => simp only [List.getElem?_toArray, List.getElem?_cons_succ, List.getElem?_cons_zero]; rfl
          go_simp
          have cc := cmAtMost_any wD ys rb1
          rw [BL.out] at cc
          refine cc.mono ?_
          rintro e2 wE ⟨rfl, hb⟩
          clear cc
          have R3 := R3.later hb
          have ys := ys.below hb
          have rb1 := rb1.below hb
          clear hb
          go_wp2_with fail
          refine hK.out _ _ ?_ (fun hHeld => ?_)
          · exact ⟨R3.cell 8 _ rfl, R3.cell 9 _ rfl⟩
          clear hK K
          try simp only [Act.put, List.setIfInBounds_toArray, List.set_cons_zero, List.set_cons_succ]
          refine wpAnyH_take (i := 11) (oi := ?a22_11) (v := ?b22_11) ?c22_11 (by kernel_rfl) (by kernel_rfl) (by kernel_rfl) ?d22_11 ?e22_11 (by assumption) ?f22_11
          case c22_11 => simp only [tA, tS, tZ]; rfl
          case d22_11 => exact fun _ _ _ h => h
          case e22_11 => (refine Or.inl ⟨by rfl, ?_⟩; intro w h; (try dsimp only at h); go_simp; all_goals with_reducible rfl)
          try simp only [Act.put, tI, tP, tQ]
          refine wpAnyH_done (by kernel_rfl) ?_ _
          clear hHeld
          go_wp2_with fail
          go_ret
          refine .inr ⟨_, _, _, _, _, _, e.out, rfl, R3, ?_, ?_⟩
          · rw [(show (stepC q (-2 : Int)).lev = limbs (nextC q L (-2 : Int)) by show limbs (nextC q (val q.lev) (-2 : Int)) = _; rw [vld.out.lev, val_limbs])]; exact ys
          · rw [(show (stepC q (-2 : Int)).best = limbs B by show limbs (max (val q.best) (nextC q (val q.lev) (-2 : Int))) = _; rw [vld.out.lev, vld.out.best, val_limbs, val_limbs, Nat.max_eq_left HB.out])]; exact rb1
        · have BL := Lib.hid (show leC (limbs (nextC q L (-2 : Int))) (limbs B) = false by rw [leC_ok nextC_lt vld.out.pw.2]; exact decide_eq_false hB)
          have HB := Lib.hid hB
          clear hB
          have hb := (Below.refl wC.heap.size wC).drew
          have R3 := R3.later hb
          have ys := ys.below hb
          have rb1 := rb1.below hb
          clear hb
          refine wp_region_held_drew (S := (fun w' => w'.cell? ⟨k, 8, none⟩ = some (.slice as' ns' cs') ∧ w'.cell? ⟨k, 9, none⟩ = some (.slice b m d))) (by kernel_rfl) ?_ (fun hHeld => ?_)
          · exact ⟨R3.cell 8 _ rfl, R3.cell 9 _ rfl⟩
          generalize wC.drew = wD at *
          refine wpAnyH_take (i := 0) (oi := ?a23_0) (v := ?b23_0) ?c23_0 (by kernel_rfl) (by kernel_rfl) (by kernel_rfl) ?d23_0 ?e23_0 (by assumption) ?f23_0
          case c23_0 => simp only [tA, tS, tZ]; rfl
          case d23_0 => exact fun _ _ _ h => h
          case e23_0 => (refine Or.inl ⟨by rfl, ?_⟩; intro w h; (try dsimp only at h); go_simp; all_goals with_reducible rfl)
          try simp only [Act.put, tI, tP, tQ]
          refine wpAnyH_take (i := 1) (oi := ?a23_1) (v := ?b23_1) ?c23_1 (by kernel_rfl) (by kernel_rfl) (by kernel_rfl) ?d23_1 ?e23_1 (by assumption) ?f23_1
          case c23_1 => simp only [tA, tS, tZ]; rfl
          case d23_1 => exact fun _ _ _ h => h
          case e23_1 => (refine Or.inl ⟨by rfl, ?_⟩; intro w h; (try dsimp only at h); go_simp; all_goals with_reducible rfl)
          try simp only [Act.put, tI, tP, tQ]
          refine wpAnyH_take (i := 2) (oi := ?a23_2) (v := ?b23_2) ?c23_2 (by kernel_rfl) (by kernel_rfl) (by kernel_rfl) ?d23_2 ?e23_2 (by assumption) ?f23_2
          case c23_2 => simp only [tA, tS, tZ]; rfl
          case d23_2 => exact fun _ _ _ h => h
          case e23_2 => (refine Or.inl ⟨by rfl, ?_⟩; intro w h; (try dsimp only at h); go_simp; all_goals with_reducible rfl)
          try simp only [Act.put, tI, tP, tQ]
          refine wpAnyH_take (i := 3) (oi := ?a23_3) (v := ?b23_3) ?c23_3 (by kernel_rfl) (by kernel_rfl) (by kernel_rfl) ?d23_3 ?e23_3 (by assumption) ?f23_3
          case c23_3 => simp only [tA, tS, tZ]; rfl
          case d23_3 => exact fun _ _ _ h => h
          case e23_3 => (refine Or.inl ⟨by rfl, ?_⟩; intro w h; (try dsimp only at h); go_simp; all_goals with_reducible rfl)
          try simp only [Act.put, tI, tP, tQ]
          refine wpAnyH_take (i := 4) (oi := ?a23_4) (v := ?b23_4) ?c23_4 (by kernel_rfl) (by kernel_rfl) (by kernel_rfl) ?d23_4 ?e23_4 (by assumption) ?f23_4
          case c23_4 => simp only [tA, tS, tZ]; rfl
          case d23_4 => exact fun _ _ _ h => h
          case e23_4 => (refine Or.inl ⟨by rfl, ?_⟩; intro w h; (try dsimp only at h); go_simp; all_goals with_reducible rfl)
          try simp only [Act.put, tI, tP, tQ]
          refine wpAnyH_take (i := 5) (oi := ?a23_5) (v := ?b23_5) ?c23_5 (by kernel_rfl) (by kernel_rfl) (by kernel_rfl) ?d23_5 ?e23_5 (by assumption) ?f23_5
          case c23_5 => simp only [tA, tS, tZ]; rfl
          case d23_5 => exact fun _ _ _ h => h
          case e23_5 => (refine Or.inl ⟨by rfl, ?_⟩; intro w h; (try dsimp only at h); go_simp; all_goals with_reducible rfl)
          try simp only [Act.put, tI, tP, tQ]
          refine wpAnyH_take (i := 6) (oi := ?a23_6) (v := ?b23_6) ?c23_6 (by kernel_rfl) (by kernel_rfl) (by kernel_rfl) ?d23_6 ?e23_6 (by assumption) ?f23_6
          case c23_6 => simp only [tA, tS, tZ]; rfl
          case d23_6 => exact fun _ _ _ h => h
          case e23_6 => (refine Or.inl ⟨by rfl, ?_⟩; intro w h; (try dsimp only at h); go_simp; all_goals with_reducible rfl)
          try simp only [Act.put, tI, tP, tQ]
          refine wpAnyH_take (i := 7) (oi := ?a23_7) (v := ?b23_7) ?c23_7 (by kernel_rfl) (by kernel_rfl) (by kernel_rfl) ?d23_7 ?e23_7 (by assumption) ?f23_7
          case c23_7 => simp only [tA, tS, tZ]; rfl
          case d23_7 => exact fun _ _ _ h => h
          case e23_7 => (refine Or.inl ⟨by rfl, ?_⟩; intro w h; (try dsimp only at h); go_simp; all_goals with_reducible rfl)
          try simp only [Act.put, tI, tP, tQ]
          refine wpAnyH_take (i := 8) (oi := ?a23_8) (v := ?b23_8) ?c23_8 (by kernel_rfl) (by kernel_rfl) (by kernel_rfl) ?d23_8 ?e23_8 (by assumption) ?f23_8
          case c23_8 => simp only [tA, tS, tZ]; rfl
          case d23_8 => exact fun _ _ _ h => h
          case e23_8 => (refine Or.inl ⟨by rfl, ?_⟩; intro w h; (try dsimp only at h); go_simp; all_goals with_reducible rfl)
          try simp only [Act.put, tI, tP, tQ]
          refine wpAnyH_take (i := 9) (oi := ?a23_9) (v := ?b23_9) ?c23_9 (by kernel_rfl) (by kernel_rfl) (by kernel_rfl) ?d23_9 ?e23_9 (by assumption) ?f23_9
          case c23_9 => simp only [tA, tS, tZ]; rfl
          case d23_9 => exact fun _ _ _ h => h
          case e23_9 => (refine Or.inl ⟨by rfl, ?_⟩; intro w h; (try dsimp only at h); go_simp; all_goals with_reducible rfl)
          try simp only [Act.put, tI, tP, tQ]
          refine wpAnyH_ready (rs := [10]) (by kernel_rfl) (by simp) ?_
          refine AllReadyH.cons (o := ?or24_10) ?hor24_10 (fun K hK => ?kr24_10) AllReadyH.nil
          case hor24_10 => simp only [List.getElem?_toArray, List.getElem?_cons_succ, List.getElem?_cons_zero]; rfl
          go_simp
          have cc := cmAtMost_any wD ys rb1
          rw [BL.out] at cc
          refine cc.mono ?_
          rintro e2 wE ⟨rfl, hb⟩
          clear cc
          have R3 := R3.later hb
          have ys := ys.below hb
          have rb1 := rb1.below hb
          clear hb
          go_wp2_with fail
          refine hK.out _ _ ?_ (fun hHeld => ?_)
          · exact ⟨R3.cell 8 _ rfl, R3.cell 9 _ rfl⟩
          clear hK K
          try simp only [Act.put, List.setIfInBounds_toArray, List.set_cons_zero, List.set_cons_succ]
          refine wpAnyH_take (i := 11) (oi := ?a25_11) (v := ?b25_11) ?c25_11 (by kernel_rfl) (by kernel_rfl) (by kernel_rfl) ?d25_11 ?e25_11 (by assumption) ?f25_11
          case c25_11 => simp only [tA, tS, tZ]; rfl
          case d25_11 => exact fun _ _ _ h => h
          case e25_11 => (refine Or.inl ⟨by rfl, ?_⟩; intro w h; (try dsimp only at h); go_simp; all_goals with_reducible rfl)
          try simp only [Act.put, tI, tP, tQ]
          refine wpAnyH_done (by kernel_rfl) ?_ _
          clear hHeld
          have k8 : wE.cell? ⟨k, 8, none⟩ = some (.slice as' ns' cs') := R3.cell 8 _ rfl
          go_wp2_with fail
          refine (Clone_any wE ys (by have h1 := ys.len; have h2 := limbs_len_le (k := 96) (show nextC q L (-2 : Int) < pw 96 from Nat.lt_of_le_of_lt (Nat.min_le_right _ _) most_pw); omega)).mono ?_
          rintro e2 wF ⟨ak, nk, ck, rfl, yk, hb⟩
          have R3 := R3.later hb
          have ys := ys.below hb
          have rb1 := rb1.below hb
          clear hb k8
          have fr9 := R3.free 9
          have k9 := R3.cell 9 _ rfl
          have R4 : PRow 66 wb (wF.setCell ⟨k, 9, none⟩ (.slice ak nk ck)) k (cmC (bumpC q (-2 : Int)) as' ns' cs' ak nk ck) := R3.set 9 (.slice ak nk ck)
          have yk := rd_setcell (i := 9) yk R3.row (cm_noint _ _ _ _ _ _ _) (.slice ak nk ck)
          have yl := rd_setcell (i := 9) ys R3.row (cm_noint _ _ _ _ _ _ _) (.slice ak nk ck)
          go_wp2_with fail
          go_ret
          refine .inr ⟨_, _, _, _, _, _, e.out, rfl, R4, ?_, ?_⟩
          · rw [(show (stepC q (-2 : Int)).lev = limbs (nextC q L (-2 : Int)) by show limbs (nextC q (val q.lev) (-2 : Int)) = _; rw [vld.out.lev, val_limbs])]; exact yl
          · rw [(show (stepC q (-2 : Int)).best = limbs (nextC q L (-2 : Int)) by show limbs (max (val q.best) (nextC q (val q.lev) (-2 : Int))) = _; rw [vld.out.lev, vld.out.best, val_limbs, val_limbs, Nat.max_eq_right (Nat.le_of_lt (Nat.lt_of_not_le HB.out))])]; exact yk

end Go.Proofs.Ytmkcdlhhbnakiaa
