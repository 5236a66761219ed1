/- Observing the overstatement 0. -/
import Derived.Test.YtmkcdlhhbnakiaaCmpV
namespace Go.Proofs.Ytmkcdlhhbnakiaa
open Go.RowKit Go.Suf
set_option linter.unusedVariables false
set_option linter.unusedSimpArgs false

set_option maxRecDepth 100000 in
set_option maxHeartbeats 8000000 in
theorem see2_any (wb w : World) {q : CV} {a b : Option Addr} {n m c d k L B : Nat} (R : PRow 66 wb w k (cmC q a n c b m d)) (ra : Rd .u32 w a n c (limbs L)) (rb : Rd .u32 w b m d (limbs B)) (vld' : VldC q L B) :
    Calls Try.prog 42 #[.pointer (some ⟨k, 0, none⟩), .int .i64 (0)] w (RetSee wb k q (0)) := by
  have vld := Lib.hid vld'
  clear vld'
  have k0 := R.cell 0 _ rfl
  have k1 := R.cell 1 _ rfl
  have k2 := R.cell 2 _ rfl
  have k3 := R.cell 3 _ rfl
  have k4 := R.cell 4 _ rfl
  have k5 := R.cell 5 _ rfl
  have k6 := R.cell 6 _ rfl
  have k7 := R.cell 7 _ rfl
  have k8 := R.cell 8 _ rfl
  have k9 := R.cell 9 _ rfl
  have fr := R.free 5
  have HF := Lib.hid (show seenAtC q (0 : Int) = q.s2 from rfl)
  have sv := vld.out.s2
  unfold inS at sv
  by_cases full : q.s2 = 1000000
  · have e := Lib.hid (show obs1C q (0 : Int) = none from obs1C_out (.inr (.inr (by rw [HF.out]; omega))))
    have d2 : (q.s2 == 1000000) = true := beq_iff_eq.2 full
    clear full sv
    go_enter Try.func42, Try.ntmps42
    go_wp2_with fail
    have cc := within_any w (0 : Int) (-2) 2
    rw [decide_eq_true (show (-2 : Int) ≤ (0 : Int) ∧ (0 : Int) ≤ 2 by decide)] at cc
    refine cc.mono ?_
    rintro e1 w9 ⟨rfl, hw⟩
    have hw := hw.symm
    subst hw
    clear cc
    go_wp2_with fail
    go_ret
    exact .inl ⟨e.out, rfl, R.below⟩
  have d2 : (q.s2 == 1000000) = false := beq_eq_false_iff_ne.2 full
  have e := Lib.hid (show obs1C q (0 : Int) = some (stepC q (0 : Int)) from obs1C_in (by rw [HF.out]; omega))
  have sv1 : q.s2 < 1000000 := by omega
  have sv0 : 0 ≤ q.s2 := by omega
  have wi : IntKind.i64.wrap (q.s2 + 1) = q.s2 + 1 := wrap_in (by omega) (by omega)
  clear full sv
  go_enter Try.func42, Try.ntmps42
  go_wp2_with fail
  have cc := within_any w (0 : Int) (-2) 2
  rw [decide_eq_true (show (-2 : Int) ≤ (0 : Int) ∧ (0 : Int) ≤ 2 by decide)] at cc
  refine cc.mono ?_
  rintro e1 w9 ⟨rfl, hw⟩
  have hw := hw.symm
  subst hw
  clear cc
  go_upto_region 4 with fail
  refine wp_region_any (by kernel_rfl) ?_
  change wpAny _ _ _ _ _ _ _ (World.drew _)
  refine wpAny_take (i := 0) (oi := ?a57_0) (v := ?b57_0) ?c57_0 (by kernel_rfl) (by kernel_rfl) (by kernel_rfl) ?d57_0 ?e57_0 ?f57_0
  case c57_0 => simp only [tA, tS, tZ]; rfl
  case d57_0 => exact fun _ _ _ h => h
  case e57_0 => (refine Or.inl ⟨by rfl, ?_⟩; intro w; go_simp; all_goals with_reducible rfl)
  try simp only [Act.put, tI, tP, tQ]
  refine wpAny_take (i := 1) (oi := ?a57_1) (v := ?b57_1) ?c57_1 (by kernel_rfl) (by kernel_rfl) (by kernel_rfl) ?d57_1 ?e57_1 ?f57_1
  case c57_1 => simp only [tA, tS, tZ]; rfl
  case d57_1 => exact fun _ _ _ h => h
  case e57_1 => (refine Or.inl ⟨by rfl, ?_⟩; intro w; go_simp; all_goals with_reducible rfl)
  try simp only [Act.put, tI, tP, tQ]
  refine wpAny_take (i := 2) (oi := ?a57_2) (v := ?b57_2) ?c57_2 (by kernel_rfl) (by kernel_rfl) (by kernel_rfl) ?d57_2 ?e57_2 ?f57_2
  case c57_2 => simp only [tA, tS, tZ]; rfl
  case d57_2 => exact fun _ _ _ h => h
  case e57_2 => (refine Or.inl ⟨by rfl, ?_⟩; intro w; go_simp; all_goals with_reducible rfl)
  try simp only [Act.put, tI, tP, tQ]
  refine wpAny_take (i := 3) (oi := ?a57_3) (v := ?b57_3) ?c57_3 (by kernel_rfl) (by kernel_rfl) (by kernel_rfl) ?d57_3 ?e57_3 ?f57_3
  case c57_3 => simp only [tA, tS, tZ]; rfl
  case d57_3 => exact fun _ _ _ h => h
  case e57_3 => (refine Or.inl ⟨by rfl, ?_⟩; intro w; go_simp; all_goals with_reducible rfl)
  try simp only [Act.put, tI, tP, tQ]
  refine wpAny_take (i := 4) (oi := ?a57_4) (v := ?b57_4) ?c57_4 (by kernel_rfl) (by kernel_rfl) (by kernel_rfl) ?d57_4 ?e57_4 ?f57_4
  case c57_4 => simp only [tA, tS, tZ]; rfl
  case d57_4 => exact fun _ _ _ h => h
  case e57_4 => (refine Or.inl ⟨by rfl, ?_⟩; intro w; go_simp; all_goals with_reducible rfl)
  try simp only [Act.put, tI, tP, tQ]
  refine wpAny_take (i := 5) (oi := ?a57_5) (v := ?b57_5) ?c57_5 (by kernel_rfl) (by kernel_rfl) (by kernel_rfl) ?d57_5 ?e57_5 ?f57_5
  case c57_5 => simp only [tA, tS, tZ]; rfl
  case d57_5 => exact fun _ _ _ h => h
  case e57_5 => (refine Or.inl ⟨by rfl, ?_⟩; intro w; go_simp; all_goals with_reducible rfl)
  try simp only [Act.put, tI, tP, tQ]
  refine wpAny_take (i := 8) (oi := ?a57_8) (v := ?b57_8) ?c57_8 (by kernel_rfl) (by kernel_rfl) (by kernel_rfl) ?d57_8 ?e57_8 ?f57_8
  case c57_8 => simp only [tA, tS, tZ]; rfl
  case d57_8 => exact fun _ _ _ h => h
  case e57_8 => (refine Or.inl ⟨by rfl, ?_⟩; intro w; go_simp; all_goals with_reducible rfl)
  try simp only [Act.put, tI, tP, tQ]
  refine wpAny_take (i := 9) (oi := ?a57_9) (v := ?b57_9) ?c57_9 (by kernel_rfl) (by kernel_rfl) (by kernel_rfl) ?d57_9 ?e57_9 ?f57_9
  case c57_9 => simp only [tA, tS, tZ]; rfl
  case d57_9 => exact fun _ _ _ h => h
  case e57_9 => (refine Or.inl ⟨by rfl, ?_⟩; intro w; go_simp; all_goals with_reducible rfl)
  try simp only [Act.put, tI, tP, tQ]
  refine wpAny_take (i := 10) (oi := ?a57_10) (v := ?b57_10) ?c57_10 (by kernel_rfl) (by kernel_rfl) (by kernel_rfl) ?d57_10 ?e57_10 ?f57_10
  case c57_10 => simp only [tA, tS, tZ]; rfl
  case d57_10 => exact fun _ _ _ h => h
  case e57_10 => (refine Or.inl ⟨by rfl, ?_⟩; intro w; go_simp; all_goals with_reducible rfl)
  try simp only [Act.put, tI, tP, tQ]
  refine wpAny_ready (rs := [6]) (by kernel_rfl) (by simp) ?_
  refine (AllReady.cons (o := ?ob84_6) ?hob84_6 (fun K hK => ?kb84_6) AllReady.nil)
  case hob84_6 => simp only [List.getElem?_toArray, List.getElem?_cons_succ, List.getElem?_cons_zero]; rfl
  case kb84_6 =>
    go_simp
    refine hK _ _ ?_
    clear hK K
    try simp only [Act.put, List.setIfInBounds_toArray, List.set_cons_zero, List.set_cons_succ]
    refine wpAny_take (i := 7) (oi := ?a83_7) (v := ?b83_7) ?c83_7 (by kernel_rfl) (by kernel_rfl) (by kernel_rfl) ?d83_7 ?e83_7 ?f83_7
    case c83_7 => simp only [tA, tS, tZ]; rfl
    case d83_7 => exact fun _ _ _ h => h
    case e83_7 => (refine Or.inl ⟨by rfl, ?_⟩; intro w; go_simp; all_goals with_reducible rfl)
    try simp only [Act.put, tI, tP, tQ]
    refine wpAny_take (i := 11) (oi := ?a83_11) (v := ?b83_11) ?c83_11 (by kernel_rfl) (by kernel_rfl) (by kernel_rfl) ?d83_11 ?e83_11 ?f83_11
    case c83_11 => simp only [tA, tS, tZ]; rfl
    case d83_11 => exact fun _ _ _ h => h
    case e83_11 => (refine Or.inl ⟨by rfl, ?_⟩; intro w; go_simp; all_goals with_reducible rfl)
    try simp only [Act.put, tI, tP, tQ]
    refine wpAny_ready (rs := [12]) (by kernel_rfl) (by simp) ?_
    refine (AllReady.cons (o := ?ob82_12) ?hob82_12 (fun K hK => ?kb82_12) AllReady.nil)
    case hob82_12 => simp only [List.getElem?_toArray, List.getElem?_cons_succ, List.getElem?_cons_zero]; rfl
    case kb82_12 =>
      go_simp
      refine hK _ _ ?_
      clear hK K
      try simp only [Act.put, List.setIfInBounds_toArray, List.set_cons_zero, List.set_cons_succ]
      refine wpAny_done (by kernel_rfl) ?_ _
      have R0 : PRow 66 wb (w.setCell ⟨k, 5, none⟩ (.int .i64 (q.s2 + 1))) k (cmC (bumpC q (0 : Int)) a n c b m d) := R.set 5 (.int .i64 (q.s2 + 1))
      have D0 := (Below.refl (w.setCell ⟨k, 5, none⟩ (.int .i64 (q.s2 + 1))).heap.size (w.setCell ⟨k, 5, none⟩ (.int .i64 (q.s2 + 1)))).drew
      have ra1 := (rd_setcell (i := 5) ra R.row (cm_noint _ _ _ _ _ _ _) (.int .i64 (q.s2 + 1))).below D0
      have rb1 := (rd_setcell (i := 5) rb R.row (cm_noint _ _ _ _ _ _ _) (.int .i64 (q.s2 + 1))).below D0
      have R1 := R0.later D0
      clear k0 k1 k2 k3 k4 k5 k6 k7 k8 k9 fr D0 R0 sv0 sv1 d2 wi
      generalize (w.setCell ⟨k, 5, none⟩ (.int .i64 (q.s2 + 1))).drew = w1 at *
      have k0 : w1.cell? ⟨k, 0, none⟩ = some (.int .i64 q.bet) := R1.cell 0 _ rfl
      have k1 : w1.cell? ⟨k, 1, none⟩ = some (.int .i64 q.ballots) := R1.cell 1 _ rfl
      have k2 : w1.cell? ⟨k, 2, none⟩ = some (.int .i64 q.margin) := R1.cell 2 _ rfl
      have k8 : w1.cell? ⟨k, 8, none⟩ = some (.slice a n c) := R1.cell 8 _ rfl
      have n1' : 1 ≤ q.ballots := vld.out.may.2.1.1
      have n2' : q.ballots ≤ 1000000 := vld.out.may.2.1.2
      have LP := Lib.hid vld.out.pw.1
      have LF := Lib.hid (show L * factC q (0 : Int) < pw 96 from Nat.lt_of_lt_of_le (mul_lt_pw (show L < pw 5 from Nat.lt_of_le_of_lt (Nat.le_trans vld.out.le vld.out.hi) (by decide)) (show factC q (0 : Int) < pw 2 from (fact_bd vld.out.may (by decide) (by decide)).1)) (pw_le (by decide)))
      go_upto_region 6 with fail
      have hb := (Below.refl w1.heap.size w1).drew
      have R1 := R1.later hb
      have ra1 := ra1.below hb
      have rb1 := rb1.below hb
      clear hb k0 k1 k2 k8
      refine wp_region_held_drew (S := (fun w' => w'.cell? ⟨k, 0, none⟩ = some (.int .i64 q.bet) ∧ w'.cell? ⟨k, 1, none⟩ = some (.int .i64 q.ballots) ∧ w'.cell? ⟨k, 2, none⟩ = some (.int .i64 q.margin) ∧ w'.cell? ⟨k, 8, none⟩ = some (.slice a n c))) (by kernel_rfl) ?_ (fun hHeld => ?_)
      · exact ⟨R1.cell 0 _ rfl, R1.cell 1 _ rfl, R1.cell 2 _ rfl, R1.cell 8 _ rfl⟩
      generalize w1.drew = w2 at *
      refine wpAnyH_take (i := 0) (oi := ?a58_0) (v := ?b58_0) ?c58_0 (by kernel_rfl) (by kernel_rfl) (by kernel_rfl) ?d58_0 ?e58_0 (by assumption) ?f58_0
      case c58_0 => simp only [tA, tS, tZ]; rfl
      case d58_0 => exact fun _ _ _ h => h
      case e58_0 => (refine Or.inl ⟨by rfl, ?_⟩; intro w h; (try dsimp only at h); go_simp; all_goals with_reducible rfl)
      try simp only [Act.put, tI, tP, tQ]
      refine wpAnyH_take (i := 1) (oi := ?a58_1) (v := ?b58_1) ?c58_1 (by kernel_rfl) (by kernel_rfl) (by kernel_rfl) ?d58_1 ?e58_1 (by assumption) ?f58_1
      case c58_1 => simp only [tA, tS, tZ]; rfl
      case d58_1 => exact fun _ _ _ h => h
      case e58_1 => (refine Or.inl ⟨by rfl, ?_⟩; intro w h; (try dsimp only at h); go_simp; all_goals with_reducible rfl)
      try simp only [Act.put, tI, tP, tQ]
      refine wpAnyH_take (i := 2) (oi := ?a58_2) (v := ?b58_2) ?c58_2 (by kernel_rfl) (by kernel_rfl) (by kernel_rfl) ?d58_2 ?e58_2 (by assumption) ?f58_2
      case c58_2 => simp only [tA, tS, tZ]; rfl
      case d58_2 => exact fun _ _ _ h => h
      case e58_2 => (refine Or.inl ⟨by rfl, ?_⟩; intro w h; (try dsimp only at h); go_simp; all_goals with_reducible rfl)
      try simp only [Act.put, tI, tP, tQ]
      refine wpAnyH_take (i := 3) (oi := ?a58_3) (v := ?b58_3) ?c58_3 (by kernel_rfl) (by kernel_rfl) (by kernel_rfl) ?d58_3 ?e58_3 (by assumption) ?f58_3
      case c58_3 => simp only [tA, tS, tZ]; rfl
      case d58_3 => exact fun _ _ _ h => h
      case e58_3 => (refine Or.inl ⟨by rfl, ?_⟩; intro w h; (try dsimp only at h); go_simp; all_goals with_reducible rfl)
      try simp only [Act.put, tI, tP, tQ]
      refine wpAnyH_take (i := 4) (oi := ?a58_4) (v := ?b58_4) ?c58_4 (by kernel_rfl) (by kernel_rfl) (by kernel_rfl) ?d58_4 ?e58_4 (by assumption) ?f58_4
      case c58_4 => simp only [tA, tS, tZ]; rfl
      case d58_4 => exact fun _ _ _ h => h
      case e58_4 => (refine Or.inl ⟨by rfl, ?_⟩; intro w h; (try dsimp only at h); go_simp; all_goals with_reducible rfl)
      try simp only [Act.put, tI, tP, tQ]
      refine wpAnyH_take (i := 5) (oi := ?a58_5) (v := ?b58_5) ?c58_5 (by kernel_rfl) (by kernel_rfl) (by kernel_rfl) ?d58_5 ?e58_5 (by assumption) ?f58_5
      case c58_5 => simp only [tA, tS, tZ]; rfl
      case d58_5 => exact fun _ _ _ h => h
      case e58_5 => (refine Or.inl ⟨by rfl, ?_⟩; intro w h; (try dsimp only at h); go_simp; all_goals with_reducible rfl)
      try simp only [Act.put, tI, tP, tQ]
      refine wpAnyH_take (i := 6) (oi := ?a58_6) (v := ?b58_6) ?c58_6 (by kernel_rfl) (by kernel_rfl) (by kernel_rfl) ?d58_6 ?e58_6 (by assumption) ?f58_6
      case c58_6 => simp only [tA, tS, tZ]; rfl
      case d58_6 => exact fun _ _ _ h => h
      case e58_6 => (refine Or.inl ⟨by rfl, ?_⟩; intro w h; (try dsimp only at h); go_simp; all_goals with_reducible rfl)
      try simp only [Act.put, tI, tP, tQ]
      refine wpAnyH_take (i := 7) (oi := ?a58_7) (v := ?b58_7) ?c58_7 (by kernel_rfl) (by kernel_rfl) (by kernel_rfl) ?d58_7 ?e58_7 (by assumption) ?f58_7
      case c58_7 => simp only [tA, tS, tZ]; rfl
      case d58_7 => exact fun _ _ _ h => h
      case e58_7 => (refine Or.inl ⟨by rfl, ?_⟩; intro w h; (try dsimp only at h); go_simp; all_goals with_reducible rfl)
      try simp only [Act.put, tI, tP, tQ]
      refine wpAnyH_take (i := 8) (oi := ?a58_8) (v := ?b58_8) ?c58_8 (by kernel_rfl) (by kernel_rfl) (by kernel_rfl) ?d58_8 ?e58_8 (by assumption) ?f58_8
      case c58_8 => simp only [tA, tS, tZ]; rfl
      case d58_8 => exact fun _ _ _ h => h
      case e58_8 => (refine Or.inl ⟨by rfl, ?_⟩; intro w h; (try dsimp only at h); go_simp; all_goals with_reducible rfl)
      try simp only [Act.put, tI, tP, tQ]
      refine wpAnyH_take (i := 9) (oi := ?a58_9) (v := ?b58_9) ?c58_9 (by kernel_rfl) (by kernel_rfl) (by kernel_rfl) ?d58_9 ?e58_9 (by assumption) ?f58_9
      case c58_9 => simp only [tA, tS, tZ]; rfl
      case d58_9 => exact fun _ _ _ h => h
      case e58_9 => (refine Or.inl ⟨by rfl, ?_⟩; intro w h; (try dsimp only at h); go_simp; all_goals with_reducible rfl)
      try simp only [Act.put, tI, tP, tQ]
      refine wpAnyH_take (i := 10) (oi := ?a58_10) (v := ?b58_10) ?c58_10 (by kernel_rfl) (by kernel_rfl) (by kernel_rfl) ?d58_10 ?e58_10 (by assumption) ?f58_10
      case c58_10 => simp only [tA, tS, tZ]; rfl
      case d58_10 => exact fun _ _ _ h => h
      case e58_10 => (refine Or.inl ⟨by rfl, ?_⟩; intro w h; (try dsimp only at h); go_simp; all_goals with_reducible rfl)
      try simp only [Act.put, tI, tP, tQ]
      refine wpAnyH_take (i := 11) (oi := ?a58_11) (v := ?b58_11) ?c58_11 (by kernel_rfl) (by kernel_rfl) (by kernel_rfl) ?d58_11 ?e58_11 (by assumption) ?f58_11
      case c58_11 => simp only [tA, tS, tZ]; rfl
      case d58_11 => exact fun _ _ _ h => h
      case e58_11 => (refine Or.inl ⟨by rfl, ?_⟩; intro w h; (try dsimp only at h); go_simp; all_goals with_reducible rfl)
      try simp only [Act.put, tI, tP, tQ]
      refine wpAnyH_take (i := 12) (oi := ?a58_12) (v := ?b58_12) ?c58_12 (by kernel_rfl) (by kernel_rfl) (by kernel_rfl) ?d58_12 ?e58_12 (by assumption) ?f58_12
      case c58_12 => simp only [tA, tS, tZ]; rfl
      case d58_12 => exact fun _ _ _ h => h
      case e58_12 => (refine Or.inl ⟨by rfl, ?_⟩; intro w h; (try dsimp only at h); go_simp; all_goals with_reducible rfl)
      try simp only [Act.put, tI, tP, tQ]
      refine wpAnyH_take (i := 13) (oi := ?a58_13) (v := ?b58_13) ?c58_13 (by kernel_rfl) (by kernel_rfl) (by kernel_rfl) ?d58_13 ?e58_13 (by assumption) ?f58_13
      case c58_13 => simp only [tA, tS, tZ]; rfl
      case d58_13 => exact fun _ _ _ h => h
      case e58_13 => (refine Or.inl ⟨by rfl, ?_⟩; intro w h; (try dsimp only at h); go_simp; all_goals with_reducible rfl)
      try simp only [Act.put, tI, tP, tQ]
      refine wpAnyH_take (i := 14) (oi := ?a58_14) (v := ?b58_14) ?c58_14 (by kernel_rfl) (by kernel_rfl) (by kernel_rfl) ?d58_14 ?e58_14 (by assumption) ?f58_14
      case c58_14 => simp only [tA, tS, tZ]; rfl
      case d58_14 => exact fun _ _ _ h => h
      case e58_14 => (refine Or.inl ⟨by rfl, ?_⟩; intro w h; (try dsimp only at h); go_simp; all_goals with_reducible rfl)
      try simp only [Act.put, tI, tP, tQ]
      refine wpAnyH_take (i := 15) (oi := ?a58_15) (v := ?b58_15) ?c58_15 (by kernel_rfl) (by kernel_rfl) (by kernel_rfl) ?d58_15 ?e58_15 (by assumption) ?f58_15
      case c58_15 => simp only [tA, tS, tZ]; rfl
      case d58_15 => exact fun _ _ _ h => h
      case e58_15 => (refine Or.inl ⟨by rfl, ?_⟩; intro w h; (try dsimp only at h); go_simp; all_goals with_reducible rfl)
      try simp only [Act.put, tI, tP, tQ]
      refine wpAnyH_take (i := 16) (oi := ?a58_16) (v := ?b58_16) ?c58_16 (by kernel_rfl) (by kernel_rfl) (by kernel_rfl) ?d58_16 ?e58_16 (by assumption) ?f58_16
      case c58_16 => simp only [tA, tS, tZ]; rfl
      case d58_16 => exact fun _ _ _ h => h
      case e58_16 => (refine Or.inl ⟨by rfl, ?_⟩; intro w h; (try dsimp only at h); go_simp; all_goals with_reducible rfl)
      try simp only [Act.put, tI, tP, tQ]
      refine wpAnyH_take (i := 17) (oi := ?a58_17) (v := ?b58_17) ?c58_17 (by kernel_rfl) (by kernel_rfl) (by kernel_rfl) ?d58_17 ?e58_17 (by assumption) ?f58_17
      case c58_17 => simp only [tA, tS, tZ]; rfl
      case d58_17 => exact fun _ _ _ h => h
      case e58_17 => (refine Or.inl ⟨by rfl, ?_⟩; intro w h; (try dsimp only at h); go_simp; all_goals with_reducible rfl)
      try simp only [Act.put, tI, tP, tQ]
      refine wpAnyH_take (i := 18) (oi := ?a58_18) (v := ?b58_18) ?c58_18 (by kernel_rfl) (by kernel_rfl) (by kernel_rfl) ?d58_18 ?e58_18 (by assumption) ?f58_18
      case c58_18 => simp only [tA, tS, tZ]; rfl
      case d58_18 => exact fun _ _ _ h => h
      case e58_18 => (refine Or.inl ⟨by rfl, ?_⟩; intro w h; (try dsimp only at h); go_simp; all_goals with_reducible rfl)
      try simp only [Act.put, tI, tP, tQ]
      refine wpAnyH_take (i := 19) (oi := ?a58_19) (v := ?b58_19) ?c58_19 (by kernel_rfl) (by kernel_rfl) (by kernel_rfl) ?d58_19 ?e58_19 (by assumption) ?f58_19
      case c58_19 => simp only [tA, tS, tZ]; rfl
      case d58_19 => exact fun _ _ _ h => h
      case e58_19 => (refine Or.inl ⟨by rfl, ?_⟩; intro w h; (try dsimp only at h); go_simp; all_goals with_reducible rfl)
      try simp only [Act.put, tI, tP, tQ]
      refine wpAnyH_take (i := 20) (oi := ?a58_20) (v := ?b58_20) ?c58_20 (by kernel_rfl) (by kernel_rfl) (by kernel_rfl) ?d58_20 ?e58_20 (by assumption) ?f58_20
      case c58_20 => simp only [tA, tS, tZ]; rfl
      case d58_20 => exact fun _ _ _ h => h
      case e58_20 => (refine Or.inl ⟨by rfl, ?_⟩; intro w h; (try dsimp only at h); go_simp; all_goals with_reducible rfl)
      try simp only [Act.put, tI, tP, tQ]
      refine wpAnyH_take (i := 21) (oi := ?a58_21) (v := ?b58_21) ?c58_21 (by kernel_rfl) (by kernel_rfl) (by kernel_rfl) ?d58_21 ?e58_21 (by assumption) ?f58_21
      case c58_21 => simp only [tA, tS, tZ]; rfl
      case d58_21 => exact fun _ _ _ h => h
      case e58_21 => (refine Or.inl ⟨by rfl, ?_⟩; intro w h; (try dsimp only at h); go_simp; all_goals with_reducible rfl)
      try simp only [Act.put, tI, tP, tQ]
      refine wpAnyH_take (i := 22) (oi := ?a58_22) (v := ?b58_22) ?c58_22 (by kernel_rfl) (by kernel_rfl) (by kernel_rfl) ?d58_22 ?e58_22 (by assumption) ?f58_22
      case c58_22 => simp only [tA, tS, tZ]; rfl
      case d58_22 => exact fun _ _ _ h => h
      case e58_22 => (refine Or.inl ⟨by rfl, ?_⟩; intro w h; (try dsimp only at h); go_simp; all_goals with_reducible rfl)
      try simp only [Act.put, tI, tP, tQ]
      refine wpAnyH_take (i := 23) (oi := ?a58_23) (v := ?b58_23) ?c58_23 (by kernel_rfl) (by kernel_rfl) (by kernel_rfl) ?d58_23 ?e58_23 (by assumption) ?f58_23
      case c58_23 => simp only [tA, tS, tZ]; rfl
      case d58_23 => exact fun _ _ _ h => h
      case e58_23 => (refine Or.inl ⟨by rfl, ?_⟩; intro w h; (try dsimp only at h); go_simp; all_goals with_reducible rfl)
      try simp only [Act.put, tI, tP, tQ]
      refine wpAnyH_take (i := 24) (oi := ?a58_24) (v := ?b58_24) ?c58_24 (by kernel_rfl) (by kernel_rfl) (by kernel_rfl) ?d58_24 ?e58_24 (by assumption) ?f58_24
      case c58_24 => simp only [tA, tS, tZ]; rfl
      case d58_24 => exact fun _ _ _ h => h
      case e58_24 => (refine Or.inl ⟨by rfl, ?_⟩; intro w h; (try dsimp only at h); go_simp; all_goals with_reducible rfl)
      try simp only [Act.put, tI, tP, tQ]
      refine wpAnyH_take (i := 25) (oi := ?a58_25) (v := ?b58_25) ?c58_25 (by kernel_rfl) (by kernel_rfl) (by kernel_rfl) ?d58_25 ?e58_25 (by assumption) ?f58_25
      case c58_25 => simp only [tA, tS, tZ]; rfl
      case d58_25 => exact fun _ _ _ h => h
      case e58_25 => (refine Or.inl ⟨by rfl, ?_⟩; intro w h; (try dsimp only at h); go_simp; all_goals with_reducible rfl)
      try simp only [Act.put, tI, tP, tQ]
      refine wpAnyH_take (i := 26) (oi := ?a58_26) (v := ?b58_26) ?c58_26 (by kernel_rfl) (by kernel_rfl) (by kernel_rfl) ?d58_26 ?e58_26 (by assumption) ?f58_26
      case c58_26 => simp only [tA, tS, tZ]; rfl
      case d58_26 => exact fun _ _ _ h => h
      case e58_26 => (refine Or.inl ⟨by rfl, ?_⟩; intro w h; (try dsimp only at h); go_simp; all_goals with_reducible rfl)
      try simp only [Act.put, tI, tP, tQ]
      have SF := see_fact vld.out.may (x := (0 : Int)) (Y := 0) (by decide) (by decide) (by omega)
      rw [SF]
      clear SF
      refine wpAnyH_ready (rs := [27]) (by kernel_rfl) (by simp) ?_
      refine AllReadyH.cons (o := ?or59_27) ?hor59_27 (fun K hK => ?kr59_27) AllReadyH.nil
      case hor59_27 => simp only [List.getElem?_toArray, List.getElem?_cons_succ, List.getElem?_cons_zero]; rfl
      go_simp
      refine (Of_any w2 (factC q (0 : Int)) (fact_bd vld.out.may (by decide) (by decide)).1).mono ?_
      rintro e2 w3 ⟨af, nf, cf, rfl, yf, hb⟩
      have R1 := R1.later hb
      have ra1 := ra1.below hb
      have rb1 := rb1.below hb
      clear hb
      go_wp2_with fail
      refine hK.out _ _ ?_ (fun hHeld => ?_)
      · exact ⟨R1.cell 0 _ rfl, R1.cell 1 _ rfl, R1.cell 2 _ rfl, R1.cell 8 _ rfl⟩
      clear hK K
      try simp only [Act.put, List.setIfInBounds_toArray, List.set_cons_zero, List.set_cons_succ]
      refine wpAnyH_ready (rs := [28]) (by kernel_rfl) (by simp) ?_
      refine AllReadyH.cons (o := ?or60_28) ?hor60_28 (fun K hK => ?kr60_28) AllReadyH.nil
      case hor60_28 => simp only [List.getElem?_toArray, List.getElem?_cons_succ, List.getElem?_cons_zero]; rfl
      go_simp
      have cc := Mul_any w3 ra1 yf
      rw [mul_ok LP.out (Nat.lt_of_lt_of_le (show factC q (0 : Int) < pw 2 from (fact_bd vld.out.may (by decide) (by decide)).1) (pw_le (by decide))) LF.out] at cc
      refine cc.mono ?_
      rintro e2 w4 ⟨ax, nx, cx, rfl, yx, hb⟩
      clear cc
      have R1 := R1.later hb
      have ra1 := ra1.below hb
      have rb1 := rb1.below hb
      clear hb yf
      go_wp2_with fail
      refine hK.out _ _ ?_ (fun hHeld => ?_)
      · exact ⟨R1.cell 0 _ rfl, R1.cell 1 _ rfl, R1.cell 2 _ rfl, R1.cell 8 _ rfl⟩
      clear hK K
      try simp only [Act.put, List.setIfInBounds_toArray, List.set_cons_zero, List.set_cons_succ]
      refine wpAnyH_take (i := 29) (oi := ?a61_29) (v := ?b61_29) ?c61_29 (by kernel_rfl) (by kernel_rfl) (by kernel_rfl) ?d61_29 ?e61_29 (by assumption) ?f61_29
      case c61_29 => simp only [tA, tS, tZ]; rfl
      case d61_29 => exact fun _ _ _ h => h
      case e61_29 => (refine Or.inl ⟨by rfl, ?_⟩; intro w h; (try dsimp only at h); go_simp; all_goals with_reducible rfl)
      try simp only [Act.put, tI, tP, tQ]
      refine wpAnyH_take (i := 30) (oi := ?a61_30) (v := ?b61_30) ?c61_30 (by kernel_rfl) (by kernel_rfl) (by kernel_rfl) ?d61_30 ?e61_30 (by assumption) ?f61_30
      case c61_30 => simp only [tA, tS, tZ]; rfl
      case d61_30 => exact fun _ _ _ h => h
      case e61_30 => (refine Or.inl ⟨by rfl, ?_⟩; intro w h; (try dsimp only at h); go_simp; all_goals with_reducible rfl)
      try simp only [Act.put, tI, tP, tQ]
      refine wpAnyH_take (i := 31) (oi := ?a61_31) (v := ?b61_31) ?c61_31 (by kernel_rfl) (by kernel_rfl) (by kernel_rfl) ?d61_31 ?e61_31 (by assumption) ?f61_31
      case c61_31 => simp only [tA, tS, tZ]; rfl
      case d61_31 => exact fun _ _ _ h => h
      case e61_31 => (refine Or.inl ⟨by rfl, ?_⟩; intro w h; (try dsimp only at h); go_simp; all_goals with_reducible rfl)
      try simp only [Act.put, tI, tP, tQ]
      refine wpAnyH_take (i := 32) (oi := ?a61_32) (v := ?b61_32) ?c61_32 (by kernel_rfl) (by kernel_rfl) (by kernel_rfl) ?d61_32 ?e61_32 (by assumption) ?f61_32
      case c61_32 => simp only [tA, tS, tZ]; rfl
      case d61_32 => exact fun _ _ _ h => h
      case e61_32 => (refine Or.inl ⟨by rfl, ?_⟩; intro w h; (try dsimp only at h); go_simp; all_goals with_reducible rfl)
      try simp only [Act.put, tI, tP, tQ]
      refine wpAnyH_take (i := 33) (oi := ?a61_33) (v := ?b61_33) ?c61_33 (by kernel_rfl) (by kernel_rfl) (by kernel_rfl) ?d61_33 ?e61_33 (by assumption) ?f61_33
      case c61_33 => simp only [tA, tS, tZ]; rfl
      case d61_33 => exact fun _ _ _ h => h
      case e61_33 => (refine Or.inl ⟨by rfl, ?_⟩; intro w h; (try dsimp only at h); go_simp; all_goals with_reducible rfl)
      try simp only [Act.put, tI, tP, tQ]
      refine wpAnyH_done (by kernel_rfl) ?_ _
      clear hHeld
      have cW := see_whole vld.out.may
      go_wp2_with fail
      refine (Of_any w4 (wholeC q) (fact_bd vld.out.may (x := 0) (by decide) (by decide)).2).mono ?_
      rintro e2 w5 ⟨ay, ny, cy, rfl, yy, hb⟩
      have R1 := R1.later hb
      have ra1 := ra1.below hb
      have rb1 := rb1.below hb
      have yx := yx.below hb
      clear hb
      go_wp2_with fail
      have cc := Div_any w5 yx yy
      rw [div_ok LF.out (Nat.lt_of_lt_of_le (show wholeC q < pw 2 from (fact_bd vld.out.may (x := 0) (by decide) (by decide)).2) (pw_le (by decide))) (fact_whole vld.out.may).2] at cc
      refine cc.mono ?_
      rintro e2 w6 ⟨az, nz, cz, ar, nr, cr, rfl, yz, -, hb⟩
      clear cc
      have R1 := R1.later hb
      have ra1 := ra1.below hb
      have rb1 := rb1.below hb
      clear hb yx yy
      have fr8 := R1.free 8
      have k8 := R1.cell 8 _ rfl
      have R2 : PRow 66 wb (w6.setCell ⟨k, 8, none⟩ (.slice az nz cz)) k (cmC (bumpC q (0 : Int)) az nz cz b m d) := R1.set 8 (.slice az nz cz)
      have yz := rd_setcell (i := 8) yz R1.row (cm_noint _ _ _ _ _ _ _) (.slice az nz cz)
      have rb1 := rd_setcell (i := 8) rb1 R1.row (cm_noint _ _ _ _ _ _ _) (.slice az nz cz)
      clear ra1 R1
      go_upto_region 8 with fail
      clear fr8 k8 cW n1' n2'
      generalize w6.setCell ⟨k, 8, none⟩ (.slice az nz cz) = w7 at *
      by_cases hD : (L * factC q (0 : Int) / wholeC q) ≤ mostN
      · have NX := Lib.hid (show nextC q L (0 : Int) = (L * factC q (0 : Int) / wholeC q) by unfold nextC timesN; exact Nat.min_eq_left hD)
        have DL := Lib.hid (show leC (limbs (L * factC q (0 : Int) / wholeC q)) [0, 0, 0, 0, 1] = true by rw [← most_limbs, leC_ok (Nat.lt_of_le_of_lt hD most_pw) most_pw]; exact decide_eq_true hD)
        clear hD
        have hb := (Below.refl w7.heap.size w7).drew
        have R2 := R2.later hb
        have yz := yz.below hb
        have rb1 := rb1.below hb
        clear hb
        refine wp_region_held_drew (S := (fun w' => w'.cell? ⟨k, 8, none⟩ = some (.slice az nz cz) ∧ True)) (by kernel_rfl) ?_ (fun hHeld => ?_)
        · exact ⟨R2.cell 8 _ rfl, trivial⟩
        generalize w7.drew = w8 at *
        refine wpAnyH_take (i := 0) (oi := ?a62_0) (v := ?b62_0) ?c62_0 (by kernel_rfl) (by kernel_rfl) (by kernel_rfl) ?d62_0 ?e62_0 (by assumption) ?f62_0
        case c62_0 => simp only [tA, tS, tZ]; rfl
        case d62_0 => exact fun _ _ _ h => h
        case e62_0 => (refine Or.inl ⟨by rfl, ?_⟩; intro w h; (try dsimp only at h); go_simp; all_goals with_reducible rfl)
        try simp only [Act.put, tI, tP, tQ]
        refine wpAnyH_take (i := 1) (oi := ?a62_1) (v := ?b62_1) ?c62_1 (by kernel_rfl) (by kernel_rfl) (by kernel_rfl) ?d62_1 ?e62_1 (by assumption) ?f62_1
        case c62_1 => simp only [tA, tS, tZ]; rfl
        case d62_1 => exact fun _ _ _ h => h
        case e62_1 => (refine Or.inl ⟨by rfl, ?_⟩; intro w h; (try dsimp only at h); go_simp; all_goals with_reducible rfl)
        try simp only [Act.put, tI, tP, tQ]
        refine wpAnyH_take (i := 2) (oi := ?a62_2) (v := ?b62_2) ?c62_2 (by kernel_rfl) (by kernel_rfl) (by kernel_rfl) ?d62_2 ?e62_2 (by assumption) ?f62_2
        case c62_2 => simp only [tA, tS, tZ]; rfl
        case d62_2 => exact fun _ _ _ h => h
        case e62_2 => (refine Or.inl ⟨by rfl, ?_⟩; intro w h; (try dsimp only at h); go_simp; all_goals with_reducible rfl)
        try simp only [Act.put, tI, tP, tQ]
        refine wpAnyH_take (i := 3) (oi := ?a62_3) (v := ?b62_3) ?c62_3 (by kernel_rfl) (by kernel_rfl) (by kernel_rfl) ?d62_3 ?e62_3 (by assumption) ?f62_3
        case c62_3 => simp only [tA, tS, tZ]; rfl
        case d62_3 => exact fun _ _ _ h => h
        case e62_3 => (refine Or.inl ⟨by rfl, ?_⟩; intro w h; (try dsimp only at h); go_simp; all_goals with_reducible rfl)
        try simp only [Act.put, tI, tP, tQ]
        refine wpAnyH_take (i := 4) (oi := ?a62_4) (v := ?b62_4) ?c62_4 (by kernel_rfl) (by kernel_rfl) (by kernel_rfl) ?d62_4 ?e62_4 (by assumption) ?f62_4
        case c62_4 => simp only [tA, tS, tZ]; rfl
        case d62_4 => exact fun _ _ _ h => h
        case e62_4 => (refine Or.inl ⟨by rfl, ?_⟩; intro w h; (try dsimp only at h); go_simp; all_goals with_reducible rfl)
        try simp only [Act.put, tI, tP, tQ]
        refine wpAnyH_ready (rs := [5]) (by kernel_rfl) (by simp) ?_
        refine AllReadyH.cons (o := ?or63_5) ?hor63_5 (fun K hK => ?kr63_5) AllReadyH.nil
        case hor63_5 => simp only [List.getElem?_toArray, List.getElem?_cons_succ, List.getElem?_cons_zero]; rfl
        go_simp
        refine (cmMost_any w8).mono ?_
        rintro e2 w9 ⟨am, nm, cm, rfl, ym, hb⟩
        have R2 := R2.later hb
        have yz := yz.below hb
        have rb1 := rb1.below hb
        clear hb
        go_wp2_with fail
        refine hK.out _ _ ?_ (fun hHeld => ?_)
        · exact ⟨R2.cell 8 _ rfl, trivial⟩
        clear hK K
        try simp only [Act.put, List.setIfInBounds_toArray, List.set_cons_zero, List.set_cons_succ]
        refine wpAnyH_ready (rs := [6]) (by kernel_rfl) (by simp) ?_
        refine AllReadyH.cons (o := ?or64_6) ?hor64_6 (fun K hK => ?kr64_6) AllReadyH.nil
        case hor64_6 => simp only [List.getElem?_toArray, List.getElem?_cons_succ, List.getElem?_cons_zero]; rfl
        go_simp
        have cc := cmAtMost_any w9 yz ym
        rw [DL.out] at cc
        refine cc.mono ?_
        rintro e2 wA ⟨rfl, hb⟩
        clear cc
        have R2 := R2.later hb
        have yz := yz.below hb
        have rb1 := rb1.below hb
        clear hb ym
        go_wp2_with fail
        refine hK.out _ _ ?_ (fun hHeld => ?_)
        · exact ⟨R2.cell 8 _ rfl, trivial⟩
        clear hK K
        try simp only [Act.put, List.setIfInBounds_toArray, List.set_cons_zero, List.set_cons_succ]
        refine wpAnyH_take (i := 7) (oi := ?a65_7) (v := ?b65_7) ?c65_7 (by kernel_rfl) (by kernel_rfl) (by kernel_rfl) ?d65_7 ?e65_7 (by assumption) ?f65_7
        case c65_7 => simp only [tA, tS, tZ]; rfl
        case d65_7 => exact fun _ _ _ h => h
        case e65_7 => (refine Or.inl ⟨by rfl, ?_⟩; intro w h; (try dsimp only at h); go_simp; all_goals with_reducible rfl)
        try simp only [Act.put, tI, tP, tQ]
        refine wpAnyH_done (by kernel_rfl) ?_ _
        clear hHeld
        rw [← NX.out] at yz
        by_cases hB : nextC q L (0 : Int) ≤ B
        · have BL := Lib.hid (show leC (limbs (nextC q L (0 : Int))) (limbs B) = true by rw [leC_ok nextC_lt vld.out.pw.2]; exact decide_eq_true hB)
          have HB := Lib.hid hB
          clear hB
          go_upto_region 10 with fail
          have hb := (Below.refl wA.heap.size wA).drew
          have R2 := R2.later hb
          have yz := yz.below hb
          have rb1 := rb1.below hb
          clear hb
          refine wp_region_held_drew (S := (fun w' => w'.cell? ⟨k, 8, none⟩ = some (.slice az nz cz) ∧ w'.cell? ⟨k, 9, none⟩ = some (.slice b m d))) (by kernel_rfl) ?_ (fun hHeld => ?_)
          · exact ⟨R2.cell 8 _ rfl, R2.cell 9 _ rfl⟩
          generalize wA.drew = wD at *
          refine wpAnyH_take (i := 0) (oi := ?a66_0) (v := ?b66_0) ?c66_0 (by kernel_rfl) (by kernel_rfl) (by kernel_rfl) ?d66_0 ?e66_0 (by assumption) ?f66_0
          case c66_0 => simp only [tA, tS, tZ]; rfl
          case d66_0 => exact fun _ _ _ h => h
          case e66_0 => (refine Or.inl ⟨by rfl, ?_⟩; intro w h; (try dsimp only at h); go_simp; all_goals with_reducible rfl)
          try simp only [Act.put, tI, tP, tQ]
          refine wpAnyH_take (i := 1) (oi := ?a66_1) (v := ?b66_1) ?c66_1 (by kernel_rfl) (by kernel_rfl) (by kernel_rfl) ?d66_1 ?e66_1 (by assumption) ?f66_1
          case c66_1 => simp only [tA, tS, tZ]; rfl
          case d66_1 => exact fun _ _ _ h => h
          case e66_1 => (refine Or.inl ⟨by rfl, ?_⟩; intro w h; (try dsimp only at h); go_simp; all_goals with_reducible rfl)
          try simp only [Act.put, tI, tP, tQ]
          refine wpAnyH_take (i := 2) (oi := ?a66_2) (v := ?b66_2) ?c66_2 (by kernel_rfl) (by kernel_rfl) (by kernel_rfl) ?d66_2 ?e66_2 (by assumption) ?f66_2
          case c66_2 => simp only [tA, tS, tZ]; rfl
          case d66_2 => exact fun _ _ _ h => h
          case e66_2 => (refine Or.inl ⟨by rfl, ?_⟩; intro w h; (try dsimp only at h); go_simp; all_goals with_reducible rfl)
          try simp only [Act.put, tI, tP, tQ]
          refine wpAnyH_take (i := 3) (oi := ?a66_3) (v := ?b66_3) ?c66_3 (by kernel_rfl) (by kernel_rfl) (by kernel_rfl) ?d66_3 ?e66_3 (by assumption) ?f66_3
          case c66_3 => simp only [tA, tS, tZ]; rfl
          case d66_3 => exact fun _ _ _ h => h
          case e66_3 => (refine Or.inl ⟨by rfl, ?_⟩; intro w h; (try dsimp only at h); go_simp; all_goals with_reducible rfl)
          try simp only [Act.put, tI, tP, tQ]
          refine wpAnyH_take (i := 4) (oi := ?a66_4) (v := ?b66_4) ?c66_4 (by kernel_rfl) (by kernel_rfl) (by kernel_rfl) ?d66_4 ?e66_4 (by assumption) ?f66_4
          case c66_4 => simp only [tA, tS, tZ]; rfl
          case d66_4 => exact fun _ _ _ h => h
          case e66_4 => (refine Or.inl ⟨by rfl, ?_⟩; intro w h; (try dsimp only at h); go_simp; all_goals with_reducible rfl)
          try simp only [Act.put, tI, tP, tQ]
          refine wpAnyH_take (i := 5) (oi := ?a66_5) (v := ?b66_5) ?c66_5 (by kernel_rfl) (by kernel_rfl) (by kernel_rfl) ?d66_5 ?e66_5 (by assumption) ?f66_5
          case c66_5 => simp only [tA, tS, tZ]; rfl
          case d66_5 => exact fun _ _ _ h => h
          case e66_5 => (refine Or.inl ⟨by rfl, ?_⟩; intro w h; (try dsimp only at h); go_simp; all_goals with_reducible rfl)
          try simp only [Act.put, tI, tP, tQ]
          refine wpAnyH_take (i := 6) (oi := ?a66_6) (v := ?b66_6) ?c66_6 (by kernel_rfl) (by kernel_rfl) (by kernel_rfl) ?d66_6 ?e66_6 (by assumption) ?f66_6
          case c66_6 => simp only [tA, tS, tZ]; rfl
          case d66_6 => exact fun _ _ _ h => h
          case e66_6 => (refine Or.inl ⟨by rfl, ?_⟩; intro w h; (try dsimp only at h); go_simp; all_goals with_reducible rfl)
          try simp only [Act.put, tI, tP, tQ]
          refine wpAnyH_take (i := 7) (oi := ?a66_7) (v := ?b66_7) ?c66_7 (by kernel_rfl) (by kernel_rfl) (by kernel_rfl) ?d66_7 ?e66_7 (by assumption) ?f66_7
          case c66_7 => simp only [tA, tS, tZ]; rfl
          case d66_7 => exact fun _ _ _ h => h
          case e66_7 => (refine Or.inl ⟨by rfl, ?_⟩; intro w h; (try dsimp only at h); go_simp; all_goals with_reducible rfl)
          try simp only [Act.put, tI, tP, tQ]
          refine wpAnyH_take (i := 8) (oi := ?a66_8) (v := ?b66_8) ?c66_8 (by kernel_rfl) (by kernel_rfl) (by kernel_rfl) ?d66_8 ?e66_8 (by assumption) ?f66_8
          case c66_8 => simp only [tA, tS, tZ]; rfl
          case d66_8 => exact fun _ _ _ h => h
          case e66_8 => (refine Or.inl ⟨by rfl, ?_⟩; intro w h; (try dsimp only at h); go_simp; all_goals with_reducible rfl)
          try simp only [Act.put, tI, tP, tQ]
          refine wpAnyH_take (i := 9) (oi := ?a66_9) (v := ?b66_9) ?c66_9 (by kernel_rfl) (by kernel_rfl) (by kernel_rfl) ?d66_9 ?e66_9 (by assumption) ?f66_9
          case c66_9 => simp only [tA, tS, tZ]; rfl
          case d66_9 => exact fun _ _ _ h => h
          case e66_9 => (refine Or.inl ⟨by rfl, ?_⟩; intro w h; (try dsimp only at h); go_simp; all_goals with_reducible rfl)
          try simp only [Act.put, tI, tP, tQ]
          refine wpAnyH_ready (rs := [10]) (by kernel_rfl) (by simp) ?_
          refine AllReadyH.cons (o := ?or67_10) ?hor67_10 (fun K hK => ?kr67_10) AllReadyH.nil
          case hor67_10 => simp only [List.getElem?_toArray, List.getElem?_cons_succ, List.getElem?_cons_zero]; rfl
          go_simp
          have cc := cmAtMost_any wD yz rb1
          rw [BL.out] at cc
          refine cc.mono ?_
          rintro e2 wE ⟨rfl, hb⟩
          clear cc
          have R2 := R2.later hb
          have yz := yz.below hb
          have rb1 := rb1.below hb
          clear hb
          go_wp2_with fail
          refine hK.out _ _ ?_ (fun hHeld => ?_)
          · exact ⟨R2.cell 8 _ rfl, R2.cell 9 _ rfl⟩
          clear hK K
          try simp only [Act.put, List.setIfInBounds_toArray, List.set_cons_zero, List.set_cons_succ]
          refine wpAnyH_take (i := 11) (oi := ?a68_11) (v := ?b68_11) ?c68_11 (by kernel_rfl) (by kernel_rfl) (by kernel_rfl) ?d68_11 ?e68_11 (by assumption) ?f68_11
          case c68_11 => simp only [tA, tS, tZ]; rfl
          case d68_11 => exact fun _ _ _ h => h
          case e68_11 => (refine Or.inl ⟨by rfl, ?_⟩; intro w h; (try dsimp only at h); go_simp; all_goals with_reducible rfl)
          try simp only [Act.put, tI, tP, tQ]
          refine wpAnyH_done (by kernel_rfl) ?_ _
          clear hHeld
          go_wp2_with fail
          go_ret
          refine .inr ⟨_, _, _, _, _, _, e.out, rfl, R2, ?_, ?_⟩
          · rw [(show (stepC q (0 : Int)).lev = limbs (nextC q L (0 : Int)) by show limbs (nextC q (val q.lev) (0 : Int)) = _; rw [vld.out.lev, val_limbs])]; exact yz
          · rw [(show (stepC q (0 : Int)).best = limbs B by show limbs (max (val q.best) (nextC q (val q.lev) (0 : Int))) = _; rw [vld.out.lev, vld.out.best, val_limbs, val_limbs, Nat.max_eq_left HB.out])]; exact rb1
        · have BL := Lib.hid (show leC (limbs (nextC q L (0 : Int))) (limbs B) = false by rw [leC_ok nextC_lt vld.out.pw.2]; exact decide_eq_false hB)
          have HB := Lib.hid hB
          clear hB
          go_upto_region 10 with fail
          have hb := (Below.refl wA.heap.size wA).drew
          have R2 := R2.later hb
          have yz := yz.below hb
          have rb1 := rb1.below hb
          clear hb
          refine wp_region_held_drew (S := (fun w' => w'.cell? ⟨k, 8, none⟩ = some (.slice az nz cz) ∧ w'.cell? ⟨k, 9, none⟩ = some (.slice b m d))) (by kernel_rfl) ?_ (fun hHeld => ?_)
          · exact ⟨R2.cell 8 _ rfl, R2.cell 9 _ rfl⟩
          generalize wA.drew = wD at *
          refine wpAnyH_take (i := 0) (oi := ?a69_0) (v := ?b69_0) ?c69_0 (by kernel_rfl) (by kernel_rfl) (by kernel_rfl) ?d69_0 ?e69_0 (by assumption) ?f69_0
          case c69_0 => simp only [tA, tS, tZ]; rfl
          case d69_0 => exact fun _ _ _ h => h
          case e69_0 => (refine Or.inl ⟨by rfl, ?_⟩; intro w h; (try dsimp only at h); go_simp; all_goals with_reducible rfl)
          try simp only [Act.put, tI, tP, tQ]
          refine wpAnyH_take (i := 1) (oi := ?a69_1) (v := ?b69_1) ?c69_1 (by kernel_rfl) (by kernel_rfl) (by kernel_rfl) ?d69_1 ?e69_1 (by assumption) ?f69_1
          case c69_1 => simp only [tA, tS, tZ]; rfl
          case d69_1 => exact fun _ _ _ h => h
          case e69_1 => (refine Or.inl ⟨by rfl, ?_⟩; intro w h; (try dsimp only at h); go_simp; all_goals with_reducible rfl)
          try simp only [Act.put, tI, tP, tQ]
          refine wpAnyH_take (i := 2) (oi := ?a69_2) (v := ?b69_2) ?c69_2 (by kernel_rfl) (by kernel_rfl) (by kernel_rfl) ?d69_2 ?e69_2 (by assumption) ?f69_2
          case c69_2 => simp only [tA, tS, tZ]; rfl
          case d69_2 => exact fun _ _ _ h => h
          case e69_2 => (refine Or.inl ⟨by rfl, ?_⟩; intro w h; (try dsimp only at h); go_simp; all_goals with_reducible rfl)
          try simp only [Act.put, tI, tP, tQ]
          refine wpAnyH_take (i := 3) (oi := ?a69_3) (v := ?b69_3) ?c69_3 (by kernel_rfl) (by kernel_rfl) (by kernel_rfl) ?d69_3 ?e69_3 (by assumption) ?f69_3
          case c69_3 => simp only [tA, tS, tZ]; rfl
          case d69_3 => exact fun _ _ _ h => h
          case e69_3 => (refine Or.inl ⟨by rfl, ?_⟩; intro w h; (try dsimp only at h); go_simp; all_goals with_reducible rfl)
          try simp only [Act.put, tI, tP, tQ]
          refine wpAnyH_take (i := 4) (oi := ?a69_4) (v := ?b69_4) ?c69_4 (by kernel_rfl) (by kernel_rfl) (by kernel_rfl) ?d69_4 ?e69_4 (by assumption) ?f69_4
          case c69_4 => simp only [tA, tS, tZ]; rfl
          case d69_4 => exact fun _ _ _ h => h
          case e69_4 => (refine Or.inl ⟨by rfl, ?_⟩; intro w h; (try dsimp only at h); go_simp; all_goals with_reducible rfl)
          try simp only [Act.put, tI, tP, tQ]
          refine wpAnyH_take (i := 5) (oi := ?a69_5) (v := ?b69_5) ?c69_5 (by kernel_rfl) (by kernel_rfl) (by kernel_rfl) ?d69_5 ?e69_5 (by assumption) ?f69_5
          case c69_5 => simp only [tA, tS, tZ]; rfl
          case d69_5 => exact fun _ _ _ h => h
          case e69_5 => (refine Or.inl ⟨by rfl, ?_⟩; intro w h; (try dsimp only at h); go_simp; all_goals with_reducible rfl)
          try simp only [Act.put, tI, tP, tQ]
          refine wpAnyH_take (i := 6) (oi := ?a69_6) (v := ?b69_6) ?c69_6 (by kernel_rfl) (by kernel_rfl) (by kernel_rfl) ?d69_6 ?e69_6 (by assumption) ?f69_6
          case c69_6 => simp only [tA, tS, tZ]; rfl
          case d69_6 => exact fun _ _ _ h => h
          case e69_6 => (refine Or.inl ⟨by rfl, ?_⟩; intro w h; (try dsimp only at h); go_simp; all_goals with_reducible rfl)
          try simp only [Act.put, tI, tP, tQ]
          refine wpAnyH_take (i := 7) (oi := ?a69_7) (v := ?b69_7) ?c69_7 (by kernel_rfl) (by kernel_rfl) (by kernel_rfl) ?d69_7 ?e69_7 (by assumption) ?f69_7
          case c69_7 => simp only [tA, tS, tZ]; rfl
          case d69_7 => exact fun _ _ _ h => h
          case e69_7 => (refine Or.inl ⟨by rfl, ?_⟩; intro w h; (try dsimp only at h); go_simp; all_goals with_reducible rfl)
          try simp only [Act.put, tI, tP, tQ]
          refine wpAnyH_take (i := 8) (oi := ?a69_8) (v := ?b69_8) ?c69_8 (by kernel_rfl) (by kernel_rfl) (by kernel_rfl) ?d69_8 ?e69_8 (by assumption) ?f69_8
          case c69_8 => simp only [tA, tS, tZ]; rfl
          case d69_8 => exact fun _ _ _ h => h
          case e69_8 => (refine Or.inl ⟨by rfl, ?_⟩; intro w h; (try dsimp only at h); go_simp; all_goals with_reducible rfl)
          try simp only [Act.put, tI, tP, tQ]
          refine wpAnyH_take (i := 9) (oi := ?a69_9) (v := ?b69_9) ?c69_9 (by kernel_rfl) (by kernel_rfl) (by kernel_rfl) ?d69_9 ?e69_9 (by assumption) ?f69_9
          case c69_9 => simp only [tA, tS, tZ]; rfl
          case d69_9 => exact fun _ _ _ h => h
          case e69_9 => (refine Or.inl ⟨by rfl, ?_⟩; intro w h; (try dsimp only at h); go_simp; all_goals with_reducible rfl)
          try simp only [Act.put, tI, tP, tQ]
          refine wpAnyH_ready (rs := [10]) (by kernel_rfl) (by simp) ?_
          refine AllReadyH.cons (o := ?or70_10) ?hor70_10 (fun K hK => ?kr70_10) AllReadyH.nil
          case hor70_10 => simp only [List.getElem?_toArray, List.getElem?_cons_succ, List.getElem?_cons_zero]; rfl
          go_simp
          have cc := cmAtMost_any wD yz rb1
          rw [BL.out] at cc
          refine cc.mono ?_
          rintro e2 wE ⟨rfl, hb⟩
          clear cc
          have R2 := R2.later hb
          have yz := yz.below hb
          have rb1 := rb1.below hb
          clear hb
          go_wp2_with fail
          refine hK.out _ _ ?_ (fun hHeld => ?_)
          · exact ⟨R2.cell 8 _ rfl, R2.cell 9 _ rfl⟩
          clear hK K
          try simp only [Act.put, List.setIfInBounds_toArray, List.set_cons_zero, List.set_cons_succ]
          refine wpAnyH_take (i := 11) (oi := ?a71_11) (v := ?b71_11) ?c71_11 (by kernel_rfl) (by kernel_rfl) (by kernel_rfl) ?d71_11 ?e71_11 (by assumption) ?f71_11
          case c71_11 => simp only [tA, tS, tZ]; rfl
          case d71_11 => exact fun _ _ _ h => h
          case e71_11 => (refine Or.inl ⟨by rfl, ?_⟩; intro w h; (try dsimp only at h); go_simp; all_goals with_reducible rfl)
          try simp only [Act.put, tI, tP, tQ]
          refine wpAnyH_done (by kernel_rfl) ?_ _
          clear hHeld
          have k8 : wE.cell? ⟨k, 8, none⟩ = some (.slice az nz cz) := R2.cell 8 _ rfl
          go_wp2_with fail
          refine (Clone_any wE yz (by have h1 := yz.len; have h2 := limbs_len_le (k := 96) (show nextC q L (0 : Int) < pw 96 from Nat.lt_of_le_of_lt (Nat.min_le_right _ _) most_pw); omega)).mono ?_
          rintro e2 wF ⟨ak, nk, ck, rfl, yk, hb⟩
          have R2 := R2.later hb
          have yz := yz.below hb
          have rb1 := rb1.below hb
          clear hb k8
          have fr9 := R2.free 9
          have k9 := R2.cell 9 _ rfl
          have R4 : PRow 66 wb (wF.setCell ⟨k, 9, none⟩ (.slice ak nk ck)) k (cmC (bumpC q (0 : Int)) az nz cz ak nk ck) := R2.set 9 (.slice ak nk ck)
          have yk := rd_setcell (i := 9) yk R2.row (cm_noint _ _ _ _ _ _ _) (.slice ak nk ck)
          have yl := rd_setcell (i := 9) yz R2.row (cm_noint _ _ _ _ _ _ _) (.slice ak nk ck)
          go_wp2_with fail
          go_ret
          refine .inr ⟨_, _, _, _, _, _, e.out, rfl, R4, ?_, ?_⟩
          · rw [(show (stepC q (0 : Int)).lev = limbs (nextC q L (0 : Int)) by show limbs (nextC q (val q.lev) (0 : Int)) = _; rw [vld.out.lev, val_limbs])]; exact yl
          · rw [(show (stepC q (0 : Int)).best = limbs (nextC q L (0 : Int)) by show limbs (max (val q.best) (nextC q (val q.lev) (0 : Int))) = _; rw [vld.out.lev, vld.out.best, val_limbs, val_limbs, Nat.max_eq_right (Nat.le_of_lt (Nat.lt_of_not_le HB.out))])]; exact yk
      · have NX := Lib.hid (show nextC q L (0 : Int) = mostN by unfold nextC timesN; exact Nat.min_eq_right (Nat.le_of_lt (Nat.lt_of_not_le hD)))
        have DL := Lib.hid (show leC (limbs (L * factC q (0 : Int) / wholeC q)) [0, 0, 0, 0, 1] = false by rw [← most_limbs, leC_ok (Nat.lt_of_le_of_lt (Nat.div_le_self _ _) LF.out) most_pw]; exact decide_eq_false hD)
        clear hD
        have hb := (Below.refl w7.heap.size w7).drew
        have R2 := R2.later hb
        have yz := yz.below hb
        have rb1 := rb1.below hb
        clear hb
        refine wp_region_held_drew (S := (fun w' => w'.cell? ⟨k, 8, none⟩ = some (.slice az nz cz) ∧ True)) (by kernel_rfl) ?_ (fun hHeld => ?_)
        · exact ⟨R2.cell 8 _ rfl, trivial⟩
        generalize w7.drew = w8 at *
        refine wpAnyH_take (i := 0) (oi := ?a72_0) (v := ?b72_0) ?c72_0 (by kernel_rfl) (by kernel_rfl) (by kernel_rfl) ?d72_0 ?e72_0 (by assumption) ?f72_0
        case c72_0 => simp only [tA, tS, tZ]; rfl
        case d72_0 => exact fun _ _ _ h => h
        case e72_0 => (refine Or.inl ⟨by rfl, ?_⟩; intro w h; (try dsimp only at h); go_simp; all_goals with_reducible rfl)
        try simp only [Act.put, tI, tP, tQ]
        refine wpAnyH_take (i := 1) (oi := ?a72_1) (v := ?b72_1) ?c72_1 (by kernel_rfl) (by kernel_rfl) (by kernel_rfl) ?d72_1 ?e72_1 (by assumption) ?f72_1
        case c72_1 => simp only [tA, tS, tZ]; rfl
        case d72_1 => exact fun _ _ _ h => h
        case e72_1 => (refine Or.inl ⟨by rfl, ?_⟩; intro w h; (try dsimp only at h); go_simp; all_goals with_reducible rfl)
        try simp only [Act.put, tI, tP, tQ]
        refine wpAnyH_take (i := 2) (oi := ?a72_2) (v := ?b72_2) ?c72_2 (by kernel_rfl) (by kernel_rfl) (by kernel_rfl) ?d72_2 ?e72_2 (by assumption) ?f72_2
        case c72_2 => simp only [tA, tS, tZ]; rfl
        case d72_2 => exact fun _ _ _ h => h
        case e72_2 => (refine Or.inl ⟨by rfl, ?_⟩; intro w h; (try dsimp only at h); go_simp; all_goals with_reducible rfl)
        try simp only [Act.put, tI, tP, tQ]
        refine wpAnyH_take (i := 3) (oi := ?a72_3) (v := ?b72_3) ?c72_3 (by kernel_rfl) (by kernel_rfl) (by kernel_rfl) ?d72_3 ?e72_3 (by assumption) ?f72_3
        case c72_3 => simp only [tA, tS, tZ]; rfl
        case d72_3 => exact fun _ _ _ h => h
        case e72_3 => (refine Or.inl ⟨by rfl, ?_⟩; intro w h; (try dsimp only at h); go_simp; all_goals with_reducible rfl)
        try simp only [Act.put, tI, tP, tQ]
        refine wpAnyH_take (i := 4) (oi := ?a72_4) (v := ?b72_4) ?c72_4 (by kernel_rfl) (by kernel_rfl) (by kernel_rfl) ?d72_4 ?e72_4 (by assumption) ?f72_4
        case c72_4 => simp only [tA, tS, tZ]; rfl
        case d72_4 => exact fun _ _ _ h => h
        case e72_4 => (refine Or.inl ⟨by rfl, ?_⟩; intro w h; (try dsimp only at h); go_simp; all_goals with_reducible rfl)
        try simp only [Act.put, tI, tP, tQ]
        refine wpAnyH_ready (rs := [5]) (by kernel_rfl) (by simp) ?_
        refine AllReadyH.cons (o := ?or73_5) ?hor73_5 (fun K hK => ?kr73_5) AllReadyH.nil
        case hor73_5 => simp only [List.getElem?_toArray, List.getElem?_cons_succ, List.getElem?_cons_zero]; rfl
        go_simp
        refine (cmMost_any w8).mono ?_
        rintro e2 w9 ⟨am, nm, cm, rfl, ym, hb⟩
        have R2 := R2.later hb
        have yz := yz.below hb
        have rb1 := rb1.below hb
        clear hb
        go_wp2_with fail
        refine hK.out _ _ ?_ (fun hHeld => ?_)
        · exact ⟨R2.cell 8 _ rfl, trivial⟩
        clear hK K
        try simp only [Act.put, List.setIfInBounds_toArray, List.set_cons_zero, List.set_cons_succ]
        refine wpAnyH_ready (rs := [6]) (by kernel_rfl) (by simp) ?_
        refine AllReadyH.cons (o := ?or74_6) ?hor74_6 (fun K hK => ?kr74_6) AllReadyH.nil
        case hor74_6 => simp only [List.getElem?_toArray, List.getElem?_cons_succ, List.getElem?_cons_zero]; rfl
        go_simp
        have cc := cmAtMost_any w9 yz ym
        rw [DL.out] at cc
        refine cc.mono ?_
        rintro e2 wA ⟨rfl, hb⟩
        clear cc
        have R2 := R2.later hb
        have yz := yz.below hb
        have rb1 := rb1.below hb
        clear hb ym
        go_wp2_with fail
        refine hK.out _ _ ?_ (fun hHeld => ?_)
        · exact ⟨R2.cell 8 _ rfl, trivial⟩
        clear hK K
        try simp only [Act.put, List.setIfInBounds_toArray, List.set_cons_zero, List.set_cons_succ]
        refine wpAnyH_take (i := 7) (oi := ?a75_7) (v := ?b75_7) ?c75_7 (by kernel_rfl) (by kernel_rfl) (by kernel_rfl) ?d75_7 ?e75_7 (by assumption) ?f75_7
        case c75_7 => simp only [tA, tS, tZ]; rfl
        case d75_7 => exact fun _ _ _ h => h
        case e75_7 => (refine Or.inl ⟨by rfl, ?_⟩; intro w h; (try dsimp only at h); go_simp; all_goals with_reducible rfl)
        try simp only [Act.put, tI, tP, tQ]
        refine wpAnyH_done (by kernel_rfl) ?_ _
        clear hHeld
        go_wp2_with fail
        refine (cmMost_any wA).mono ?_
        rintro e2 wB ⟨as', ns', cs', rfl, ys, hb⟩
        have R2 := R2.later hb
        have yz := yz.below hb
        have rb1 := rb1.below hb
        clear hb
        have fr8 := R2.free 8
        have k8 := R2.cell 8 _ rfl
        have R3 : PRow 66 wb (wB.setCell ⟨k, 8, none⟩ (.slice as' ns' cs')) k (cmC (bumpC q (0 : Int)) as' ns' cs' b m d) := R2.set 8 (.slice as' ns' cs')
        have ys := rd_setcell (i := 8) ys R2.row (cm_noint _ _ _ _ _ _ _) (.slice as' ns' cs')
        have rb1 := rd_setcell (i := 8) rb1 R2.row (cm_noint _ _ _ _ _ _ _) (.slice as' ns' cs')
        clear R2 yz
        rw [← most_limbs, ← NX.out] at ys
        go_upto_region 10 with fail
        clear fr8 k8
        generalize wB.setCell ⟨k, 8, none⟩ (.slice as' ns' cs') = wC at *
        by_cases hB : nextC q L (0 : Int) ≤ B
        · have BL := Lib.hid (show leC (limbs (nextC q L (0 : Int))) (limbs B) = true by rw [leC_ok nextC_lt vld.out.pw.2]; exact decide_eq_true hB)
          have HB := Lib.hid hB
          clear hB
          have hb := (Below.refl wC.heap.size wC).drew
          have R3 := R3.later hb
          have ys := ys.below hb
          have rb1 := rb1.below hb
          clear hb
          refine wp_region_held_drew (S := (fun w' => w'.cell? ⟨k, 8, none⟩ = some (.slice as' ns' cs') ∧ w'.cell? ⟨k, 9, none⟩ = some (.slice b m d))) (by kernel_rfl) ?_ (fun hHeld => ?_)
          · exact ⟨R3.cell 8 _ rfl, R3.cell 9 _ rfl⟩
          generalize wC.drew = wD at *
          refine wpAnyH_take (i := 0) (oi := ?a76_0) (v := ?b76_0) ?c76_0 (by kernel_rfl) (by kernel_rfl) (by kernel_rfl) ?d76_0 ?e76_0 (by assumption) ?f76_0
          case c76_0 => simp only [tA, tS, tZ]; rfl
          case d76_0 => exact fun _ _ _ h => h
          case e76_0 => (refine Or.inl ⟨by rfl, ?_⟩; intro w h; (try dsimp only at h); go_simp; all_goals with_reducible rfl)
          try simp only [Act.put, tI, tP, tQ]
          refine wpAnyH_take (i := 1) (oi := ?a76_1) (v := ?b76_1) ?c76_1 (by kernel_rfl) (by kernel_rfl) (by kernel_rfl) ?d76_1 ?e76_1 (by assumption) ?f76_1
          case c76_1 => simp only [tA, tS, tZ]; rfl
          case d76_1 => exact fun _ _ _ h => h
          case e76_1 => (refine Or.inl ⟨by rfl, ?_⟩; intro w h; (try dsimp only at h); go_simp; all_goals with_reducible rfl)
          try simp only [Act.put, tI, tP, tQ]
          refine wpAnyH_take (i := 2) (oi := ?a76_2) (v := ?b76_2) ?c76_2 (by kernel_rfl) (by kernel_rfl) (by kernel_rfl) ?d76_2 ?e76_2 (by assumption) ?f76_2
          case c76_2 => simp only [tA, tS, tZ]; rfl
          case d76_2 => exact fun _ _ _ h => h
          case e76_2 => (refine Or.inl ⟨by rfl, ?_⟩; intro w h; (try dsimp only at h); go_simp; all_goals with_reducible rfl)
          try simp only [Act.put, tI, tP, tQ]
          refine wpAnyH_take (i := 3) (oi := ?a76_3) (v := ?b76_3) ?c76_3 (by kernel_rfl) (by kernel_rfl) (by kernel_rfl) ?d76_3 ?e76_3 (by assumption) ?f76_3
          case c76_3 => simp only [tA, tS, tZ]; rfl
          case d76_3 => exact fun _ _ _ h => h
          case e76_3 => (refine Or.inl ⟨by rfl, ?_⟩; intro w h; (try dsimp only at h); go_simp; all_goals with_reducible rfl)
          try simp only [Act.put, tI, tP, tQ]
          refine wpAnyH_take (i := 4) (oi := ?a76_4) (v := ?b76_4) ?c76_4 (by kernel_rfl) (by kernel_rfl) (by kernel_rfl) ?d76_4 ?e76_4 (by assumption) ?f76_4
          case c76_4 => simp only [tA, tS, tZ]; rfl
          case d76_4 => exact fun _ _ _ h => h
          case e76_4 => (refine Or.inl ⟨by rfl, ?_⟩; intro w h; (try dsimp only at h); go_simp; all_goals with_reducible rfl)
          try simp only [Act.put, tI, tP, tQ]
          refine wpAnyH_take (i := 5) (oi := ?a76_5) (v := ?b76_5) ?c76_5 (by kernel_rfl) (by kernel_rfl) (by kernel_rfl) ?d76_5 ?e76_5 (by assumption) ?f76_5
          case c76_5 => simp only [tA, tS, tZ]; rfl
          case d76_5 => exact fun _ _ _ h => h
          case e76_5 => (refine Or.inl ⟨by rfl, ?_⟩; intro w h; (try dsimp only at h); go_simp; all_goals with_reducible rfl)
          try simp only [Act.put, tI, tP, tQ]
          refine wpAnyH_take (i := 6) (oi := ?a76_6) (v := ?b76_6) ?c76_6 (by kernel_rfl) (by kernel_rfl) (by kernel_rfl) ?d76_6 ?e76_6 (by assumption) ?f76_6
          case c76_6 => simp only [tA, tS, tZ]; rfl
          case d76_6 => exact fun _ _ _ h => h
          case e76_6 => (refine Or.inl ⟨by rfl, ?_⟩; intro w h; (try dsimp only at h); go_simp; all_goals with_reducible rfl)
          try simp only [Act.put, tI, tP, tQ]
          refine wpAnyH_take (i := 7) (oi := ?a76_7) (v := ?b76_7) ?c76_7 (by kernel_rfl) (by kernel_rfl) (by kernel_rfl) ?d76_7 ?e76_7 (by assumption) ?f76_7
          case c76_7 => simp only [tA, tS, tZ]; rfl
          case d76_7 => exact fun _ _ _ h => h
          case e76_7 => (refine Or.inl ⟨by rfl, ?_⟩; intro w h; (try dsimp only at h); go_simp; all_goals with_reducible rfl)
          try simp only [Act.put, tI, tP, tQ]
          refine wpAnyH_take (i := 8) (oi := ?a76_8) (v := ?b76_8) ?c76_8 (by kernel_rfl) (by kernel_rfl) (by kernel_rfl) ?d76_8 ?e76_8 (by assumption) ?f76_8
          case c76_8 => simp only [tA, tS, tZ]; rfl
          case d76_8 => exact fun _ _ _ h => h
          case e76_8 => (refine Or.inl ⟨by rfl, ?_⟩; intro w h; (try dsimp only at h); go_simp; all_goals with_reducible rfl)
          try simp only [Act.put, tI, tP, tQ]
          refine wpAnyH_take (i := 9) (oi := ?a76_9) (v := ?b76_9) ?c76_9 (by kernel_rfl) (by kernel_rfl) (by kernel_rfl) ?d76_9 ?e76_9 (by assumption) ?f76_9
          case c76_9 => simp only [tA, tS, tZ]; rfl
          case d76_9 => exact fun _ _ _ h => h
          case e76_9 => (refine Or.inl ⟨by rfl, ?_⟩; intro w h; (try dsimp only at h); go_simp; all_goals with_reducible rfl)
          try simp only [Act.put, tI, tP, tQ]
          refine wpAnyH_ready (rs := [10]) (by kernel_rfl) (by simp) ?_
          refine AllReadyH.cons (o := ?or77_10) ?hor77_10 (fun K hK => ?kr77_10) AllReadyH.nil
          case hor77_10 => simp only [List.getElem?_toArray, List.getElem?_cons_succ, List.getElem?_cons_zero]; rfl
          go_simp
          have cc := cmAtMost_any wD ys rb1
          rw [BL.out] at cc
          refine cc.mono ?_
          rintro e2 wE ⟨rfl, hb⟩
          clear cc
          have R3 := R3.later hb
          have ys := ys.below hb
          have rb1 := rb1.below hb
          clear hb
          go_wp2_with fail
          refine hK.out _ _ ?_ (fun hHeld => ?_)
          · exact ⟨R3.cell 8 _ rfl, R3.cell 9 _ rfl⟩
          clear hK K
          try simp only [Act.put, List.setIfInBounds_toArray, List.set_cons_zero, List.set_cons_succ]
          refine wpAnyH_take (i := 11) (oi := ?a78_11) (v := ?b78_11) ?c78_11 (by kernel_rfl) (by kernel_rfl) (by kernel_rfl) ?d78_11 ?e78_11 (by assumption) ?f78_11
          case c78_11 => simp only [tA, tS, tZ]; rfl
          case d78_11 => exact fun _ _ _ h => h
          case e78_11 => (refine Or.inl ⟨by rfl, ?_⟩; intro w h; (try dsimp only at h); go_simp; all_goals with_reducible rfl)
          try simp only [Act.put, tI, tP, tQ]
          refine wpAnyH_done (by kernel_rfl) ?_ _
          clear hHeld
          go_wp2_with fail
          go_ret
          refine .inr ⟨_, _, _, _, _, _, e.out, rfl, R3, ?_, ?_⟩
          · rw [(show (stepC q (0 : Int)).lev = limbs (nextC q L (0 : Int)) by show limbs (nextC q (val q.lev) (0 : Int)) = _; rw [vld.out.lev, val_limbs])]; exact ys
          · rw [(show (stepC q (0 : Int)).best = limbs B by show limbs (max (val q.best) (nextC q (val q.lev) (0 : Int))) = _; rw [vld.out.lev, vld.out.best, val_limbs, val_limbs, Nat.max_eq_left HB.out])]; exact rb1
        · have BL := Lib.hid (show leC (limbs (nextC q L (0 : Int))) (limbs B) = false by rw [leC_ok nextC_lt vld.out.pw.2]; exact decide_eq_false hB)
          have HB := Lib.hid hB
          clear hB
          have hb := (Below.refl wC.heap.size wC).drew
          have R3 := R3.later hb
          have ys := ys.below hb
          have rb1 := rb1.below hb
          clear hb
          refine wp_region_held_drew (S := (fun w' => w'.cell? ⟨k, 8, none⟩ = some (.slice as' ns' cs') ∧ w'.cell? ⟨k, 9, none⟩ = some (.slice b m d))) (by kernel_rfl) ?_ (fun hHeld => ?_)
          · exact ⟨R3.cell 8 _ rfl, R3.cell 9 _ rfl⟩
          generalize wC.drew = wD at *
          refine wpAnyH_take (i := 0) (oi := ?a79_0) (v := ?b79_0) ?c79_0 (by kernel_rfl) (by kernel_rfl) (by kernel_rfl) ?d79_0 ?e79_0 (by assumption) ?f79_0
          case c79_0 => simp only [tA, tS, tZ]; rfl
          case d79_0 => exact fun _ _ _ h => h
          case e79_0 => (refine Or.inl ⟨by rfl, ?_⟩; intro w h; (try dsimp only at h); go_simp; all_goals with_reducible rfl)
          try simp only [Act.put, tI, tP, tQ]
          refine wpAnyH_take (i := 1) (oi := ?a79_1) (v := ?b79_1) ?c79_1 (by kernel_rfl) (by kernel_rfl) (by kernel_rfl) ?d79_1 ?e79_1 (by assumption) ?f79_1
          case c79_1 => simp only [tA, tS, tZ]; rfl
          case d79_1 => exact fun _ _ _ h => h
          case e79_1 => (refine Or.inl ⟨by rfl, ?_⟩; intro w h; (try dsimp only at h); go_simp; all_goals with_reducible rfl)
          try simp only [Act.put, tI, tP, tQ]
          refine wpAnyH_take (i := 2) (oi := ?a79_2) (v := ?b79_2) ?c79_2 (by kernel_rfl) (by kernel_rfl) (by kernel_rfl) ?d79_2 ?e79_2 (by assumption) ?f79_2
          case c79_2 => simp only [tA, tS, tZ]; rfl
          case d79_2 => exact fun _ _ _ h => h
          case e79_2 => (refine Or.inl ⟨by rfl, ?_⟩; intro w h; (try dsimp only at h); go_simp; all_goals with_reducible rfl)
          try simp only [Act.put, tI, tP, tQ]
          refine wpAnyH_take (i := 3) (oi := ?a79_3) (v := ?b79_3) ?c79_3 (by kernel_rfl) (by kernel_rfl) (by kernel_rfl) ?d79_3 ?e79_3 (by assumption) ?f79_3
          case c79_3 => simp only [tA, tS, tZ]; rfl
          case d79_3 => exact fun _ _ _ h => h
          case e79_3 => (refine Or.inl ⟨by rfl, ?_⟩; intro w h; (try dsimp only at h); go_simp; all_goals with_reducible rfl)
          try simp only [Act.put, tI, tP, tQ]
          refine wpAnyH_take (i := 4) (oi := ?a79_4) (v := ?b79_4) ?c79_4 (by kernel_rfl) (by kernel_rfl) (by kernel_rfl) ?d79_4 ?e79_4 (by assumption) ?f79_4
          case c79_4 => simp only [tA, tS, tZ]; rfl
          case d79_4 => exact fun _ _ _ h => h
          case e79_4 => (refine Or.inl ⟨by rfl, ?_⟩; intro w h; (try dsimp only at h); go_simp; all_goals with_reducible rfl)
          try simp only [Act.put, tI, tP, tQ]
          refine wpAnyH_take (i := 5) (oi := ?a79_5) (v := ?b79_5) ?c79_5 (by kernel_rfl) (by kernel_rfl) (by kernel_rfl) ?d79_5 ?e79_5 (by assumption) ?f79_5
          case c79_5 => simp only [tA, tS, tZ]; rfl
          case d79_5 => exact fun _ _ _ h => h
          case e79_5 => (refine Or.inl ⟨by rfl, ?_⟩; intro w h; (try dsimp only at h); go_simp; all_goals with_reducible rfl)
          try simp only [Act.put, tI, tP, tQ]
          refine wpAnyH_take (i := 6) (oi := ?a79_6) (v := ?b79_6) ?c79_6 (by kernel_rfl) (by kernel_rfl) (by kernel_rfl) ?d79_6 ?e79_6 (by assumption) ?f79_6
          case c79_6 => simp only [tA, tS, tZ]; rfl
          case d79_6 => exact fun _ _ _ h => h
          case e79_6 => (refine Or.inl ⟨by rfl, ?_⟩; intro w h; (try dsimp only at h); go_simp; all_goals with_reducible rfl)
          try simp only [Act.put, tI, tP, tQ]
          refine wpAnyH_take (i := 7) (oi := ?a79_7) (v := ?b79_7) ?c79_7 (by kernel_rfl) (by kernel_rfl) (by kernel_rfl) ?d79_7 ?e79_7 (by assumption) ?f79_7
          case c79_7 => simp only [tA, tS, tZ]; rfl
          case d79_7 => exact fun _ _ _ h => h
          case e79_7 => (refine Or.inl ⟨by rfl, ?_⟩; intro w h; (try dsimp only at h); go_simp; all_goals with_reducible rfl)
          try simp only [Act.put, tI, tP, tQ]
          refine wpAnyH_take (i := 8) (oi := ?a79_8) (v := ?b79_8) ?c79_8 (by kernel_rfl) (by kernel_rfl) (by kernel_rfl) ?d79_8 ?e79_8 (by assumption) ?f79_8
          case c79_8 => simp only [tA, tS, tZ]; rfl
          case d79_8 => exact fun _ _ _ h => h
          case e79_8 => (refine Or.inl ⟨by rfl, ?_⟩; intro w h; (try dsimp only at h); go_simp; all_goals with_reducible rfl)
          try simp only [Act.put, tI, tP, tQ]
          refine wpAnyH_take (i := 9) (oi := ?a79_9) (v := ?b79_9) ?c79_9 (by kernel_rfl) (by kernel_rfl) (by kernel_rfl) ?d79_9 ?e79_9 (by assumption) ?f79_9
          case c79_9 => simp only [tA, tS, tZ]; rfl
          case d79_9 => exact fun _ _ _ h => h
          case e79_9 => (refine Or.inl ⟨by rfl, ?_⟩; intro w h; (try dsimp only at h); go_simp; all_goals with_reducible rfl)
          try simp only [Act.put, tI, tP, tQ]
          refine wpAnyH_ready (rs := [10]) (by kernel_rfl) (by simp) ?_
          refine AllReadyH.cons (o := ?or80_10) ?hor80_10 (fun K hK => ?kr80_10) AllReadyH.nil
          case hor80_10 => simp only [List.getElem?_toArray, List.getElem?_cons_succ, List.getElem?_cons_zero]; rfl
          go_simp
          have cc := cmAtMost_any wD ys rb1
          rw [BL.out] at cc
          refine cc.mono ?_
          rintro e2 wE ⟨rfl, hb⟩
          clear cc
          have R3 := R3.later hb
          have ys := ys.below hb
          have rb1 := rb1.below hb
          clear hb
          go_wp2_with fail
          refine hK.out _ _ ?_ (fun hHeld => ?_)
          · exact ⟨R3.cell 8 _ rfl, R3.cell 9 _ rfl⟩
          clear hK K
          try simp only [Act.put, List.setIfInBounds_toArray, List.set_cons_zero, List.set_cons_succ]
          refine wpAnyH_take (i := 11) (oi := ?a81_11) (v := ?b81_11) ?c81_11 (by kernel_rfl) (by kernel_rfl) (by kernel_rfl) ?d81_11 ?e81_11 (by assumption) ?f81_11
          case c81_11 => simp only [tA, tS, tZ]; rfl
          case d81_11 => exact fun _ _ _ h => h
          case e81_11 => (refine Or.inl ⟨by rfl, ?_⟩; intro w h; (try dsimp only at h); go_simp; all_goals with_reducible rfl)
          try simp only [Act.put, tI, tP, tQ]
          refine wpAnyH_done (by kernel_rfl) ?_ _
          clear hHeld
          have k8 : wE.cell? ⟨k, 8, none⟩ = some (.slice as' ns' cs') := R3.cell 8 _ rfl
          go_wp2_with fail
          refine (Clone_any wE ys (by have h1 := ys.len; have h2 := limbs_len_le (k := 96) (show nextC q L (0 : Int) < pw 96 from Nat.lt_of_le_of_lt (Nat.min_le_right _ _) most_pw); omega)).mono ?_
          rintro e2 wF ⟨ak, nk, ck, rfl, yk, hb⟩
          have R3 := R3.later hb
          have ys := ys.below hb
          have rb1 := rb1.below hb
          clear hb k8
          have fr9 := R3.free 9
          have k9 := R3.cell 9 _ rfl
          have R4 : PRow 66 wb (wF.setCell ⟨k, 9, none⟩ (.slice ak nk ck)) k (cmC (bumpC q (0 : Int)) as' ns' cs' ak nk ck) := R3.set 9 (.slice ak nk ck)
          have yk := rd_setcell (i := 9) yk R3.row (cm_noint _ _ _ _ _ _ _) (.slice ak nk ck)
          have yl := rd_setcell (i := 9) ys R3.row (cm_noint _ _ _ _ _ _ _) (.slice ak nk ck)
          go_wp2_with fail
          go_ret
          refine .inr ⟨_, _, _, _, _, _, e.out, rfl, R4, ?_, ?_⟩
          · rw [(show (stepC q (0 : Int)).lev = limbs (nextC q L (0 : Int)) by show limbs (nextC q (val q.lev) (0 : Int)) = _; rw [vld.out.lev, val_limbs])]; exact yl
          · rw [(show (stepC q (0 : Int)).best = limbs (nextC q L (0 : Int)) by show limbs (max (val q.best) (nextC q (val q.lev) (0 : Int))) = _; rw [vld.out.lev, vld.out.best, val_limbs, val_limbs, Nat.max_eq_right (Nat.le_of_lt (Nat.lt_of_not_le HB.out))])]; exact yk

end Go.Proofs.Ytmkcdlhhbnakiaa
