/- Observing the overstatement -1. -/
import Derived.Test.YtmkcdlhhbnakiaaCmpV
namespace Go.Proofs.Ytmkcdlhhbnakiaa
open Go.RowKit Go.Suf
set_option linter.unusedVariables false
set_option linter.unusedSimpArgs false

set_option maxRecDepth 100000 in
set_option maxHeartbeats 8000000 in
theorem see1_any (wb w : World) {q : CV} {a b : Option Addr} {n m c d k L B : Nat} (R : PRow 66 wb w k (cmC q a n c b m d)) (ra : Rd .u32 w a n c (limbs L)) (rb : Rd .u32 w b m d (limbs B)) (vld' : VldC q L B) :
    Calls Try.prog 42 #[.pointer (some ⟨k, 0, none⟩), .int .i64 (-1)] w (RetSee wb k q (-1)) := by
  have vld := Lib.hid vld'
  clear vld'
  have k0 := R.cell 0 _ rfl
  have k1 := R.cell 1 _ rfl
  have k2 := R.cell 2 _ rfl
  have k3 := R.cell 3 _ rfl
  have k4 := R.cell 4 _ rfl
  have k5 := R.cell 5 _ rfl
  have k6 := R.cell 6 _ rfl
  have k7 := R.cell 7 _ rfl
  have k8 := R.cell 8 _ rfl
  have k9 := R.cell 9 _ rfl
  have fr := R.free 4
  have HF := Lib.hid (show seenAtC q (-1 : Int) = q.s1 from rfl)
  have sv := vld.out.s1
  unfold inS at sv
  by_cases full : q.s1 = 1000000
  · have e := Lib.hid (show obs1C q (-1 : Int) = none from obs1C_out (.inr (.inr (by rw [HF.out]; omega))))
    have d2 : (q.s1 == 1000000) = true := beq_iff_eq.2 full
    clear full sv
    go_enter Try.func42, Try.ntmps42
    go_wp2_with fail
    have cc := within_any w (-1 : Int) (-2) 2
    rw [decide_eq_true (show (-2 : Int) ≤ (-1 : Int) ∧ (-1 : Int) ≤ 2 by decide)] at cc
    refine cc.mono ?_
    rintro e1 w9 ⟨rfl, hw⟩
    have hw := hw.symm
    subst hw
    clear cc
    go_wp2_with fail
    go_ret
    exact .inl ⟨e.out, rfl, R.below⟩
  have d2 : (q.s1 == 1000000) = false := beq_eq_false_iff_ne.2 full
  have e := Lib.hid (show obs1C q (-1 : Int) = some (stepC q (-1 : Int)) from obs1C_in (by rw [HF.out]; omega))
  have sv1 : q.s1 < 1000000 := by omega
  have sv0 : 0 ≤ q.s1 := by omega
  have wi : IntKind.i64.wrap (q.s1 + 1) = q.s1 + 1 := wrap_in (by omega) (by omega)
  clear full sv
  go_enter Try.func42, Try.ntmps42
  go_wp2_with fail
  have cc := within_any w (-1 : Int) (-2) 2
  rw [decide_eq_true (show (-2 : Int) ≤ (-1 : Int) ∧ (-1 : Int) ≤ 2 by decide)] at cc
  refine cc.mono ?_
  rintro e1 w9 ⟨rfl, hw⟩
  have hw := hw.symm
  subst hw
  clear cc
  go_upto_region 4 with fail
  refine wp_region_any (by kernel_rfl) ?_
  change wpAny _ _ _ _ _ _ _ (World.drew _)
  refine wpAny_take (i := 0) (oi := ?a29_0) (v := ?b29_0) ?c29_0 (by kernel_rfl) (by kernel_rfl) (by kernel_rfl) ?d29_0 ?e29_0 ?f29_0
  case c29_0 => simp only [tA, tS, tZ]; rfl
  case d29_0 => exact fun _ _ _ h => h
  case e29_0 => (refine Or.inl ⟨by rfl, ?_⟩; intro w; go_simp; all_goals with_reducible rfl)
  try simp only [Act.put, tI, tP, tQ]
  refine wpAny_take (i := 1) (oi := ?a29_1) (v := ?b29_1) ?c29_1 (by kernel_rfl) (by kernel_rfl) (by kernel_rfl) ?d29_1 ?e29_1 ?f29_1
  case c29_1 => simp only [tA, tS, tZ]; rfl
  case d29_1 => exact fun _ _ _ h => h
  case e29_1 => (refine Or.inl ⟨by rfl, ?_⟩; intro w; go_simp; all_goals with_reducible rfl)
  try simp only [Act.put, tI, tP, tQ]
  refine wpAny_take (i := 2) (oi := ?a29_2) (v := ?b29_2) ?c29_2 (by kernel_rfl) (by kernel_rfl) (by kernel_rfl) ?d29_2 ?e29_2 ?f29_2
  case c29_2 => simp only [tA, tS, tZ]; rfl
  case d29_2 => exact fun _ _ _ h => h
  case e29_2 => (refine Or.inl ⟨by rfl, ?_⟩; intro w; go_simp; all_goals with_reducible rfl)
  try simp only [Act.put, tI, tP, tQ]
  refine wpAny_take (i := 3) (oi := ?a29_3) (v := ?b29_3) ?c29_3 (by kernel_rfl) (by kernel_rfl) (by kernel_rfl) ?d29_3 ?e29_3 ?f29_3
  case c29_3 => simp only [tA, tS, tZ]; rfl
  case d29_3 => exact fun _ _ _ h => h
  case e29_3 => (refine Or.inl ⟨by rfl, ?_⟩; intro w; go_simp; all_goals with_reducible rfl)
  try simp only [Act.put, tI, tP, tQ]
  refine wpAny_take (i := 4) (oi := ?a29_4) (v := ?b29_4) ?c29_4 (by kernel_rfl) (by kernel_rfl) (by kernel_rfl) ?d29_4 ?e29_4 ?f29_4
  case c29_4 => simp only [tA, tS, tZ]; rfl
  case d29_4 => exact fun _ _ _ h => h
  case e29_4 => (refine Or.inl ⟨by rfl, ?_⟩; intro w; go_simp; all_goals with_reducible rfl)
  try simp only [Act.put, tI, tP, tQ]
  refine wpAny_take (i := 5) (oi := ?a29_5) (v := ?b29_5) ?c29_5 (by kernel_rfl) (by kernel_rfl) (by kernel_rfl) ?d29_5 ?e29_5 ?f29_5
  case c29_5 => simp only [tA, tS, tZ]; rfl
  case d29_5 => exact fun _ _ _ h => h
  case e29_5 => (refine Or.inl ⟨by rfl, ?_⟩; intro w; go_simp; all_goals with_reducible rfl)
  try simp only [Act.put, tI, tP, tQ]
  refine wpAny_take (i := 8) (oi := ?a29_8) (v := ?b29_8) ?c29_8 (by kernel_rfl) (by kernel_rfl) (by kernel_rfl) ?d29_8 ?e29_8 ?f29_8
  case c29_8 => simp only [tA, tS, tZ]; rfl
  case d29_8 => exact fun _ _ _ h => h
  case e29_8 => (refine Or.inl ⟨by rfl, ?_⟩; intro w; go_simp; all_goals with_reducible rfl)
  try simp only [Act.put, tI, tP, tQ]
  refine wpAny_take (i := 9) (oi := ?a29_9) (v := ?b29_9) ?c29_9 (by kernel_rfl) (by kernel_rfl) (by kernel_rfl) ?d29_9 ?e29_9 ?f29_9
  case c29_9 => simp only [tA, tS, tZ]; rfl
  case d29_9 => exact fun _ _ _ h => h
  case e29_9 => (refine Or.inl ⟨by rfl, ?_⟩; intro w; go_simp; all_goals with_reducible rfl)
  try simp only [Act.put, tI, tP, tQ]
  refine wpAny_take (i := 10) (oi := ?a29_10) (v := ?b29_10) ?c29_10 (by kernel_rfl) (by kernel_rfl) (by kernel_rfl) ?d29_10 ?e29_10 ?f29_10
  case c29_10 => simp only [tA, tS, tZ]; rfl
  case d29_10 => exact fun _ _ _ h => h
  case e29_10 => (refine Or.inl ⟨by rfl, ?_⟩; intro w; go_simp; all_goals with_reducible rfl)
  try simp only [Act.put, tI, tP, tQ]
  refine wpAny_ready (rs := [6]) (by kernel_rfl) (by simp) ?_
  refine (AllReady.cons (o := ?ob56_6) ?hob56_6 (fun K hK => ?kb56_6) AllReady.nil)
  case hob56_6 => simp only [List.getElem?_toArray, List.getElem?_cons_succ, List.getElem?_cons_zero]; rfl
  case kb56_6 =>
    go_simp
    refine hK _ _ ?_
    clear hK K
    try simp only [Act.put, List.setIfInBounds_toArray, List.set_cons_zero, List.set_cons_succ]
    refine wpAny_take (i := 7) (oi := ?a55_7) (v := ?b55_7) ?c55_7 (by kernel_rfl) (by kernel_rfl) (by kernel_rfl) ?d55_7 ?e55_7 ?f55_7
    case c55_7 => simp only [tA, tS, tZ]; rfl
    case d55_7 => exact fun _ _ _ h => h
    case e55_7 => (refine Or.inl ⟨by rfl, ?_⟩; intro w; go_simp; all_goals with_reducible rfl)
    try simp only [Act.put, tI, tP, tQ]
    refine wpAny_take (i := 11) (oi := ?a55_11) (v := ?b55_11) ?c55_11 (by kernel_rfl) (by kernel_rfl) (by kernel_rfl) ?d55_11 ?e55_11 ?f55_11
    case c55_11 => simp only [tA, tS, tZ]; rfl
    case d55_11 => exact fun _ _ _ h => h
    case e55_11 => (refine Or.inl ⟨by rfl, ?_⟩; intro w; go_simp; all_goals with_reducible rfl)
    try simp only [Act.put, tI, tP, tQ]
    refine wpAny_ready (rs := [12]) (by kernel_rfl) (by simp) ?_
    refine (AllReady.cons (o := ?ob54_12) ?hob54_12 (fun K hK => ?kb54_12) AllReady.nil)
    case hob54_12 => simp only [List.getElem?_toArray, List.getElem?_cons_succ, List.getElem?_cons_zero]; rfl
    case kb54_12 =>
      go_simp
      refine hK _ _ ?_
      clear hK K
      try simp only [Act.put, List.setIfInBounds_toArray, List.set_cons_zero, List.set_cons_succ]
      refine wpAny_done (by kernel_rfl) ?_ _
      have R0 : PRow 66 wb (w.setCell ⟨k, 4, none⟩ (.int .i64 (q.s1 + 1))) k (cmC (bumpC q (-1 : Int)) a n c b m d) := R.set 4 (.int .i64 (q.s1 + 1))
      have D0 := (Below.refl (w.setCell ⟨k, 4, none⟩ (.int .i64 (q.s1 + 1))).heap.size (w.setCell ⟨k, 4, none⟩ (.int .i64 (q.s1 + 1)))).drew
      have ra1 := (rd_setcell (i := 4) ra R.row (cm_noint _ _ _ _ _ _ _) (.int .i64 (q.s1 + 1))).below D0
      have rb1 := (rd_setcell (i := 4) rb R.row (cm_noint _ _ _ _ _ _ _) (.int .i64 (q.s1 + 1))).below D0
      have R1 := R0.later D0
      clear k0 k1 k2 k3 k4 k5 k6 k7 k8 k9 fr D0 R0 sv0 sv1 d2 wi
      generalize (w.setCell ⟨k, 4, none⟩ (.int .i64 (q.s1 + 1))).drew = w1 at *
      have k0 : w1.cell? ⟨k, 0, none⟩ = some (.int .i64 q.bet) := R1.cell 0 _ rfl
      have k1 : w1.cell? ⟨k, 1, none⟩ = some (.int .i64 q.ballots) := R1.cell 1 _ rfl
      have k2 : w1.cell? ⟨k, 2, none⟩ = some (.int .i64 q.margin) := R1.cell 2 _ rfl
      have k8 : w1.cell? ⟨k, 8, none⟩ = some (.slice a n c) := R1.cell 8 _ rfl
      have n1' : 1 ≤ q.ballots := vld.out.may.2.1.1
      have n2' : q.ballots ≤ 1000000 := vld.out.may.2.1.2
      have LP := Lib.hid vld.out.pw.1
      have LF := Lib.hid (show L * factC q (-1 : Int) < pw 96 from Nat.lt_of_lt_of_le (mul_lt_pw (show L < pw 5 from Nat.lt_of_le_of_lt (Nat.le_trans vld.out.le vld.out.hi) (by decide)) (show factC q (-1 : Int) < pw 2 from (fact_bd vld.out.may (by decide) (by decide)).1)) (pw_le (by decide)))
      go_upto_region 6 with fail
      have hb := (Below.refl w1.heap.size w1).drew
      have R1 := R1.later hb
      have ra1 := ra1.below hb
      have rb1 := rb1.below hb
      clear hb k0 k1 k2 k8
      refine wp_region_held_drew (S := (fun w' => w'.cell? ⟨k, 0, none⟩ = some (.int .i64 q.bet) ∧ w'.cell? ⟨k, 1, none⟩ = some (.int .i64 q.ballots) ∧ w'.cell? ⟨k, 2, none⟩ = some (.int .i64 q.margin) ∧ w'.cell? ⟨k, 8, none⟩ = some (.slice a n c))) (by kernel_rfl) ?_ (fun hHeld => ?_)
      · exact ⟨R1.cell 0 _ rfl, R1.cell 1 _ rfl, R1.cell 2 _ rfl, R1.cell 8 _ rfl⟩
      generalize w1.drew = w2 at *
      refine wpAnyH_take (i := 0) (oi := ?a30_0) (v := ?b30_0) ?c30_0 (by kernel_rfl) (by kernel_rfl) (by kernel_rfl) ?d30_0 ?e30_0 (by assumption) ?f30_0
      case c30_0 => simp only [tA, tS, tZ]; rfl
      case d30_0 => exact fun _ _ _ h => h
      case e30_0 => (refine Or.inl ⟨by rfl, ?_⟩; intro w h; (try dsimp only at h); go_simp; all_goals with_reducible rfl)
      try simp only [Act.put, tI, tP, tQ]
      refine wpAnyH_take (i := 1) (oi := ?a30_1) (v := ?b30_1) ?c30_1 (by kernel_rfl) (by kernel_rfl) (by kernel_rfl) ?d30_1 ?e30_1 (by assumption) ?f30_1
      case c30_1 => simp only [tA, tS, tZ]; rfl
      case d30_1 => exact fun _ _ _ h => h
      case e30_1 => (refine Or.inl ⟨by rfl, ?_⟩; intro w h; (try dsimp only at h); go_simp; all_goals with_reducible rfl)
      try simp only [Act.put, tI, tP, tQ]
      refine wpAnyH_take (i := 2) (oi := ?a30_2) (v := ?b30_2) ?c30_2 (by kernel_rfl) (by kernel_rfl) (by kernel_rfl) ?d30_2 ?e30_2 (by assumption) ?f30_2
      case c30_2 => simp only [tA, tS, tZ]; rfl
      case d30_2 => exact fun _ _ _ h => h
      case e30_2 => (refine Or.inl ⟨by rfl, ?_⟩; intro w h; (try dsimp only at h); go_simp; all_goals with_reducible rfl)
      try simp only [Act.put, tI, tP, tQ]
      refine wpAnyH_take (i := 3) (oi := ?a30_3) (v := ?b30_3) ?c30_3 (by kernel_rfl) (by kernel_rfl) (by kernel_rfl) ?d30_3 ?e30_3 (by assumption) ?f30_3
      case c30_3 => simp only [tA, tS, tZ]; rfl
      case d30_3 => exact fun _ _ _ h => h
      case e30_3 => (refine Or.inl ⟨by rfl, ?_⟩; intro w h; (try dsimp only at h); go_simp; all_goals with_reducible rfl)
      try simp only [Act.put, tI, tP, tQ]
      refine wpAnyH_take (i := 4) (oi := ?a30_4) (v := ?b30_4) ?c30_4 (by kernel_rfl) (by kernel_rfl) (by kernel_rfl) ?d30_4 ?e30_4 (by assumption) ?f30_4
      case c30_4 => simp only [tA, tS, tZ]; rfl
      case d30_4 => exact fun _ _ _ h => h
      case e30_4 => (refine Or.inl ⟨by rfl, ?_⟩; intro w h; (try dsimp only at h); go_simp; all_goals with_reducible rfl)
      try simp only [Act.put, tI, tP, tQ]
      refine wpAnyH_take (i := 5) (oi := ?a30_5) (v := ?b30_5) ?c30_5 (by kernel_rfl) (by kernel_rfl) (by kernel_rfl) ?d30_5 ?e30_5 (by assumption) ?f30_5
      case c30_5 => simp only [tA, tS, tZ]; rfl
      case d30_5 => exact fun _ _ _ h => h
      case e30_5 => (refine Or.inl ⟨by rfl, ?_⟩; intro w h; (try dsimp only at h); go_simp; all_goals with_reducible rfl)
      try simp only [Act.put, tI, tP, tQ]
      refine wpAnyH_take (i := 6) (oi := ?a30_6) (v := ?b30_6) ?c30_6 (by kernel_rfl) (by kernel_rfl) (by kernel_rfl) ?d30_6 ?e30_6 (by assumption) ?f30_6
      case c30_6 => simp only [tA, tS, tZ]; rfl
      case d30_6 => exact fun _ _ _ h => h
      case e30_6 => (refine Or.inl ⟨by rfl, ?_⟩; intro w h; (try dsimp only at h); go_simp; all_goals with_reducible rfl)
      try simp only [Act.put, tI, tP, tQ]
      refine wpAnyH_take (i := 7) (oi := ?a30_7) (v := ?b30_7) ?c30_7 (by kernel_rfl) (by kernel_rfl) (by kernel_rfl) ?d30_7 ?e30_7 (by assumption) ?f30_7
      case c30_7 => simp only [tA, tS, tZ]; rfl
      case d30_7 => exact fun _ _ _ h => h
      case e30_7 => (refine Or.inl ⟨by rfl, ?_⟩; intro w h; (try dsimp only at h); go_simp; all_goals with_reducible rfl)
      try simp only [Act.put, tI, tP, tQ]
      refine wpAnyH_take (i := 8) (oi := ?a30_8) (v := ?b30_8) ?c30_8 (by kernel_rfl) (by kernel_rfl) (by kernel_rfl) ?d30_8 ?e30_8 (by assumption) ?f30_8
      case c30_8 => simp only [tA, tS, tZ]; rfl
      case d30_8 => exact fun _ _ _ h => h
      case e30_8 => (refine Or.inl ⟨by rfl, ?_⟩; intro w h; (try dsimp only at h); go_simp; all_goals with_reducible rfl)
      try simp only [Act.put, tI, tP, tQ]
      refine wpAnyH_take (i := 9) (oi := ?a30_9) (v := ?b30_9) ?c30_9 (by kernel_rfl) (by kernel_rfl) (by kernel_rfl) ?d30_9 ?e30_9 (by assumption) ?f30_9
      case c30_9 => simp only [tA, tS, tZ]; rfl
      case d30_9 => exact fun _ _ _ h => h
      case e30_9 => (refine Or.inl ⟨by rfl, ?_⟩; intro w h; (try dsimp only at h); go_simp; all_goals with_reducible rfl)
      try simp only [Act.put, tI, tP, tQ]
      refine wpAnyH_take (i := 10) (oi := ?a30_10) (v := ?b30_10) ?c30_10 (by kernel_rfl) (by kernel_rfl) (by kernel_rfl) ?d30_10 ?e30_10 (by assumption) ?f30_10
      case c30_10 => simp only [tA, tS, tZ]; rfl
      case d30_10 => exact fun _ _ _ h => h
      case e30_10 => (refine Or.inl ⟨by rfl, ?_⟩; intro w h; (try dsimp only at h); go_simp; all_goals with_reducible rfl)
      try simp only [Act.put, tI, tP, tQ]
      refine wpAnyH_take (i := 11) (oi := ?a30_11) (v := ?b30_11) ?c30_11 (by kernel_rfl) (by kernel_rfl) (by kernel_rfl) ?d30_11 ?e30_11 (by assumption) ?f30_11
      case c30_11 => simp only [tA, tS, tZ]; rfl
      case d30_11 => exact fun _ _ _ h => h
      case e30_11 => (refine Or.inl ⟨by rfl, ?_⟩; intro w h; (try dsimp only at h); go_simp; all_goals with_reducible rfl)
      try simp only [Act.put, tI, tP, tQ]
      refine wpAnyH_take (i := 12) (oi := ?a30_12) (v := ?b30_12) ?c30_12 (by kernel_rfl) (by kernel_rfl) (by kernel_rfl) ?d30_12 ?e30_12 (by assumption) ?f30_12
      case c30_12 => simp only [tA, tS, tZ]; rfl
      case d30_12 => exact fun _ _ _ h => h
      case e30_12 => (refine Or.inl ⟨by rfl, ?_⟩; intro w h; (try dsimp only at h); go_simp; all_goals with_reducible rfl)
      try simp only [Act.put, tI, tP, tQ]
      refine wpAnyH_take (i := 13) (oi := ?a30_13) (v := ?b30_13) ?c30_13 (by kernel_rfl) (by kernel_rfl) (by kernel_rfl) ?d30_13 ?e30_13 (by assumption) ?f30_13
      case c30_13 => simp only [tA, tS, tZ]; rfl
      case d30_13 => exact fun _ _ _ h => h
      case e30_13 => (refine Or.inl ⟨by rfl, ?_⟩; intro w h; (try dsimp only at h); go_simp; all_goals with_reducible rfl)
      try simp only [Act.put, tI, tP, tQ]
      refine wpAnyH_take (i := 14) (oi := ?a30_14) (v := ?b30_14) ?c30_14 (by kernel_rfl) (by kernel_rfl) (by kernel_rfl) ?d30_14 ?e30_14 (by assumption) ?f30_14
      case c30_14 => simp only [tA, tS, tZ]; rfl
      case d30_14 => exact fun _ _ _ h => h
      case e30_14 => (refine Or.inl ⟨by rfl, ?_⟩; intro w h; (try dsimp only at h); go_simp; all_goals with_reducible rfl)
      try simp only [Act.put, tI, tP, tQ]
      refine wpAnyH_take (i := 15) (oi := ?a30_15) (v := ?b30_15) ?c30_15 (by kernel_rfl) (by kernel_rfl) (by kernel_rfl) ?d30_15 ?e30_15 (by assumption) ?f30_15
      case c30_15 => simp only [tA, tS, tZ]; rfl
      case d30_15 => exact fun _ _ _ h => h
      case e30_15 => (refine Or.inl ⟨by rfl, ?_⟩; intro w h; (try dsimp only at h); go_simp; all_goals with_reducible rfl)
      try simp only [Act.put, tI, tP, tQ]
      refine wpAnyH_take (i := 16) (oi := ?a30_16) (v := ?b30_16) ?c30_16 (by kernel_rfl) (by kernel_rfl) (by kernel_rfl) ?d30_16 ?e30_16 (by assumption) ?f30_16
      case c30_16 => simp only [tA, tS, tZ]; rfl
      case d30_16 => exact fun _ _ _ h => h
      case e30_16 => (refine Or.inl ⟨by rfl, ?_⟩; intro w h; (try dsimp only at h); go_simp; all_goals with_reducible rfl)
      try simp only [Act.put, tI, tP, tQ]
      refine wpAnyH_take (i := 17) (oi := ?a30_17) (v := ?b30_17) ?c30_17 (by kernel_rfl) (by kernel_rfl) (by kernel_rfl) ?d30_17 ?e30_17 (by assumption) ?f30_17
      case c30_17 => simp only [tA, tS, tZ]; rfl
      case d30_17 => exact fun _ _ _ h => h
      case e30_17 => (refine Or.inl ⟨by rfl, ?_⟩; intro w h; (try dsimp only at h); go_simp; all_goals with_reducible rfl)
      try simp only [Act.put, tI, tP, tQ]
      refine wpAnyH_take (i := 18) (oi := ?a30_18) (v := ?b30_18) ?c30_18 (by kernel_rfl) (by kernel_rfl) (by kernel_rfl) ?d30_18 ?e30_18 (by assumption) ?f30_18
      case c30_18 => simp only [tA, tS, tZ]; rfl
      case d30_18 => exact fun _ _ _ h => h
      case e30_18 => (refine Or.inl ⟨by rfl, ?_⟩; intro w h; (try dsimp only at h); go_simp; all_goals with_reducible rfl)
      try simp only [Act.put, tI, tP, tQ]
      refine wpAnyH_take (i := 19) (oi := ?a30_19) (v := ?b30_19) ?c30_19 (by kernel_rfl) (by kernel_rfl) (by kernel_rfl) ?d30_19 ?e30_19 (by assumption) ?f30_19
      case c30_19 => simp only [tA, tS, tZ]; rfl
      case d30_19 => exact fun _ _ _ h => h
      case e30_19 => (refine Or.inl ⟨by rfl, ?_⟩; intro w h; (try dsimp only at h); go_simp; all_goals with_reducible rfl)
      try simp only [Act.put, tI, tP, tQ]
      refine wpAnyH_take (i := 20) (oi := ?a30_20) (v := ?b30_20) ?c30_20 (by kernel_rfl) (by kernel_rfl) (by kernel_rfl) ?d30_20 ?e30_20 (by assumption) ?f30_20
      case c30_20 => simp only [tA, tS, tZ]; rfl
      case d30_20 => exact fun _ _ _ h => h
      case e30_20 => (refine Or.inl ⟨by rfl, ?_⟩; intro w h; (try dsimp only at h); go_simp; all_goals with_reducible rfl)
      try simp only [Act.put, tI, tP, tQ]
      refine wpAnyH_take (i := 21) (oi := ?a30_21) (v := ?b30_21) ?c30_21 (by kernel_rfl) (by kernel_rfl) (by kernel_rfl) ?d30_21 ?e30_21 (by assumption) ?f30_21
      case c30_21 => simp only [tA, tS, tZ]; rfl
      case d30_21 => exact fun _ _ _ h => h
      case e30_21 => (refine Or.inl ⟨by rfl, ?_⟩; intro w h; (try dsimp only at h); go_simp; all_goals with_reducible rfl)
      try simp only [Act.put, tI, tP, tQ]
      refine wpAnyH_take (i := 22) (oi := ?a30_22) (v := ?b30_22) ?c30_22 (by kernel_rfl) (by kernel_rfl) (by kernel_rfl) ?d30_22 ?e30_22 (by assumption) ?f30_22
      case c30_22 => simp only [tA, tS, tZ]; rfl
      case d30_22 => exact fun _ _ _ h => h
      case e30_22 => (refine Or.inl ⟨by rfl, ?_⟩; intro w h; (try dsimp only at h); go_simp; all_goals with_reducible rfl)
      try simp only [Act.put, tI, tP, tQ]
      refine wpAnyH_take (i := 23) (oi := ?a30_23) (v := ?b30_23) ?c30_23 (by kernel_rfl) (by kernel_rfl) (by kernel_rfl) ?d30_23 ?e30_23 (by assumption) ?f30_23
      case c30_23 => simp only [tA, tS, tZ]; rfl
      case d30_23 => exact fun _ _ _ h => h
      case e30_23 => (refine Or.inl ⟨by rfl, ?_⟩; intro w h; (try dsimp only at h); go_simp; all_goals with_reducible rfl)
      try simp only [Act.put, tI, tP, tQ]
      refine wpAnyH_take (i := 24) (oi := ?a30_24) (v := ?b30_24) ?c30_24 (by kernel_rfl) (by kernel_rfl) (by kernel_rfl) ?d30_24 ?e30_24 (by assumption) ?f30_24
      case c30_24 => simp only [tA, tS, tZ]; rfl
      case d30_24 => exact fun _ _ _ h => h
      case e30_24 => (refine Or.inl ⟨by rfl, ?_⟩; intro w h; (try dsimp only at h); go_simp; all_goals with_reducible rfl)
      try simp only [Act.put, tI, tP, tQ]
      refine wpAnyH_take (i := 25) (oi := ?a30_25) (v := ?b30_25) ?c30_25 (by kernel_rfl) (by kernel_rfl) (by kernel_rfl) ?d30_25 ?e30_25 (by assumption) ?f30_25
      case c30_25 => simp only [tA, tS, tZ]; rfl
      case d30_25 => exact fun _ _ _ h => h
      case e30_25 => (refine Or.inl ⟨by rfl, ?_⟩; intro w h; (try dsimp only at h); go_simp; all_goals with_reducible rfl)
      try simp only [Act.put, tI, tP, tQ]
      refine wpAnyH_take (i := 26) (oi := ?a30_26) (v := ?b30_26) ?c30_26 (by kernel_rfl) (by kernel_rfl) (by kernel_rfl) ?d30_26 ?e30_26 (by assumption) ?f30_26
      case c30_26 => simp only [tA, tS, tZ]; rfl
      case d30_26 => exact fun _ _ _ h => h
      case e30_26 => (refine Or.inl ⟨by rfl, ?_⟩; intro w h; (try dsimp only at h); go_simp; all_goals with_reducible rfl)
      try simp only [Act.put, tI, tP, tQ]
      have SF := see_fact vld.out.may (x := (-1 : Int)) (Y := -q.ballots) (by decide) (by decide) (by omega)
      rw [SF]
      clear SF
      refine wpAnyH_ready (rs := [27]) (by kernel_rfl) (by simp) ?_
      refine AllReadyH.cons (o := ?or31_27) ?hor31_27 (fun K hK => ?kr31_27) AllReadyH.nil
      case hor31_27 => simp only [List.getElem?_toArray, List.getElem?_cons_succ, List.getElem?_cons_zero]; rfl
      go_simp
      refine (Of_any w2 (factC q (-1 : Int)) (fact_bd vld.out.may (by decide) (by decide)).1).mono ?_
      rintro e2 w3 ⟨af, nf, cf, rfl, yf, hb⟩
      have R1 := R1.later hb
      have ra1 := ra1.below hb
      have rb1 := rb1.below hb
      clear hb
      go_wp2_with fail
      refine hK.out _ _ ?_ (fun hHeld => ?_)
      · exact ⟨R1.cell 0 _ rfl, R1.cell 1 _ rfl, R1.cell 2 _ rfl, R1.cell 8 _ rfl⟩
      clear hK K
      try simp only [Act.put, List.setIfInBounds_toArray, List.set_cons_zero, List.set_cons_succ]
      refine wpAnyH_ready (rs := [28]) (by kernel_rfl) (by simp) ?_
      refine AllReadyH.cons (o := ?or32_28) ?hor32_28 (fun K hK => ?kr32_28) AllReadyH.nil
      case hor32_28 => simp only [List.getElem?_toArray, List.getElem?_cons_succ, List.getElem?_cons_zero]; rfl
      go_simp
      have cc := Mul_any w3 ra1 yf
      rw [mul_ok LP.out (Nat.lt_of_lt_of_le (show factC q (-1 : Int) < pw 2 from (fact_bd vld.out.may (by decide) (by decide)).1) (pw_le (by decide))) LF.out] at cc
      refine cc.mono ?_
      rintro e2 w4 ⟨ax, nx, cx, rfl, yx, hb⟩
      clear cc
      have R1 := R1.later hb
      have ra1 := ra1.below hb
      have rb1 := rb1.below hb
      clear hb yf
      go_wp2_with fail
      refine hK.out _ _ ?_ (fun hHeld => ?_)
      · exact ⟨R1.cell 0 _ rfl, R1.cell 1 _ rfl, R1.cell 2 _ rfl, R1.cell 8 _ rfl⟩
      clear hK K
      try simp only [Act.put, List.setIfInBounds_toArray, List.set_cons_zero, List.set_cons_succ]
      refine wpAnyH_take (i := 29) (oi := ?a33_29) (v := ?b33_29) ?c33_29 (by kernel_rfl) (by kernel_rfl) (by kernel_rfl) ?d33_29 ?e33_29 (by assumption) ?f33_29
      case c33_29 => simp only [tA, tS, tZ]; rfl
      case d33_29 => exact fun _ _ _ h => h
      case e33_29 => (refine Or.inl ⟨by rfl, ?_⟩; intro w h; (try dsimp only at h); go_simp; all_goals with_reducible rfl)
      try simp only [Act.put, tI, tP, tQ]
      refine wpAnyH_take (i := 30) (oi := ?a33_30) (v := ?b33_30) ?c33_30 (by kernel_rfl) (by kernel_rfl) (by kernel_rfl) ?d33_30 ?e33_30 (by assumption) ?f33_30
      case c33_30 => simp only [tA, tS, tZ]; rfl
      case d33_30 => exact fun _ _ _ h => h
      case e33_30 => (refine Or.inl ⟨by rfl, ?_⟩; intro w h; (try dsimp only at h); go_simp; all_goals with_reducible rfl)
      try simp only [Act.put, tI, tP, tQ]
      refine wpAnyH_take (i := 31) (oi := ?a33_31) (v := ?b33_31) ?c33_31 (by kernel_rfl) (by kernel_rfl) (by kernel_rfl) ?d33_31 ?e33_31 (by assumption) ?f33_31
      case c33_31 => simp only [tA, tS, tZ]; rfl
      case d33_31 => exact fun _ _ _ h => h
      case e33_31 => (refine Or.inl ⟨by rfl, ?_⟩; intro w h; (try dsimp only at h); go_simp; all_goals with_reducible rfl)
      try simp only [Act.put, tI, tP, tQ]
      refine wpAnyH_take (i := 32) (oi := ?a33_32) (v := ?b33_32) ?c33_32 (by kernel_rfl) (by kernel_rfl) (by kernel_rfl) ?d33_32 ?e33_32 (by assumption) ?f33_32
      case c33_32 => simp only [tA, tS, tZ]; rfl
      case d33_32 => exact fun _ _ _ h => h
      case e33_32 => (refine Or.inl ⟨by rfl, ?_⟩; intro w h; (try dsimp only at h); go_simp; all_goals with_reducible rfl)
      try simp only [Act.put, tI, tP, tQ]
      refine wpAnyH_take (i := 33) (oi := ?a33_33) (v := ?b33_33) ?c33_33 (by kernel_rfl) (by kernel_rfl) (by kernel_rfl) ?d33_33 ?e33_33 (by assumption) ?f33_33
      case c33_33 => simp only [tA, tS, tZ]; rfl
      case d33_33 => exact fun _ _ _ h => h
      case e33_33 => (refine Or.inl ⟨by rfl, ?_⟩; intro w h; (try dsimp only at h); go_simp; all_goals with_reducible rfl)
      try simp only [Act.put, tI, tP, tQ]
      refine wpAnyH_done (by kernel_rfl) ?_ _
      clear hHeld
      have cW := see_whole vld.out.may
      go_wp2_with fail
      refine (Of_any w4 (wholeC q) (fact_bd vld.out.may (x := 0) (by decide) (by decide)).2).mono ?_
      rintro e2 w5 ⟨ay, ny, cy, rfl, yy, hb⟩
      have R1 := R1.later hb
      have ra1 := ra1.below hb
      have rb1 := rb1.below hb
      have yx := yx.below hb
      clear hb
      go_wp2_with fail
      have cc := Div_any w5 yx yy
      rw [div_ok LF.out (Nat.lt_of_lt_of_le (show wholeC q < pw 2 from (fact_bd vld.out.may (x := 0) (by decide) (by decide)).2) (pw_le (by decide))) (fact_whole vld.out.may).2] at cc
      refine cc.mono ?_
      rintro e2 w6 ⟨az, nz, cz, ar, nr, cr, rfl, yz, -, hb⟩
      clear cc
      have R1 := R1.later hb
      have ra1 := ra1.below hb
      have rb1 := rb1.below hb
      clear hb yx yy
      have fr8 := R1.free 8
      have k8 := R1.cell 8 _ rfl
      have R2 : PRow 66 wb (w6.setCell ⟨k, 8, none⟩ (.slice az nz cz)) k (cmC (bumpC q (-1 : Int)) az nz cz b m d) := R1.set 8 (.slice az nz cz)
      have yz := rd_setcell (i := 8) yz R1.row (cm_noint _ _ _ _ _ _ _) (.slice az nz cz)
      have rb1 := rd_setcell (i := 8) rb1 R1.row (cm_noint _ _ _ _ _ _ _) (.slice az nz cz)
      clear ra1 R1
      go_upto_region 8 with fail
      clear fr8 k8 cW n1' n2'
      generalize w6.setCell ⟨k, 8, none⟩ (.slice az nz cz) = w7 at *
      by_cases hD : (L * factC q (-1 : Int) / wholeC q) ≤ mostN
      · have NX := Lib.hid (show nextC q L (-1 : Int) = (L * factC q (-1 : Int) / wholeC q) by unfold nextC timesN; exact Nat.min_eq_left hD)
        have DL := Lib.hid (show leC (limbs (L * factC q (-1 : Int) / wholeC q)) [0, 0, 0, 0, 1] = true by rw [← most_limbs, leC_ok (Nat.lt_of_le_of_lt hD most_pw) most_pw]; exact decide_eq_true hD)
        clear hD
        have hb := (Below.refl w7.heap.size w7).drew
        have R2 := R2.later hb
        have yz := yz.below hb
        have rb1 := rb1.below hb
        clear hb
        refine wp_region_held_drew (S := (fun w' => w'.cell? ⟨k, 8, none⟩ = some (.slice az nz cz) ∧ True)) (by kernel_rfl) ?_ (fun hHeld => ?_)
        · exact ⟨R2.cell 8 _ rfl, trivial⟩
        generalize w7.drew = w8 at *
        refine wpAnyH_take (i := 0) (oi := ?a34_0) (v := ?b34_0) ?c34_0 (by kernel_rfl) (by kernel_rfl) (by kernel_rfl) ?d34_0 ?e34_0 (by assumption) ?f34_0
        case c34_0 => simp only [tA, tS, tZ]; rfl
        case d34_0 => exact fun _ _ _ h => h
        case e34_0 => (refine Or.inl ⟨by rfl, ?_⟩; intro w h; (try dsimp only at h); go_simp; all_goals with_reducible rfl)
        try simp only [Act.put, tI, tP, tQ]
        refine wpAnyH_take (i := 1) (oi := ?a34_1) (v := ?b34_1) ?c34_1 (by kernel_rfl) (by kernel_rfl) (by kernel_rfl) ?d34_1 ?e34_1 (by assumption) ?f34_1
        case c34_1 => simp only [tA, tS, tZ]; rfl
        case d34_1 => exact fun _ _ _ h => h
        case e34_1 => (refine Or.inl ⟨by rfl, ?_⟩; intro w h; (try dsimp only at h); go_simp; all_goals with_reducible rfl)
        try simp only [Act.put, tI, tP, tQ]
        refine wpAnyH_take (i := 2) (oi := ?a34_2) (v := ?b34_2) ?c34_2 (by kernel_rfl) (by kernel_rfl) (by kernel_rfl) ?d34_2 ?e34_2 (by assumption) ?f34_2
        case c34_2 => simp only [tA, tS, tZ]; rfl
        case d34_2 => exact fun _ _ _ h => h
        case e34_2 => (refine Or.inl ⟨by rfl, ?_⟩; intro w h; (try dsimp only at h); go_simp; all_goals with_reducible rfl)
        try simp only [Act.put, tI, tP, tQ]
        refine wpAnyH_take (i := 3) (oi := ?a34_3) (v := ?b34_3) ?c34_3 (by kernel_rfl) (by kernel_rfl) (by kernel_rfl) ?d34_3 ?e34_3 (by assumption) ?f34_3
        case c34_3 => simp only [tA, tS, tZ]; rfl
        case d34_3 => exact fun _ _ _ h => h
        case e34_3 => (refine Or.inl ⟨by rfl, ?_⟩; intro w h; (try dsimp only at h); go_simp; all_goals with_reducible rfl)
        try simp only [Act.put, tI, tP, tQ]
        refine wpAnyH_take (i := 4) (oi := ?a34_4) (v := ?b34_4) ?c34_4 (by kernel_rfl) (by kernel_rfl) (by kernel_rfl) ?d34_4 ?e34_4 (by assumption) ?f34_4
        case c34_4 => simp only [tA, tS, tZ]; rfl
        case d34_4 => exact fun _ _ _ h => h
        case e34_4 => (refine Or.inl ⟨by rfl, ?_⟩; intro w h; (try dsimp only at h); go_simp; all_goals with_reducible rfl)
        try simp only [Act.put, tI, tP, tQ]
        refine wpAnyH_ready (rs := [5]) (by kernel_rfl) (by simp) ?_
        refine AllReadyH.cons (o := ?or35_5) ?hor35_5 (fun K hK => ?kr35_5) AllReadyH.nil
        case hor35_5 => simp only [List.getElem?_toArray, List.getElem?_cons_succ, List.getElem?_cons_zero]; rfl
        go_simp
        refine (cmMost_any w8).mono ?_
        rintro e2 w9 ⟨am, nm, cm, rfl, ym, hb⟩
        have R2 := R2.later hb
        have yz := yz.below hb
        have rb1 := rb1.below hb
        clear hb
        go_wp2_with fail
        refine hK.out _ _ ?_ (fun hHeld => ?_)
        · exact ⟨R2.cell 8 _ rfl, trivial⟩
        clear hK K
        try simp only [Act.put, List.setIfInBounds_toArray, List.set_cons_zero, List.set_cons_succ]
        refine wpAnyH_ready (rs := [6]) (by kernel_rfl) (by simp) ?_
        refine AllReadyH.cons (o := ?or36_6) ?hor36_6 (fun K hK => ?kr36_6) AllReadyH.nil
        case hor36_6 => simp only [List.getElem?_toArray, List.getElem?_cons_succ, List.getElem?_cons_zero]; rfl
        go_simp
        have cc := cmAtMost_any w9 yz ym
        rw [DL.out] at cc
        refine cc.mono ?_
        rintro e2 wA ⟨rfl, hb⟩
        clear cc
        have R2 := R2.later hb
        have yz := yz.below hb
        have rb1 := rb1.below hb
        clear hb ym
        go_wp2_with fail
        refine hK.out _ _ ?_ (fun hHeld => ?_)
        · exact ⟨R2.cell 8 _ rfl, trivial⟩
        clear hK K
        try simp only [Act.put, List.setIfInBounds_toArray, List.set_cons_zero, List.set_cons_succ]
        refine wpAnyH_take (i := 7) (oi := ?a37_7) (v := ?b37_7) ?c37_7 (by kernel_rfl) (by kernel_rfl) (by kernel_rfl) ?d37_7 ?e37_7 (by assumption) ?f37_7
        case c37_7 => simp only [tA, tS, tZ]; rfl
        case d37_7 => exact fun _ _ _ h => h
        case e37_7 => (refine Or.inl ⟨by rfl, ?_⟩; intro w h; (try dsimp only at h); go_simp; all_goals with_reducible rfl)
        try simp only [Act.put, tI, tP, tQ]
        refine wpAnyH_done (by kernel_rfl) ?_ _
        clear hHeld
        rw [← NX.out] at yz
        by_cases hB : nextC q L (-1 : Int) ≤ B
        · have BL := Lib.hid (show leC (limbs (nextC q L (-1 : Int))) (limbs B) = true by rw [leC_ok nextC_lt vld.out.pw.2]; exact decide_eq_true hB)
          have HB := Lib.hid hB
          clear hB
          go_upto_region 10 with fail
          have hb := (Below.refl wA.heap.size wA).drew
          have R2 := R2.later hb
          have yz := yz.below hb
          have rb1 := rb1.below hb
          clear hb
          refine wp_region_held_drew (S := (fun w' => w'.cell? ⟨k, 8, none⟩ = some (.slice az nz cz) ∧ w'.cell? ⟨k, 9, none⟩ = some (.slice b m d))) (by kernel_rfl) ?_ (fun hHeld => ?_)
          · exact ⟨R2.cell 8 _ rfl, R2.cell 9 _ rfl⟩
          generalize wA.drew = wD at *
          refine wpAnyH_take (i := 0) (oi := ?a38_0) (v := ?b38_0) ?c38_0 (by kernel_rfl) (by kernel_rfl) (by kernel_rfl) ?d38_0 ?e38_0 (by assumption) ?f38_0
          case c38_0 => simp only [tA, tS, tZ]; rfl
          case d38_0 => exact fun _ _ _ h => h
          case e38_0 => (refine Or.inl ⟨by rfl, ?_⟩; intro w h; (try dsimp only at h); go_simp; all_goals with_reducible rfl)
          try simp only [Act.put, tI, tP, tQ]
          refine wpAnyH_take (i := 1) (oi := ?a38_1) (v := ?b38_1) ?c38_1 (by kernel_rfl) (by kernel_rfl) (by kernel_rfl) ?d38_1 ?e38_1 (by assumption) ?f38_1
          case c38_1 => simp only [tA, tS, tZ]; rfl
          case d38_1 => exact fun _ _ _ h => h
          case e38_1 => (refine Or.inl ⟨by rfl, ?_⟩; intro w h; (try dsimp only at h); go_simp; all_goals with_reducible rfl)
          try simp only [Act.put, tI, tP, tQ]
          refine wpAnyH_take (i := 2) (oi := ?a38_2) (v := ?b38_2) ?c38_2 (by kernel_rfl) (by kernel_rfl) (by kernel_rfl) ?d38_2 ?e38_2 (by assumption) ?f38_2
          case c38_2 => simp only [tA, tS, tZ]; rfl
          case d38_2 => exact fun _ _ _ h => h
          case e38_2 => (refine Or.inl ⟨by rfl, ?_⟩; intro w h; (try dsimp only at h); go_simp; all_goals with_reducible rfl)
          try simp only [Act.put, tI, tP, tQ]
          refine wpAnyH_take (i := 3) (oi := ?a38_3) (v := ?b38_3) ?c38_3 (by kernel_rfl) (by kernel_rfl) (by kernel_rfl) ?d38_3 ?e38_3 (by assumption) ?f38_3
          case c38_3 => simp only [tA, tS, tZ]; rfl
          case d38_3 => exact fun _ _ _ h => h
          case e38_3 => (refine Or.inl ⟨by rfl, ?_⟩; intro w h; (try dsimp only at h); go_simp; all_goals with_reducible rfl)
          try simp only [Act.put, tI, tP, tQ]
          refine wpAnyH_take (i := 4) (oi := ?a38_4) (v := ?b38_4) ?c38_4 (by kernel_rfl) (by kernel_rfl) (by kernel_rfl) ?d38_4 ?e38_4 (by assumption) ?f38_4
          case c38_4 => simp only [tA, tS, tZ]; rfl
          case d38_4 => exact fun _ _ _ h => h
          case e38_4 => (refine Or.inl ⟨by rfl, ?_⟩; intro w h; (try dsimp only at h); go_simp; all_goals with_reducible rfl)
          try simp only [Act.put, tI, tP, tQ]
          refine wpAnyH_take (i := 5) (oi := ?a38_5) (v := ?b38_5) ?c38_5 (by kernel_rfl) (by kernel_rfl) (by kernel_rfl) ?d38_5 ?e38_5 (by assumption) ?f38_5
          case c38_5 => simp only [tA, tS, tZ]; rfl
          case d38_5 => exact fun _ _ _ h => h
          case e38_5 => (refine Or.inl ⟨by rfl, ?_⟩; intro w h; (try dsimp only at h); go_simp; all_goals with_reducible rfl)
          try simp only [Act.put, tI, tP, tQ]
          refine wpAnyH_take (i := 6) (oi := ?a38_6) (v := ?b38_6) ?c38_6 (by kernel_rfl) (by kernel_rfl) (by kernel_rfl) ?d38_6 ?e38_6 (by assumption) ?f38_6
          case c38_6 => simp only [tA, tS, tZ]; rfl
          case d38_6 => exact fun _ _ _ h => h
          case e38_6 => (refine Or.inl ⟨by rfl, ?_⟩; intro w h; (try dsimp only at h); go_simp; all_goals with_reducible rfl)
          try simp only [Act.put, tI, tP, tQ]
          refine wpAnyH_take (i := 7) (oi := ?a38_7) (v := ?b38_7) ?c38_7 (by kernel_rfl) (by kernel_rfl) (by kernel_rfl) ?d38_7 ?e38_7 (by assumption) ?f38_7
          case c38_7 => simp only [tA, tS, tZ]; rfl
          case d38_7 => exact fun _ _ _ h => h
          case e38_7 => (refine Or.inl ⟨by rfl, ?_⟩; intro w h; (try dsimp only at h); go_simp; all_goals with_reducible rfl)
          try simp only [Act.put, tI, tP, tQ]
          refine wpAnyH_take (i := 8) (oi := ?a38_8) (v := ?b38_8) ?c38_8 (by kernel_rfl) (by kernel_rfl) (by kernel_rfl) ?d38_8 ?e38_8 (by assumption) ?f38_8
          case c38_8 => simp only [tA, tS, tZ]; rfl
          case d38_8 => exact fun _ _ _ h => h
          case e38_8 => (refine Or.inl ⟨by rfl, ?_⟩; intro w h; (try dsimp only at h); go_simp; all_goals with_reducible rfl)
          try simp only [Act.put, tI, tP, tQ]
          refine wpAnyH_take (i := 9) (oi := ?a38_9) (v := ?b38_9) ?c38_9 (by kernel_rfl) (by kernel_rfl) (by kernel_rfl) ?d38_9 ?e38_9 (by assumption) ?f38_9
          case c38_9 => simp only [tA, tS, tZ]; rfl
          case d38_9 => exact fun _ _ _ h => h
          case e38_9 => (refine Or.inl ⟨by rfl, ?_⟩; intro w h; (try dsimp only at h); go_simp; all_goals with_reducible rfl)
          try simp only [Act.put, tI, tP, tQ]
          refine wpAnyH_ready (rs := [10]) (by kernel_rfl) (by simp) ?_
          refine AllReadyH.cons (o := ?or39_10) ?hor39_10 (fun K hK => ?kr39_10) AllReadyH.nil
          case hor39_10 => simp only [List.getElem?_toArray, List.getElem?_cons_succ, List.getElem?_cons_zero]; rfl
          go_simp
          have cc := cmAtMost_any wD yz rb1
          rw [BL.out] at cc
          refine cc.mono ?_
          rintro e2 wE ⟨rfl, hb⟩
          clear cc
          have R2 := R2.later hb
          have yz := yz.below hb
          have rb1 := rb1.below hb
          clear hb
          go_wp2_with fail
          refine hK.out _ _ ?_ (fun hHeld => ?_)
          · exact ⟨R2.cell 8 _ rfl, R2.cell 9 _ rfl⟩
          clear hK K
          try simp only [Act.put, List.setIfInBounds_toArray, List.set_cons_zero, List.set_cons_succ]
          refine wpAnyH_take (i := 11) (oi := ?a40_11) (v := ?b40_11) ?c40_11 (by kernel_rfl) (by kernel_rfl) (by kernel_rfl) ?d40_11 ?e40_11 (by assumption) ?f40_11
          case c40_11 => simp only [tA, tS, tZ]; rfl
          case d40_11 => exact fun _ _ _ h => h
          case e40_11 => (refine Or.inl ⟨by rfl, ?_⟩; intro w h; (try dsimp only at h); go_simp; all_goals with_reducible rfl)
          try simp only [Act.put, tI, tP, tQ]
          refine wpAnyH_done (by kernel_rfl) ?_ _
          clear hHeld
          go_wp2_with fail
          go_ret
          refine .inr ⟨_, _, _, _, _, _, e.out, rfl, R2, ?_, ?_⟩
          · rw [(show (stepC q (-1 : Int)).lev = limbs (nextC q L (-1 : Int)) by show limbs (nextC q (val q.lev) (-1 : Int)) = _; rw [vld.out.lev, val_limbs])]; exact yz
          · rw [(show (stepC q (-1 : Int)).best = limbs B by show limbs (max (val q.best) (nextC q (val q.lev) (-1 : Int))) = _; rw [vld.out.lev, vld.out.best, val_limbs, val_limbs, Nat.max_eq_left HB.out])]; exact rb1
        · have BL := Lib.hid (show leC (limbs (nextC q L (-1 : Int))) (limbs B) = false by rw [leC_ok nextC_lt vld.out.pw.2]; exact decide_eq_false hB)
          have HB := Lib.hid hB
          clear hB
          go_upto_region 10 with fail
          have hb := (Below.refl wA.heap.size wA).drew
          have R2 := R2.later hb
          have yz := yz.below hb
          have rb1 := rb1.below hb
          clear hb
          refine wp_region_held_drew (S := (fun w' => w'.cell? ⟨k, 8, none⟩ = some (.slice az nz cz) ∧ w'.cell? ⟨k, 9, none⟩ = some (.slice b m d))) (by kernel_rfl) ?_ (fun hHeld => ?_)
          · exact ⟨R2.cell 8 _ rfl, R2.cell 9 _ rfl⟩
          generalize wA.drew = wD at *
          refine wpAnyH_take (i := 0) (oi := ?a41_0) (v := ?b41_0) ?c41_0 (by kernel_rfl) (by kernel_rfl) (by kernel_rfl) ?d41_0 ?e41_0 (by assumption) ?f41_0
          case c41_0 => simp only [tA, tS, tZ]; rfl
          case d41_0 => exact fun _ _ _ h => h
          case e41_0 => (refine Or.inl ⟨by rfl, ?_⟩; intro w h; (try dsimp only at h); go_simp; all_goals with_reducible rfl)
          try simp only [Act.put, tI, tP, tQ]
          refine wpAnyH_take (i := 1) (oi := ?a41_1) (v := ?b41_1) ?c41_1 (by kernel_rfl) (by kernel_rfl) (by kernel_rfl) ?d41_1 ?e41_1 (by assumption) ?f41_1
          case c41_1 => simp only [tA, tS, tZ]; rfl
          case d41_1 => exact fun _ _ _ h => h
          case e41_1 => (refine Or.inl ⟨by rfl, ?_⟩; intro w h; (try dsimp only at h); go_simp; all_goals with_reducible rfl)
          try simp only [Act.put, tI, tP, tQ]
          refine wpAnyH_take (i := 2) (oi := ?a41_2) (v := ?b41_2) ?c41_2 (by kernel_rfl) (by kernel_rfl) (by kernel_rfl) ?d41_2 ?e41_2 (by assumption) ?f41_2
          case c41_2 => simp only [tA, tS, tZ]; rfl
          case d41_2 => exact fun _ _ _ h => h
          case e41_2 => (refine Or.inl ⟨by rfl, ?_⟩; intro w h; (try dsimp only at h); go_simp; all_goals with_reducible rfl)
          try simp only [Act.put, tI, tP, tQ]
          refine wpAnyH_take (i := 3) (oi := ?a41_3) (v := ?b41_3) ?c41_3 (by kernel_rfl) (by kernel_rfl) (by kernel_rfl) ?d41_3 ?e41_3 (by assumption) ?f41_3
          case c41_3 => simp only [tA, tS, tZ]; rfl
          case d41_3 => exact fun _ _ _ h => h
          case e41_3 => (refine Or.inl ⟨by rfl, ?_⟩; intro w h; (try dsimp only at h); go_simp; all_goals with_reducible rfl)
          try simp only [Act.put, tI, tP, tQ]
          refine wpAnyH_take (i := 4) (oi := ?a41_4) (v := ?b41_4) ?c41_4 (by kernel_rfl) (by kernel_rfl) (by kernel_rfl) ?d41_4 ?e41_4 (by assumption) ?f41_4
          case c41_4 => simp only [tA, tS, tZ]; rfl
          case d41_4 => exact fun _ _ _ h => h
          case e41_4 => (refine Or.inl ⟨by rfl, ?_⟩; intro w h; (try dsimp only at h); go_simp; all_goals with_reducible rfl)
          try simp only [Act.put, tI, tP, tQ]
          refine wpAnyH_take (i := 5) (oi := ?a41_5) (v := ?b41_5) ?c41_5 (by kernel_rfl) (by kernel_rfl) (by kernel_rfl) ?d41_5 ?e41_5 (by assumption) ?f41_5
          case c41_5 => simp only [tA, tS, tZ]; rfl
          case d41_5 => exact fun _ _ _ h => h
          case e41_5 => (refine Or.inl ⟨by rfl, ?_⟩; intro w h; (try dsimp only at h); go_simp; all_goals with_reducible rfl)
          try simp only [Act.put, tI, tP, tQ]
          refine wpAnyH_take (i := 6) (oi := ?a41_6) (v := ?b41_6) ?c41_6 (by kernel_rfl) (by kernel_rfl) (by kernel_rfl) ?d41_6 ?e41_6 (by assumption) ?f41_6
          case c41_6 => simp only [tA, tS, tZ]; rfl
          case d41_6 => exact fun _ _ _ h => h
          case e41_6 => (refine Or.inl ⟨by rfl, ?_⟩; intro w h; (try dsimp only at h); go_simp; all_goals with_reducible rfl)
          try simp only [Act.put, tI, tP, tQ]
          refine wpAnyH_take (i := 7) (oi := ?a41_7) (v := ?b41_7) ?c41_7 (by kernel_rfl) (by kernel_rfl) (by kernel_rfl) ?d41_7 ?e41_7 (by assumption) ?f41_7
          case c41_7 => simp only [tA, tS, tZ]; rfl
          case d41_7 => exact fun _ _ _ h => h
          case e41_7 => (refine Or.inl ⟨by rfl, ?_⟩; intro w h; (try dsimp only at h); go_simp; all_goals with_reducible rfl)
          try simp only [Act.put, tI, tP, tQ]
          refine wpAnyH_take (i := 8) (oi := ?a41_8) (v := ?b41_8) ?c41_8 (by kernel_rfl) (by kernel_rfl) (by kernel_rfl) ?d41_8 ?e41_8 (by assumption) ?f41_8
          case c41_8 => simp only [tA, tS, tZ]; rfl
          case d41_8 => exact fun _ _ _ h => h
          case e41_8 => (refine Or.inl ⟨by rfl, ?_⟩; intro w h; (try dsimp only at h); go_simp; all_goals with_reducible rfl)
          try simp only [Act.put, tI, tP, tQ]
          refine wpAnyH_take (i := 9) (oi := ?a41_9) (v := ?b41_9) ?c41_9 (by kernel_rfl) (by kernel_rfl) (by kernel_rfl) ?d41_9 ?e41_9 (by assumption) ?f41_9
          case c41_9 => simp only [tA, tS, tZ]; rfl
          case d41_9 => exact fun _ _ _ h => h
          case e41_9 => (refine Or.inl ⟨by rfl, ?_⟩; intro w h; (try dsimp only at h); go_simp; all_goals with_reducible rfl)
          try simp only [Act.put, tI, tP, tQ]
          refine wpAnyH_ready (rs := [10]) (by kernel_rfl) (by simp) ?_
          refine AllReadyH.cons (o := ?or42_10) ?hor42_10 (fun K hK => ?kr42_10) AllReadyH.nil
          case hor42_10 => simp only [List.getElem?_toArray, List.getElem?_cons_succ, List.getElem?_cons_zero]; rfl
          go_simp
          have cc := cmAtMost_any wD yz rb1
          rw [BL.out] at cc
          refine cc.mono ?_
          rintro e2 wE ⟨rfl, hb⟩
          clear cc
          have R2 := R2.later hb
          have yz := yz.below hb
          have rb1 := rb1.below hb
          clear hb
          go_wp2_with fail
          refine hK.out _ _ ?_ (fun hHeld => ?_)
          · exact ⟨R2.cell 8 _ rfl, R2.cell 9 _ rfl⟩
          clear hK K
          try simp only [Act.put, List.setIfInBounds_toArray, List.set_cons_zero, List.set_cons_succ]
          refine wpAnyH_take (i := 11) (oi := ?a43_11) (v := ?b43_11) ?c43_11 (by kernel_rfl) (by kernel_rfl) (by kernel_rfl) ?d43_11 ?e43_11 (by assumption) ?f43_11
          case c43_11 => simp only [tA, tS, tZ]; rfl
          case d43_11 => exact fun _ _ _ h => h
          case e43_11 => (refine Or.inl ⟨by rfl, ?_⟩; intro w h; (try dsimp only at h); go_simp; all_goals with_reducible rfl)
          try simp only [Act.put, tI, tP, tQ]
          refine wpAnyH_done (by kernel_rfl) ?_ _
          clear hHeld
          have k8 : wE.cell? ⟨k, 8, none⟩ = some (.slice az nz cz) := R2.cell 8 _ rfl
          go_wp2_with fail
          refine (Clone_any wE yz (by have h1 := yz.len; have h2 := limbs_len_le (k := 96) (show nextC q L (-1 : Int) < pw 96 from Nat.lt_of_le_of_lt (Nat.min_le_right _ _) most_pw); omega)).mono ?_
          rintro e2 wF ⟨ak, nk, ck, rfl, yk, hb⟩
          have R2 := R2.later hb
          have yz := yz.below hb
          have rb1 := rb1.below hb
          clear hb k8
          have fr9 := R2.free 9
          have k9 := R2.cell 9 _ rfl
          have R4 : PRow 66 wb (wF.setCell ⟨k, 9, none⟩ (.slice ak nk ck)) k (cmC (bumpC q (-1 : Int)) az nz cz ak nk ck) := R2.set 9 (.slice ak nk ck)
          have yk := rd_setcell (i := 9) yk R2.row (cm_noint _ _ _ _ _ _ _) (.slice ak nk ck)
          have yl := rd_setcell (i := 9) yz R2.row (cm_noint _ _ _ _ _ _ _) (.slice ak nk ck)
          go_wp2_with fail
          go_ret
          refine .inr ⟨_, _, _, _, _, _, e.out, rfl, R4, ?_, ?_⟩
          · rw [(show (stepC q (-1 : Int)).lev = limbs (nextC q L (-1 : Int)) by show limbs (nextC q (val q.lev) (-1 : Int)) = _; rw [vld.out.lev, val_limbs])]; exact yl
          · rw [(show (stepC q (-1 : Int)).best = limbs (nextC q L (-1 : Int)) by show limbs (max (val q.best) (nextC q (val q.lev) (-1 : Int))) = _; rw [vld.out.lev, vld.out.best, val_limbs, val_limbs, Nat.max_eq_right (Nat.le_of_lt (Nat.lt_of_not_le HB.out))])]; exact yk
      · have NX := Lib.hid (show nextC q L (-1 : Int) = mostN by unfold nextC timesN; exact Nat.min_eq_right (Nat.le_of_lt (Nat.lt_of_not_le hD)))
        have DL := Lib.hid (show leC (limbs (L * factC q (-1 : Int) / wholeC q)) [0, 0, 0, 0, 1] = false by rw [← most_limbs, leC_ok (Nat.lt_of_le_of_lt (Nat.div_le_self _ _) LF.out) most_pw]; exact decide_eq_false hD)
        clear hD
        have hb := (Below.refl w7.heap.size w7).drew
        have R2 := R2.later hb
        have yz := yz.below hb
        have rb1 := rb1.below hb
        clear hb
        refine wp_region_held_drew (S := (fun w' => w'.cell? ⟨k, 8, none⟩ = some (.slice az nz cz) ∧ True)) (by kernel_rfl) ?_ (fun hHeld => ?_)
        · exact ⟨R2.cell 8 _ rfl, trivial⟩
        generalize w7.drew = w8 at *
        refine wpAnyH_take (i := 0) (oi := ?a44_0) (v := ?b44_0) ?c44_0 (by kernel_rfl) (by kernel_rfl) (by kernel_rfl) ?d44_0 ?e44_0 (by assumption) ?f44_0
        case c44_0 => simp only [tA, tS, tZ]; rfl
        case d44_0 => exact fun _ _ _ h => h
        case e44_0 => (refine Or.inl ⟨by rfl, ?_⟩; intro w h; (try dsimp only at h); go_simp; all_goals with_reducible rfl)
        try simp only [Act.put, tI, tP, tQ]
        refine wpAnyH_take (i := 1) (oi := ?a44_1) (v := ?b44_1) ?c44_1 (by kernel_rfl) (by kernel_rfl) (by kernel_rfl) ?d44_1 ?e44_1 (by assumption) ?f44_1
        case c44_1 => simp only [tA, tS, tZ]; rfl
        case d44_1 => exact fun _ _ _ h => h
        case e44_1 => (refine Or.inl ⟨by rfl, ?_⟩; intro w h; (try dsimp only at h); go_simp; all_goals with_reducible rfl)
        try simp only [Act.put, tI, tP, tQ]
        refine wpAnyH_take (i := 2) (oi := ?a44_2) (v := ?b44_2) ?c44_2 (by kernel_rfl) (by kernel_rfl) (by kernel_rfl) ?d44_2 ?e44_2 (by assumption) ?f44_2
        case c44_2 => simp only [tA, tS, tZ]; rfl
        case d44_2 => exact fun _ _ _ h => h
        case e44_2 => (refine Or.inl ⟨by rfl, ?_⟩; intro w h; (try dsimp only at h); go_simp; all_goals with_reducible rfl)
        try simp only [Act.put, tI, tP, tQ]
        refine wpAnyH_take (i := 3) (oi := ?a44_3) (v := ?b44_3) ?c44_3 (by kernel_rfl) (by kernel_rfl) (by kernel_rfl) ?d44_3 ?e44_3 (by assumption) ?f44_3
        case c44_3 => simp only [tA, tS, tZ]; rfl
        case d44_3 => exact fun _ _ _ h => h
        case e44_3 => (refine Or.inl ⟨by rfl, ?_⟩; intro w h; (try dsimp only at h); go_simp; all_goals with_reducible rfl)
        try simp only [Act.put, tI, tP, tQ]
        refine wpAnyH_take (i := 4) (oi := ?a44_4) (v := ?b44_4) ?c44_4 (by kernel_rfl) (by kernel_rfl) (by kernel_rfl) ?d44_4 ?e44_4 (by assumption) ?f44_4
        case c44_4 => simp only [tA, tS, tZ]; rfl
        case d44_4 => exact fun _ _ _ h => h
        case e44_4 => (refine Or.inl ⟨by rfl, ?_⟩; intro w h; (try dsimp only at h); go_simp; all_goals with_reducible rfl)
        try simp only [Act.put, tI, tP, tQ]
        refine wpAnyH_ready (rs := [5]) (by kernel_rfl) (by simp) ?_
        refine AllReadyH.cons (o := ?or45_5) ?hor45_5 (fun K hK => ?kr45_5) AllReadyH.nil
        case hor45_5 => simp only [List.getElem?_toArray, List.getElem?_cons_succ, List.getElem?_cons_zero]; rfl
        go_simp
        refine (cmMost_any w8).mono ?_
        rintro e2 w9 ⟨am, nm, cm, rfl, ym, hb⟩
        have R2 := R2.later hb
        have yz := yz.below hb
        have rb1 := rb1.below hb
        clear hb
        go_wp2_with fail
        refine hK.out _ _ ?_ (fun hHeld => ?_)
        · exact ⟨R2.cell 8 _ rfl, trivial⟩
        clear hK K
        try simp only [Act.put, List.setIfInBounds_toArray, List.set_cons_zero, List.set_cons_succ]
        refine wpAnyH_ready (rs := [6]) (by kernel_rfl) (by simp) ?_
        refine AllReadyH.cons (o := ?or46_6) ?hor46_6 (fun K hK => ?kr46_6) AllReadyH.nil
        case hor46_6 => simp only [List.getElem?_toArray, List.getElem?_cons_succ, List.getElem?_cons_zero]; rfl
        go_simp
        have cc := cmAtMost_any w9 yz ym
        rw [DL.out] at cc
        refine cc.mono ?_
        rintro e2 wA ⟨rfl, hb⟩
        clear cc
        have R2 := R2.later hb
        have yz := yz.below hb
        have rb1 := rb1.below hb
        clear hb ym
        go_wp2_with fail
        refine hK.out _ _ ?_ (fun hHeld => ?_)
        · exact ⟨R2.cell 8 _ rfl, trivial⟩
        clear hK K
        try simp only [Act.put, List.setIfInBounds_toArray, List.set_cons_zero, List.set_cons_succ]
        refine wpAnyH_take (i := 7) (oi := ?a47_7) (v := ?b47_7) ?c47_7 (by kernel_rfl) (by kernel_rfl) (by kernel_rfl) ?d47_7 ?e47_7 (by assumption) ?f47_7
        case c47_7 => simp only [tA, tS, tZ]; rfl
        case d47_7 => exact fun _ _ _ h => h
        case e47_7 => (refine Or.inl ⟨by rfl, ?_⟩; intro w h; (try dsimp only at h); go_simp; all_goals with_reducible rfl)
        try simp only [Act.put, tI, tP, tQ]
        refine wpAnyH_done (by kernel_rfl) ?_ _
        clear hHeld
        go_wp2_with fail
        refine (cmMost_any wA).mono ?_
        rintro e2 wB ⟨as', ns', cs', rfl, ys, hb⟩
        have R2 := R2.later hb
        have yz := yz.below hb
        have rb1 := rb1.below hb
        clear hb
        have fr8 := R2.free 8
        have k8 := R2.cell 8 _ rfl
        have R3 : PRow 66 wb (wB.setCell ⟨k, 8, none⟩ (.slice as' ns' cs')) k (cmC (bumpC q (-1 : Int)) as' ns' cs' b m d) := R2.set 8 (.slice as' ns' cs')
        have ys := rd_setcell (i := 8) ys R2.row (cm_noint _ _ _ _ _ _ _) (.slice as' ns' cs')
        have rb1 := rd_setcell (i := 8) rb1 R2.row (cm_noint _ _ _ _ _ _ _) (.slice as' ns' cs')
        clear R2 yz
        rw [← most_limbs, ← NX.out] at ys
        go_upto_region 10 with fail
        clear fr8 k8
        generalize wB.setCell ⟨k, 8, none⟩ (.slice as' ns' cs') = wC at *
        by_cases hB : nextC q L (-1 : Int) ≤ B
        · have BL := Lib.hid (show leC (limbs (nextC q L (-1 : Int))) (limbs B) = true by rw [leC_ok nextC_lt vld.out.pw.2]; exact decide_eq_true hB)
          have HB := Lib.hid hB
          clear hB
          have hb := (Below.refl wC.heap.size wC).drew
          have R3 := R3.later hb
          have ys := ys.below hb
          have rb1 := rb1.below hb
          clear hb
          refine wp_region_held_drew (S := (fun w' => w'.cell? ⟨k, 8, none⟩ = some (.slice as' ns' cs') ∧ w'.cell? ⟨k, 9, none⟩ = some (.slice b m d))) (by kernel_rfl) ?_ (fun hHeld => ?_)
          · exact ⟨R3.cell 8 _ rfl, R3.cell 9 _ rfl⟩
          generalize wC.drew = wD at *
          refine wpAnyH_take (i := 0) (oi := ?a48_0) (v := ?b48_0) ?c48_0 (by kernel_rfl) (by kernel_rfl) (by kernel_rfl) ?d48_0 ?e48_0 (by assumption) ?f48_0
          case c48_0 => simp only [tA, tS, tZ]; rfl
          case d48_0 => exact fun _ _ _ h => h
          case e48_0 => (refine Or.inl ⟨by rfl, ?_⟩; intro w h; (try dsimp only at h); go_simp; all_goals with_reducible rfl)
          try simp only [Act.put, tI, tP, tQ]
          refine wpAnyH_take (i := 1) (oi := ?a48_1) (v := ?b48_1) ?c48_1 (by kernel_rfl) (by kernel_rfl) (by kernel_rfl) ?d48_1 ?e48_1 (by assumption) ?f48_1
          case c48_1 => simp only [tA, tS, tZ]; rfl
          case d48_1 => exact fun _ _ _ h => h
          case e48_1 => (refine Or.inl ⟨by rfl, ?_⟩; intro w h; (try dsimp only at h); go_simp; all_goals with_reducible rfl)
          try simp only [Act.put, tI, tP, tQ]
          refine wpAnyH_take (i := 2) (oi := ?a48_2) (v := ?b48_2) ?c48_2 (by kernel_rfl) (by kernel_rfl) (by kernel_rfl) ?d48_2 ?e48_2 (by assumption) ?f48_2
          case c48_2 => simp only [tA, tS, tZ]; rfl
          case d48_2 => exact fun _ _ _ h => h
          case e48_2 => (refine Or.inl ⟨by rfl, ?_⟩; intro w h; (try dsimp only at h); go_simp; all_goals with_reducible rfl)
          try simp only [Act.put, tI, tP, tQ]
          refine wpAnyH_take (i := 3) (oi := ?a48_3) (v := ?b48_3) ?c48_3 (by kernel_rfl) (by kernel_rfl) (by kernel_rfl) ?d48_3 ?e48_3 (by assumption) ?f48_3
          case c48_3 => simp only [tA, tS, tZ]; rfl
          case d48_3 => exact fun _ _ _ h => h
          case e48_3 => (refine Or.inl ⟨by rfl, ?_⟩; intro w h; (try dsimp only at h); go_simp; all_goals with_reducible rfl)
          try simp only [Act.put, tI, tP, tQ]
          refine wpAnyH_take (i := 4) (oi := ?a48_4) (v := ?b48_4) ?c48_4 (by kernel_rfl) (by kernel_rfl) (by kernel_rfl) ?d48_4 ?e48_4 (by assumption) ?f48_4
          case c48_4 => simp only [tA, tS, tZ]; rfl
          case d48_4 => exact fun _ _ _ h => h
          case e48_4 => (refine Or.inl ⟨by rfl, ?_⟩; intro w h; (try dsimp only at h); go_simp; all_goals with_reducible rfl)
          try simp only [Act.put, tI, tP, tQ]
          refine wpAnyH_take (i := 5) (oi := ?a48_5) (v := ?b48_5) ?c48_5 (by kernel_rfl) (by kernel_rfl) (by kernel_rfl) ?d48_5 ?e48_5 (by assumption) ?f48_5
          case c48_5 => simp only [tA, tS, tZ]; rfl
          case d48_5 => exact fun _ _ _ h => h
          case e48_5 => (refine Or.inl ⟨by rfl, ?_⟩; intro w h; (try dsimp only at h); go_simp; all_goals with_reducible rfl)
          try simp only [Act.put, tI, tP, tQ]
          refine wpAnyH_take (i := 6) (oi := ?a48_6) (v := ?b48_6) ?c48_6 (by kernel_rfl) (by kernel_rfl) (by kernel_rfl) ?d48_6 ?e48_6 (by assumption) ?f48_6
          case c48_6 => simp only [tA, tS, tZ]; rfl
          case d48_6 => exact fun _ _ _ h => h
          case e48_6 => (refine Or.inl ⟨by rfl, ?_⟩; intro w h; (try dsimp only at h); go_simp; all_goals with_reducible rfl)
          try simp only [Act.put, tI, tP, tQ]
          refine wpAnyH_take (i := 7) (oi := ?a48_7) (v := ?b48_7) ?c48_7 (by kernel_rfl) (by kernel_rfl) (by kernel_rfl) ?d48_7 ?e48_7 (by assumption) ?f48_7
          case c48_7 => simp only [tA, tS, tZ]; rfl
          case d48_7 => exact fun _ _ _ h => h
          case e48_7 => (refine Or.inl ⟨by rfl, ?_⟩; intro w h; (try dsimp only at h); go_simp; all_goals with_reducible rfl)
          try simp only [Act.put, tI, tP, tQ]
          refine wpAnyH_take (i := 8) (oi := ?a48_8) (v := ?b48_8) ?c48_8 (by kernel_rfl) (by kernel_rfl) (by kernel_rfl) ?d48_8 ?e48_8 (by assumption) ?f48_8
          case c48_8 => simp only [tA, tS, tZ]; rfl
          case d48_8 => exact fun _ _ _ h => h
          case e48_8 => (refine Or.inl ⟨by rfl, ?_⟩; intro w h; (try dsimp only at h); go_simp; all_goals with_reducible rfl)
          try simp only [Act.put, tI, tP, tQ]
          refine wpAnyH_take (i := 9) (oi := ?a48_9) (v := ?b48_9) ?c48_9 (by kernel_rfl) (by kernel_rfl) (by kernel_rfl) ?d48_9 ?e48_9 (by assumption) ?f48_9
          case c48_9 => simp only [tA, tS, tZ]; rfl
          case d48_9 => exact fun _ _ _ h => h
          case e48_9 => (refine Or.inl ⟨by rfl, ?_⟩; intro w h; (try dsimp only at h); go_simp; all_goals with_reducible rfl)
          try simp only [Act.put, tI, tP, tQ]
          refine wpAnyH_ready (rs := [10]) (by kernel_rfl) (by simp) ?_
          refine AllReadyH.cons (o := ?or49_10) ?hor49_10 (fun K hK => ?kr49_10) AllReadyH.nil
          case hor49_10 => simp only [List.getElem?_toArray, List.getElem?_cons_succ, List.getElem?_cons_zero]; rfl
          go_simp
          have cc := cmAtMost_any wD ys rb1
          rw [BL.out] at cc
          refine cc.mono ?_
          rintro e2 wE ⟨rfl, hb⟩
          clear cc
          have R3 := R3.later hb
          have ys := ys.below hb
          have rb1 := rb1.below hb
          clear hb
          go_wp2_with fail
          refine hK.out _ _ ?_ (fun hHeld => ?_)
          · exact ⟨R3.cell 8 _ rfl, R3.cell 9 _ rfl⟩
          clear hK K
          try simp only [Act.put, List.setIfInBounds_toArray, List.set_cons_zero, List.set_cons_succ]
          refine wpAnyH_take (i := 11) (oi := ?a50_11) (v := ?b50_11) ?c50_11 (by kernel_rfl) (by kernel_rfl) (by kernel_rfl) ?d50_11 ?e50_11 (by assumption) ?f50_11
          case c50_11 => simp only [tA, tS, tZ]; rfl
          case d50_11 => exact fun _ _ _ h => h
          case e50_11 => (refine Or.inl ⟨by rfl, ?_⟩; intro w h; (try dsimp only at h); go_simp; all_goals with_reducible rfl)
          try simp only [Act.put, tI, tP, tQ]
          refine wpAnyH_done (by kernel_rfl) ?_ _
          clear hHeld
          go_wp2_with fail
          go_ret
          refine .inr ⟨_, _, _, _, _, _, e.out, rfl, R3, ?_, ?_⟩
          · rw [(show (stepC q (-1 : Int)).lev = limbs (nextC q L (-1 : Int)) by show limbs (nextC q (val q.lev) (-1 : Int)) = _; rw [vld.out.lev, val_limbs])]; exact ys
          · rw [(show (stepC q (-1 : Int)).best = limbs B by show limbs (max (val q.best) (nextC q (val q.lev) (-1 : Int))) = _; rw [vld.out.lev, vld.out.best, val_limbs, val_limbs, Nat.max_eq_left HB.out])]; exact rb1
        · have BL := Lib.hid (show leC (limbs (nextC q L (-1 : Int))) (limbs B) = false by rw [leC_ok nextC_lt vld.out.pw.2]; exact decide_eq_false hB)
          have HB := Lib.hid hB
          clear hB
          have hb := (Below.refl wC.heap.size wC).drew
          have R3 := R3.later hb
          have ys := ys.below hb
          have rb1 := rb1.below hb
          clear hb
          refine wp_region_held_drew (S := (fun w' => w'.cell? ⟨k, 8, none⟩ = some (.slice as' ns' cs') ∧ w'.cell? ⟨k, 9, none⟩ = some (.slice b m d))) (by kernel_rfl) ?_ (fun hHeld => ?_)
          · exact ⟨R3.cell 8 _ rfl, R3.cell 9 _ rfl⟩
          generalize wC.drew = wD at *
          refine wpAnyH_take (i := 0) (oi := ?a51_0) (v := ?b51_0) ?c51_0 (by kernel_rfl) (by kernel_rfl) (by kernel_rfl) ?d51_0 ?e51_0 (by assumption) ?f51_0
          case c51_0 => simp only [tA, tS, tZ]; rfl
          case d51_0 => exact fun _ _ _ h => h
          case e51_0 => (refine Or.inl ⟨by rfl, ?_⟩; intro w h; (try dsimp only at h); go_simp; all_goals with_reducible rfl)
          try simp only [Act.put, tI, tP, tQ]
          refine wpAnyH_take (i := 1) (oi := ?a51_1) (v := ?b51_1) ?c51_1 (by kernel_rfl) (by kernel_rfl) (by kernel_rfl) ?d51_1 ?e51_1 (by assumption) ?f51_1
          case c51_1 => simp only [tA, tS, tZ]; rfl
          case d51_1 => exact fun _ _ _ h => h
          case e51_1 => (refine Or.inl ⟨by rfl, ?_⟩; intro w h; (try dsimp only at h); go_simp; all_goals with_reducible rfl)
          try simp only [Act.put, tI, tP, tQ]
          refine wpAnyH_take (i := 2) (oi := ?a51_2) (v := ?b51_2) ?c51_2 (by kernel_rfl) (by kernel_rfl) (by kernel_rfl) ?d51_2 ?e51_2 (by assumption) ?f51_2
          case c51_2 => simp only [tA, tS, tZ]; rfl
          case d51_2 => exact fun _ _ _ h => h
          case e51_2 => (refine Or.inl ⟨by rfl, ?_⟩; intro w h; (try dsimp only at h); go_simp; all_goals with_reducible rfl)
          try simp only [Act.put, tI, tP, tQ]
          refine wpAnyH_take (i := 3) (oi := ?a51_3) (v := ?b51_3) ?c51_3 (by kernel_rfl) (by kernel_rfl) (by kernel_rfl) ?d51_3 ?e51_3 (by assumption) ?f51_3
          case c51_3 => simp only [tA, tS, tZ]; rfl
          case d51_3 => exact fun _ _ _ h => h
          case e51_3 => (refine Or.inl ⟨by rfl, ?_⟩; intro w h; (try dsimp only at h); go_simp; all_goals with_reducible rfl)
          try simp only [Act.put, tI, tP, tQ]
          refine wpAnyH_take (i := 4) (oi := ?a51_4) (v := ?b51_4) ?c51_4 (by kernel_rfl) (by kernel_rfl) (by kernel_rfl) ?d51_4 ?e51_4 (by assumption) ?f51_4
          case c51_4 => simp only [tA, tS, tZ]; rfl
          case d51_4 => exact fun _ _ _ h => h
          case e51_4 => (refine Or.inl ⟨by rfl, ?_⟩; intro w h; (try dsimp only at h); go_simp; all_goals with_reducible rfl)
          try simp only [Act.put, tI, tP, tQ]
          refine wpAnyH_take (i := 5) (oi := ?a51_5) (v := ?b51_5) ?c51_5 (by kernel_rfl) (by kernel_rfl) (by kernel_rfl) ?d51_5 ?e51_5 (by assumption) ?f51_5
          case c51_5 => simp only [tA, tS, tZ]; rfl
          case d51_5 => exact fun _ _ _ h => h
          case e51_5 => (refine Or.inl ⟨by rfl, ?_⟩; intro w h; (try dsimp only at h); go_simp; all_goals with_reducible rfl)
          try simp only [Act.put, tI, tP, tQ]
          refine wpAnyH_take (i := 6) (oi := ?a51_6) (v := ?b51_6) ?c51_6 (by kernel_rfl) (by kernel_rfl) (by kernel_rfl) ?d51_6 ?e51_6 (by assumption) ?f51_6
          case c51_6 => simp only [tA, tS, tZ]; rfl
          case d51_6 => exact fun _ _ _ h => h
          case e51_6 => (refine Or.inl ⟨by rfl, ?_⟩; intro w h; (try dsimp only at h); go_simp; all_goals with_reducible rfl)
          try simp only [Act.put, tI, tP, tQ]
          refine wpAnyH_take (i := 7) (oi := ?a51_7) (v := ?b51_7) ?c51_7 (by kernel_rfl) (by kernel_rfl) (by kernel_rfl) ?d51_7 ?e51_7 (by assumption) ?f51_7
          case c51_7 => simp only [tA, tS, tZ]; rfl
          case d51_7 => exact fun _ _ _ h => h
          case e51_7 => (refine Or.inl ⟨by rfl, ?_⟩; intro w h; (try dsimp only at h); go_simp; all_goals with_reducible rfl)
          try simp only [Act.put, tI, tP, tQ]
          refine wpAnyH_take (i := 8) (oi := ?a51_8) (v := ?b51_8) ?c51_8 (by kernel_rfl) (by kernel_rfl) (by kernel_rfl) ?d51_8 ?e51_8 (by assumption) ?f51_8
          case c51_8 => simp only [tA, tS, tZ]; rfl
          case d51_8 => exact fun _ _ _ h => h
          case e51_8 => (refine Or.inl ⟨by rfl, ?_⟩; intro w h; (try dsimp only at h); go_simp; all_goals with_reducible rfl)
          try simp only [Act.put, tI, tP, tQ]
          refine wpAnyH_take (i := 9) (oi := ?a51_9) (v := ?b51_9) ?c51_9 (by kernel_rfl) (by kernel_rfl) (by kernel_rfl) ?d51_9 ?e51_9 (by assumption) ?f51_9
          case c51_9 => simp only [tA, tS, tZ]; rfl
          case d51_9 => exact fun _ _ _ h => h
          case e51_9 => (refine Or.inl ⟨by rfl, ?_⟩; intro w h; (try dsimp only at h); go_simp; all_goals with_reducible rfl)
          try simp only [Act.put, tI, tP, tQ]
          refine wpAnyH_ready (rs := [10]) (by kernel_rfl) (by simp) ?_
          refine AllReadyH.cons (o := ?or52_10) ?hor52_10 (fun K hK => ?kr52_10) AllReadyH.nil
          case hor52_10 => simp only [List.getElem?_toArray, List.getElem?_cons_succ, List.getElem?_cons_zero]; rfl
          go_simp
          have cc := cmAtMost_any wD ys rb1
          rw [BL.out] at cc
          refine cc.mono ?_
          rintro e2 wE ⟨rfl, hb⟩
          clear cc
          have R3 := R3.later hb
          have ys := ys.below hb
          have rb1 := rb1.below hb
          clear hb
          go_wp2_with fail
          refine hK.out _ _ ?_ (fun hHeld => ?_)
          · exact ⟨R3.cell 8 _ rfl, R3.cell 9 _ rfl⟩
          clear hK K
          try simp only [Act.put, List.setIfInBounds_toArray, List.set_cons_zero, List.set_cons_succ]
          refine wpAnyH_take (i := 11) (oi := ?a53_11) (v := ?b53_11) ?c53_11 (by kernel_rfl) (by kernel_rfl) (by kernel_rfl) ?d53_11 ?e53_11 (by assumption) ?f53_11
          case c53_11 => simp only [tA, tS, tZ]; rfl
          case d53_11 => exact fun _ _ _ h => h
          case e53_11 => (refine Or.inl ⟨by rfl, ?_⟩; intro w h; (try dsimp only at h); go_simp; all_goals with_reducible rfl)
          try simp only [Act.put, tI, tP, tQ]
          refine wpAnyH_done (by kernel_rfl) ?_ _
          clear hHeld
          have k8 : wE.cell? ⟨k, 8, none⟩ = some (.slice as' ns' cs') := R3.cell 8 _ rfl
          go_wp2_with fail
          refine (Clone_any wE ys (by have h1 := ys.len; have h2 := limbs_len_le (k := 96) (show nextC q L (-1 : Int) < pw 96 from Nat.lt_of_le_of_lt (Nat.min_le_right _ _) most_pw); omega)).mono ?_
          rintro e2 wF ⟨ak, nk, ck, rfl, yk, hb⟩
          have R3 := R3.later hb
          have ys := ys.below hb
          have rb1 := rb1.below hb
          clear hb k8
          have fr9 := R3.free 9
          have k9 := R3.cell 9 _ rfl
          have R4 : PRow 66 wb (wF.setCell ⟨k, 9, none⟩ (.slice ak nk ck)) k (cmC (bumpC q (-1 : Int)) as' ns' cs' ak nk ck) := R3.set 9 (.slice ak nk ck)
          have yk := rd_setcell (i := 9) yk R3.row (cm_noint _ _ _ _ _ _ _) (.slice ak nk ck)
          have yl := rd_setcell (i := 9) ys R3.row (cm_noint _ _ _ _ _ _ _) (.slice ak nk ck)
          go_wp2_with fail
          go_ret
          refine .inr ⟨_, _, _, _, _, _, e.out, rfl, R4, ?_, ?_⟩
          · rw [(show (stepC q (-1 : Int)).lev = limbs (nextC q L (-1 : Int)) by show limbs (nextC q (val q.lev) (-1 : Int)) = _; rw [vld.out.lev, val_limbs])]; exact yl
          · rw [(show (stepC q (-1 : Int)).best = limbs (nextC q L (-1 : Int)) by show limbs (max (val q.best) (nextC q (val q.lev) (-1 : Int))) = _; rw [vld.out.lev, vld.out.best, val_limbs, val_limbs, Nat.max_eq_right (Nat.le_of_lt (Nat.lt_of_not_le HB.out))])]; exact yk

end Go.Proofs.Ytmkcdlhhbnakiaa
