/- Quotas: within, may, Droop, part, Hare, Hagenbach; the same in the answer. Printed by gen_quoc.py. -/
import Derived.Test.YtfcejgeckcoefaaQuoB
namespace Go.Proofs.Ytfcejgeckcoefaa
open Go.RowKit Go.Suf
set_option linter.unusedVariables false
set_option linter.unusedSimpArgs false

def mayQ (v s : Int) : Prop := (0 ≤ v ∧ v ≤ 1000000) ∧ 1 ≤ s ∧ s ≤ 10
instance (v s : Int) : Decidable (mayQ v s) := by unfold mayQ; infer_instance
def droopC (v s : Int) : Int × Int := if mayQ v s then (v / (s + 1) + 1, 0) else (0, 2)
def partC (v s d : Int) : QV × Int := if mayQ v s then ofC v d else (zeroV, 2)

theorem within_any (w : World) (n lo hi : Int) : Calls Try.prog 62 #[.int .i64 n, .int .i64 lo, .int .i64 hi] w fun e w' => e = .returned (.bool (decide (lo ≤ n ∧ n ≤ hi))) ∧ w' = w := by
  obtain ⟨r, hr⟩ : ∃ r, r = decide (lo ≤ n ∧ n ≤ hi) := ⟨_, rfl⟩
  rw [← hr]
  by_cases h1 : lo ≤ n
  · have d1 : decide (lo ≤ n) = true := decide_eq_true h1
    have e := Lib.hid (show r = decide (n ≤ hi) by rw [hr, decide_eq_decide]; exact ⟨fun h => h.2, fun h => ⟨h1, h⟩⟩)
    clear hr h1
    go_enter Try.func62, Try.ntmps62
    go_wp2
    go_ret
    exact ⟨by rw [e.out]; rfl, rfl⟩
  · have d1 : decide (lo ≤ n) = false := decide_eq_false h1
    have e := Lib.hid (show r = false by rw [hr]; exact decide_eq_false (fun h => h1 h.1))
    clear hr h1
    go_enter Try.func62, Try.ntmps62
    go_wp2
    go_ret
    exact ⟨by rw [e.out]; rfl, rfl⟩

theorem qmay_any (w : World) (v s : Int) : Calls Try.prog 34 #[.int .i64 v, .int .i64 s] w fun e w' => e = .returned (.bool (decide (mayQ v s))) ∧ w' = w := by
  obtain ⟨r, hr⟩ : ∃ r, r = decide (mayQ v s) := ⟨_, rfl⟩
  rw [← hr]
  have c1 := within_any w v 0 1000000
  by_cases h1 : 0 ≤ v ∧ v ≤ 1000000
  · rw [decide_eq_true h1] at c1
    have c2 := within_any w s 1 10
    have e := Lib.hid (show r = decide (1 ≤ s ∧ s ≤ 10) by rw [hr, decide_eq_decide]; exact ⟨fun h => h.2, fun h => ⟨h1, h⟩⟩)
    clear hr h1
    go_enter Try.func34, Try.ntmps34
    go_wp2_with fail
    refine c1.mono ?_
    rintro e1 w9 ⟨rfl, rfl⟩
    go_wp2_with fail
    refine c2.mono ?_
    rintro e1 w9 ⟨rfl, rfl⟩
    go_wp2_with fail
    go_ret
    exact ⟨by rw [e.out]; first | rfl | (rw [show decide (1 ≤ s ∧ s ≤ 10) = (decide (1 ≤ s) && decide (s ≤ 10)) from Bool.decide_and _ _]; rfl), rfl⟩
  · rw [decide_eq_false h1] at c1
    have e := Lib.hid (show r = false by rw [hr]; exact decide_eq_false (fun h => h1 h.1))
    clear hr h1
    go_enter Try.func34, Try.ntmps34
    go_wp2_with fail
    refine c1.mono ?_
    rintro e1 w9 ⟨rfl, rfl⟩
    go_wp2_with fail
    go_ret
    exact ⟨by rw [e.out]; rfl, rfl⟩

theorem refMay_any (w : World) (v s : Int) : Calls Try.prog 28 #[.int .i64 v, .int .i64 s] w fun e w' => e = .returned (.bool (decide (mayQ v s))) ∧ w' = w := by
  obtain ⟨r, hr⟩ : ∃ r, r = decide (mayQ v s) := ⟨_, rfl⟩
  rw [← hr]
  by_cases h1 : 0 ≤ v
  case neg =>
    have d1 : decide (0 ≤ v) = false := decide_eq_false h1
    have e := Lib.hid (show r = false by rw [hr]; exact decide_eq_false (fun h => h1 h.1.1))
    clear hr h1
    go_enter Try.func28, Try.ntmps28
    go_wp2_with fail
    go_ret
    exact ⟨by rw [e.out]; rfl, rfl⟩
  have d1 : decide (0 ≤ v) = true := decide_eq_true h1
  by_cases h2 : v ≤ 1000000
  case neg =>
    have d2 : decide (v ≤ 1000000) = false := decide_eq_false h2
    have e := Lib.hid (show r = false by rw [hr]; exact decide_eq_false (fun h => h2 h.1.2))
    clear hr h1 h2
    go_enter Try.func28, Try.ntmps28
    go_wp2_with fail
    go_ret
    exact ⟨by rw [e.out]; rfl, rfl⟩
  have d2 : decide (v ≤ 1000000) = true := decide_eq_true h2
  by_cases h3 : 1 ≤ s
  case neg =>
    have d3 : decide (1 ≤ s) = false := decide_eq_false h3
    have e := Lib.hid (show r = false by rw [hr]; exact decide_eq_false (fun h => h3 h.2.1))
    clear hr h1 h2 h3
    go_enter Try.func28, Try.ntmps28
    go_wp2_with fail
    go_ret
    exact ⟨by rw [e.out]; rfl, rfl⟩
  have d3 : decide (1 ≤ s) = true := decide_eq_true h3
  have e := Lib.hid (show r = decide (s ≤ 10) by rw [hr, decide_eq_decide]; exact ⟨fun h => h.2.2, fun h => ⟨⟨h1, h2⟩, h3, h⟩⟩)
  clear hr h1 h2 h3
  go_enter Try.func28, Try.ntmps28
  go_wp2_with fail
  go_ret
  exact ⟨by rw [e.out]; rfl, rfl⟩

def inQ (n : Int) : Prop := 0 ≤ n ∧ n ≤ 1000000000000000
instance (n : Int) : Decidable (inQ n) := by unfold inQ; infer_instance

theorem refIn_any (w : World) (n : Int) : Calls Try.prog 40 #[.int .i64 n] w fun e w' => e = .returned (.bool (decide (inQ n))) ∧ w' = w := by
  obtain ⟨r, hr⟩ : ∃ r, r = decide (inQ n) := ⟨_, rfl⟩
  rw [← hr]
  by_cases h1 : 0 ≤ n
  case neg =>
    have d1 : decide (0 ≤ n) = false := decide_eq_false h1
    have e := Lib.hid (show r = false by rw [hr]; exact decide_eq_false (fun h => h1 h.1))
    clear hr h1
    go_enter Try.func40, Try.ntmps40
    go_wp2_with fail
    go_ret
    exact ⟨by rw [e.out]; rfl, rfl⟩
  have d1 : decide (0 ≤ n) = true := decide_eq_true h1
  have e := Lib.hid (show r = decide (n ≤ 1000000000000000) by rw [hr, decide_eq_decide]; exact ⟨fun h => h.2, fun h => ⟨h1, h⟩⟩)
  clear hr h1
  go_enter Try.func40, Try.ntmps40
  go_wp2_with fail
  go_ret
  exact ⟨by rw [e.out]; rfl, rfl⟩

theorem droop_any (w : World) (v s : Int) : Calls Try.prog 10 #[.int .i64 v, .int .i64 s] w (RetIEB w (droopC v s)) := by
  obtain ⟨r, hr⟩ : ∃ r, r = droopC v s := ⟨_, rfl⟩
  rw [← hr]
  have cc := qmay_any w v s
  by_cases h : mayQ v s
  case neg =>
    have e := Lib.hid (show r = (0, 2) by rw [hr, droopC, if_neg h])
    rw [decide_eq_false h] at cc
    clear hr h
    go_enter Try.func10, Try.ntmps10
    go_wp2_with fail
    refine cc.mono ?_
    rintro e1 w9 ⟨rfl, rfl⟩
    go_wp2_with fail
    go_ret2
    exact ⟨by rw [e.out]; rfl, Below.refl _ _⟩
  have e := Lib.hid (show r = (v / (s + 1) + 1, 0) by rw [hr, droopC, if_pos h])
  rw [decide_eq_true h] at cc
  obtain ⟨⟨v1, v2⟩, s1, s2⟩ := h
  clear hr
  obtain ⟨t, ht⟩ : ∃ t, t = v.tdiv (s + 1) := ⟨_, rfl⟩
  have t0 : t = v / (s + 1) := by rw [ht, Int.tdiv_eq_ediv_of_nonneg v1]
  have tb : 0 ≤ t ∧ t ≤ 1000000 := by
    rw [t0]
    exact ⟨Int.ediv_nonneg v1 (by omega), Int.le_trans (Int.ediv_le_self _ v1) v2⟩
  have e := Lib.hid (show r = (t + 1, 0) by rw [e.out, t0])
  have w1 : IntKind.i64.wrap (s + 1) = s + 1 := wrap_i64 (by omega) (by omega)
  have w2 : IntKind.i64.wrap t = t := wrap_i64 (by omega) (by omega)
  have w3 : IntKind.i64.wrap (t + 1) = t + 1 := wrap_i64 (by omega) (by omega)
  have nz : ¬ (s + 1 = 0) := by omega
  have HT := ht.symm
  clear t0 ht
  go_enter Try.func10, Try.ntmps10
  go_wp2_with fail
  refine cc.mono ?_
  rintro e1 w9 ⟨rfl, rfl⟩
  go_wp2_with fail
  go_ret2
  exact ⟨by rw [e.out]; first | rfl | (simp only [wrap64]; congr 4; omega), Below.refl _ _⟩

theorem refDroop_any (w : World) (v s : Int) : Calls Try.prog 11 #[.int .i64 v, .int .i64 s] w (RetIEB w (droopC v s)) := by
  obtain ⟨r, hr⟩ : ∃ r, r = droopC v s := ⟨_, rfl⟩
  rw [← hr]
  have cc := refMay_any w v s
  by_cases h : mayQ v s
  case neg =>
    have e := Lib.hid (show r = (0, 2) by rw [hr, droopC, if_neg h])
    rw [decide_eq_false h] at cc
    clear hr h
    go_enter Try.func11, Try.ntmps11
    go_wp2_with fail
    refine cc.mono ?_
    rintro e1 w9 ⟨rfl, rfl⟩
    go_wp2_with fail
    go_ret2
    exact ⟨by rw [e.out]; rfl, Below.refl _ _⟩
  have e := Lib.hid (show r = (v / (s + 1) + 1, 0) by rw [hr, droopC, if_pos h])
  rw [decide_eq_true h] at cc
  obtain ⟨⟨v1, v2⟩, s1, s2⟩ := h
  clear hr
  obtain ⟨t, ht⟩ : ∃ t, t = v.tdiv (s + 1) := ⟨_, rfl⟩
  have t0 : t = v / (s + 1) := by rw [ht, Int.tdiv_eq_ediv_of_nonneg v1]
  have tb : 0 ≤ t ∧ t ≤ 1000000 := by
    rw [t0]
    exact ⟨Int.ediv_nonneg v1 (by omega), Int.le_trans (Int.ediv_le_self _ v1) v2⟩
  have e := Lib.hid (show r = (t + 1, 0) by rw [e.out, t0])
  have w1 : IntKind.i64.wrap (s + 1) = s + 1 := wrap_i64 (by omega) (by omega)
  have w2 : IntKind.i64.wrap t = t := wrap_i64 (by omega) (by omega)
  have w3 : IntKind.i64.wrap (t + 1) = t + 1 := wrap_i64 (by omega) (by omega)
  have nz : ¬ (s + 1 = 0) := by omega
  have HT := ht.symm
  clear t0 ht
  go_enter Try.func11, Try.ntmps11
  go_wp2_with fail
  refine cc.mono ?_
  rintro e1 w9 ⟨rfl, rfl⟩
  go_wp2_with fail
  go_ret2
  exact ⟨by rw [e.out]; first | rfl | (simp only [wrap64]; congr 4; omega), Below.refl _ _⟩

set_option maxRecDepth 100000 in
set_option maxHeartbeats 1000000 in
theorem part_any (w : World) (v s d : Int) (h3 : -9223372036854775808 ≤ d) (h4 : d < 9223372036854775808) : Calls Try.prog 35 #[.int .i64 v, .int .i64 s, .int .i64 d] w (RetQE w (partC v s d)) := by
  obtain ⟨r, hr⟩ : ∃ r, r = partC v s d := ⟨_, rfl⟩
  rw [← hr]
  have R0 := Row.new w #[.bool false, .slice none 0 0, .slice none 0 0]
  have cc := qmay_any (w.alloc (.cells #[.bool false, .slice none 0 0, .slice none 0 0] 27)) v s
  by_cases h : mayQ v s
  case neg =>
    have e := Lib.hid (show r = (zeroV, 2) by rw [hr, partC, if_neg h])
    have row := R0.row
    have HB := Lib.hid (fun cs => below_row R0.below R0.lo cs)
    rw [decide_eq_false h] at cc
    clear hr h
    go_enter Try.func35, Try.ntmps35
    go_wp2_with fail
    refine cc.mono ?_
    rintro e1 w9 ⟨rfl, rfl⟩
    go_wp2_with (refine wpList_store_whole rfl 27 _ _ rfl atRat _ _ _ row rfl rfl rfl rfl (rat_one _ _ _ _ _ _ _) ?_)
    refine bodyPost_ret (results_cell_two rfl _ _ _ _ _ _ _ rfl (setRow_heap _ _ _ _ _ _ row) Try.underlying27 rfl (by kernel_rfl) _ rfl) rfl ?_
    refine ⟨none, 0, 0, none, 0, 0, by rw [e.out]; rfl, ?_, ?_, HB.out _⟩
    · rw [e.out]; exact Rd.nil _ _
    · rw [e.out]; exact Rd.nil _ _
  have HR := Lib.hid (show r = ofC v d by rw [hr, partC, if_pos h])
  rw [decide_eq_true h] at cc
  have vb := h.1
  clear hr h
  go_enter Try.func35, Try.ntmps35
  go_wp2_with fail
  refine cc.mono ?_
  rintro e1 w9 ⟨rfl, rfl⟩
  clear cc
  have cc := ratOf_any (w.alloc (.cells #[.bool false, .slice none 0 0, .slice none 0 0] 27)) v d (by omega) (by omega) h3 h4
  rw [← HR.out] at cc
  clear vb h3 h4
  go_wp2_with fail
  refine cc.mono ?_
  rintro e1 w1 ⟨ap, np, cp, aq, nq, cq, rfl, hp, hq, hb⟩
  clear cc
  have R1 := R0.later hb
  have row := R1.row
  have HB := Lib.hid (fun cs => below_row R1.below R1.lo cs)
  have fin := Lib.hid (fun cs => (⟨rd_rowset hp row (rat_noint _ _ _ _ _ _ _) cs, rd_rowset hq row (rat_noint _ _ _ _ _ _ _) cs⟩ : _ ∧ _))
  clear hb hp hq
  go_wp2_with (refine wpList_store_whole rfl 27 _ _ rfl atRat _ _ _ row rfl rfl rfl rfl (rat_one _ _ _ _ _ _ _) ?_)
  refine bodyPost_ret (results_cell_two rfl _ _ _ _ _ _ _ rfl (setRow_heap _ _ _ _ _ _ row) Try.underlying27 rfl (by kernel_rfl) _ rfl) rfl ?_
  exact ⟨ap, np, cp, aq, nq, cq, rfl, (fin.out _).1, (fin.out _).2, HB.out _⟩

set_option maxRecDepth 100000 in
set_option maxHeartbeats 1000000 in
theorem hare_any (w : World) (v s : Int) (h3 : -9223372036854775808 ≤ s) (h4 : s < 9223372036854775808) : Calls Try.prog 12 #[.int .i64 v, .int .i64 s] w (RetQE w (partC v s s)) := by
  have R0 := Row.new w #[.bool false, .slice none 0 0, .slice none 0 0]
  have cc := part_any (w.alloc (.cells #[.bool false, .slice none 0 0, .slice none 0 0] 27)) v s s h3 h4
  obtain ⟨r, hr⟩ : ∃ r, r = partC v s s := ⟨_, rfl⟩
  rw [← hr] at cc ⊢
  clear hr h3 h4
  go_enter Try.func12, Try.ntmps12
  go_wp2_with fail
  refine cc.mono ?_
  rintro e1 w1 ⟨ap, np, cp, aq, nq, cq, rfl, hp, hq, hb⟩
  clear cc
  have R1 := R0.later hb
  have row := R1.row
  have HB := Lib.hid (fun cs => below_row R1.below R1.lo cs)
  have fin := Lib.hid (fun cs => (⟨rd_rowset hp row (rat_noint _ _ _ _ _ _ _) cs, rd_rowset hq row (rat_noint _ _ _ _ _ _ _) cs⟩ : _ ∧ _))
  clear hb hp hq
  go_wp2_with (refine wpList_store_whole rfl 27 _ _ rfl atRat _ _ _ row rfl rfl rfl rfl (rat_one _ _ _ _ _ _ _) ?_)
  refine bodyPost_ret (results_cell_two rfl _ _ _ _ _ _ _ rfl (setRow_heap _ _ _ _ _ _ row) Try.underlying27 rfl (by kernel_rfl) _ rfl) rfl ?_
  exact ⟨ap, np, cp, aq, nq, cq, rfl, (fin.out _).1, (fin.out _).2, HB.out _⟩

theorem partC_wrap {v s : Int} : partC v s (IntKind.i64.wrap (s + 1)) = partC v s (s + 1) := by
  unfold partC
  by_cases h : mayQ v s
  · rw [if_pos h, if_pos h, wrap_i64 (by have := h.2; omega) (by have := h.2; omega)]
  · rw [if_neg h, if_neg h]

set_option maxRecDepth 100000 in
set_option maxHeartbeats 1000000 in
theorem hag_any (w : World) (v s : Int) (h3 : -9223372036854775808 ≤ s) (h4 : s < 9223372036854775808) : Calls Try.prog 14 #[.int .i64 v, .int .i64 s] w (RetQE w (partC v s (s + 1))) := by
  have R0 := Row.new w #[.bool false, .slice none 0 0, .slice none 0 0]
  obtain ⟨t, ht⟩ : ∃ t, t = IntKind.i64.wrap (s + 1) := ⟨_, rfl⟩
  have tb : -9223372036854775808 ≤ t ∧ t < 9223372036854775808 := by
    rw [ht, IntKind.wrap_i64]
    omega
  have cc := part_any (w.alloc (.cells #[.bool false, .slice none 0 0, .slice none 0 0] 27)) v s t tb.1 tb.2
  rw [ht, partC_wrap, ← ht] at cc
  have wt : wrap64 (s + 1) = t := by rw [ht]; simp only [wrap64, IntKind.wrap_i64]
  have HT := Lib.hid ht
  clear ht
  obtain ⟨r, hr⟩ : ∃ r, r = partC v s (s + 1) := ⟨_, rfl⟩
  rw [← hr] at cc ⊢
  clear hr h3 h4 tb
  go_enter Try.func14, Try.ntmps14
  go_wp2_with fail
  first | refine cc.mono ?_ | (rw [wt]; refine cc.mono ?_) | (rw [← HT.out]; refine cc.mono ?_)
  rintro e1 w1 ⟨ap, np, cp, aq, nq, cq, rfl, hp, hq, hb⟩
  clear cc
  have R1 := R0.later hb
  have row := R1.row
  have HB := Lib.hid (fun cs => below_row R1.below R1.lo cs)
  have fin := Lib.hid (fun cs => (⟨rd_rowset hp row (rat_noint _ _ _ _ _ _ _) cs, rd_rowset hq row (rat_noint _ _ _ _ _ _ _) cs⟩ : _ ∧ _))
  clear hb hp hq
  go_wp2_with (refine wpList_store_whole rfl 27 _ _ rfl atRat _ _ _ row rfl rfl rfl rfl (rat_one _ _ _ _ _ _ _) ?_)
  refine bodyPost_ret (results_cell_two rfl _ _ _ _ _ _ _ rfl (setRow_heap _ _ _ _ _ _ row) Try.underlying27 rfl (by kernel_rfl) _ rfl) rfl ?_
  exact ⟨ap, np, cp, aq, nq, cq, rfl, (fin.out _).1, (fin.out _).2, HB.out _⟩

set_option maxRecDepth 100000 in
set_option maxHeartbeats 1000000 in
theorem refHare_any (w : World) (v s : Int) (h3 : -9223372036854775808 ≤ s) (h4 : s < 9223372036854775808) : Calls Try.prog 13 #[.int .i64 v, .int .i64 s] w (RetQE w (partC v s s)) := by
  obtain ⟨r, hr⟩ : ∃ r, r = partC v s s := ⟨_, rfl⟩
  rw [← hr]
  have R0 := Row.new w #[.bool false, .slice none 0 0, .slice none 0 0]
  have cc := refMay_any (w.alloc (.cells #[.bool false, .slice none 0 0, .slice none 0 0] 27)) v s
  by_cases h : mayQ v s
  case neg =>
    have e := Lib.hid (show r = (zeroV, 2) by rw [hr, partC, if_neg h])
    have row := R0.row
    have HB := Lib.hid (fun cs => below_row R0.below R0.lo cs)
    rw [decide_eq_false h] at cc
    clear hr h
    go_enter Try.func13, Try.ntmps13
    go_wp2_with fail
    refine cc.mono ?_
    rintro e1 w9 ⟨rfl, rfl⟩
    go_wp2_with (refine wpList_store_whole rfl 27 _ _ rfl atRat _ _ _ row rfl rfl rfl rfl (rat_one _ _ _ _ _ _ _) ?_)
    refine bodyPost_ret (results_cell_two rfl _ _ _ _ _ _ _ rfl (setRow_heap _ _ _ _ _ _ row) Try.underlying27 rfl (by kernel_rfl) _ rfl) rfl ?_
    refine ⟨none, 0, 0, none, 0, 0, by rw [e.out]; rfl, ?_, ?_, HB.out _⟩
    · rw [e.out]; exact Rd.nil _ _
    · rw [e.out]; exact Rd.nil _ _
  have HR := Lib.hid (show r = ofC v s by rw [hr, partC, if_pos h])
  rw [decide_eq_true h] at cc
  obtain ⟨⟨v1, v2⟩, s1, s2⟩ := h
  have wt : IntKind.i64.wrap (s + 1) = s + 1 := wrap_i64 (by omega) (by omega)
  clear hr
  go_enter Try.func13, Try.ntmps13
  go_wp2_with fail
  refine cc.mono ?_
  rintro e1 w9 ⟨rfl, rfl⟩
  clear cc
  have cc := refRatOf_any (w.alloc (.cells #[.bool false, .slice none 0 0, .slice none 0 0] 27)) v s (by omega) (by omega) (by omega) (by omega)
  rw [← HR.out] at cc
  go_wp2_with fail
  refine cc.mono ?_
  rintro e1 w1 ⟨ap, np, cp, aq, nq, cq, rfl, hp, hq, hb⟩
  clear cc
  have R1 := R0.later hb
  have row := R1.row
  have HB := Lib.hid (fun cs => below_row R1.below R1.lo cs)
  have fin := Lib.hid (fun cs => (⟨rd_rowset hp row (rat_noint _ _ _ _ _ _ _) cs, rd_rowset hq row (rat_noint _ _ _ _ _ _ _) cs⟩ : _ ∧ _))
  clear hb hp hq
  go_wp2_with (refine wpList_store_whole rfl 27 _ _ rfl atRat _ _ _ row rfl rfl rfl rfl (rat_one _ _ _ _ _ _ _) ?_)
  refine bodyPost_ret (results_cell_two rfl _ _ _ _ _ _ _ rfl (setRow_heap _ _ _ _ _ _ row) Try.underlying27 rfl (by kernel_rfl) _ rfl) rfl ?_
  exact ⟨ap, np, cp, aq, nq, cq, rfl, (fin.out _).1, (fin.out _).2, HB.out _⟩

set_option maxRecDepth 100000 in
set_option maxHeartbeats 1000000 in
theorem refHag_any (w : World) (v s : Int) (h3 : -9223372036854775808 ≤ s) (h4 : s < 9223372036854775808) : Calls Try.prog 15 #[.int .i64 v, .int .i64 s] w (RetQE w (partC v s (s + 1))) := by
  obtain ⟨r, hr⟩ : ∃ r, r = partC v s (s + 1) := ⟨_, rfl⟩
  rw [← hr]
  have R0 := Row.new w #[.bool false, .slice none 0 0, .slice none 0 0]
  have cc := refMay_any (w.alloc (.cells #[.bool false, .slice none 0 0, .slice none 0 0] 27)) v s
  by_cases h : mayQ v s
  case neg =>
    have e := Lib.hid (show r = (zeroV, 2) by rw [hr, partC, if_neg h])
    have row := R0.row
    have HB := Lib.hid (fun cs => below_row R0.below R0.lo cs)
    rw [decide_eq_false h] at cc
    clear hr h
    go_enter Try.func15, Try.ntmps15
    go_wp2_with fail
    refine cc.mono ?_
    rintro e1 w9 ⟨rfl, rfl⟩
    go_wp2_with (refine wpList_store_whole rfl 27 _ _ rfl atRat _ _ _ row rfl rfl rfl rfl (rat_one _ _ _ _ _ _ _) ?_)
    refine bodyPost_ret (results_cell_two rfl _ _ _ _ _ _ _ rfl (setRow_heap _ _ _ _ _ _ row) Try.underlying27 rfl (by kernel_rfl) _ rfl) rfl ?_
    refine ⟨none, 0, 0, none, 0, 0, by rw [e.out]; rfl, ?_, ?_, HB.out _⟩
    · rw [e.out]; exact Rd.nil _ _
    · rw [e.out]; exact Rd.nil _ _
  have HR := Lib.hid (show r = ofC v (s + 1) by rw [hr, partC, if_pos h])
  rw [decide_eq_true h] at cc
  obtain ⟨⟨v1, v2⟩, s1, s2⟩ := h
  have wt : IntKind.i64.wrap (s + 1) = s + 1 := wrap_i64 (by omega) (by omega)
  clear hr
  go_enter Try.func15, Try.ntmps15
  go_wp2_with fail
  refine cc.mono ?_
  rintro e1 w9 ⟨rfl, rfl⟩
  clear cc
  have cc := refRatOf_any (w.alloc (.cells #[.bool false, .slice none 0 0, .slice none 0 0] 27)) v (s + 1) (by omega) (by omega) (by omega) (by omega)
  rw [← HR.out] at cc
  go_wp2_with fail
  refine cc.mono ?_
  rintro e1 w1 ⟨ap, np, cp, aq, nq, cq, rfl, hp, hq, hb⟩
  clear cc
  have R1 := R0.later hb
  have row := R1.row
  have HB := Lib.hid (fun cs => below_row R1.below R1.lo cs)
  have fin := Lib.hid (fun cs => (⟨rd_rowset hp row (rat_noint _ _ _ _ _ _ _) cs, rd_rowset hq row (rat_noint _ _ _ _ _ _ _) cs⟩ : _ ∧ _))
  clear hb hp hq
  go_wp2_with (refine wpList_store_whole rfl 27 _ _ rfl atRat _ _ _ row rfl rfl rfl rfl (rat_one _ _ _ _ _ _ _) ?_)
  refine bodyPost_ret (results_cell_two rfl _ _ _ _ _ _ _ rfl (setRow_heap _ _ _ _ _ _ row) Try.underlying27 rfl (by kernel_rfl) _ rfl) rfl ?_
  exact ⟨ap, np, cp, aq, nq, cq, rfl, (fin.out _).1, (fin.out _).2, HB.out _⟩

end Go.Proofs.Ytfcejgeckcoefaa
