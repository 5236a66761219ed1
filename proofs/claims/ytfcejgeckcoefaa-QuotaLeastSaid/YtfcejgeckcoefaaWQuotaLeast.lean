/- The walk of the law QuotaLeast: it returns true and turns nothing that was there. No condition. Printed by gen_quolaws.py. -/
import Derived.Test.YtfcejgeckcoefaaQuoG
import Derived.Test.YtfcejgeckcoefaaQuoH
import Derived.BigQuiet
import Derived.Deep.CutRange
namespace Go.Proofs.Ytfcejgeckcoefaa
open Go.RowKit Go.Suf
set_option linter.unusedVariables false
set_option linter.unusedSimpArgs false

/-- The Droop quota q is the least with v < q * (s + 1). -/
theorem least_law {v s : Int} (h : mayQ v s) : ∃ q P Q : Int, droopC v s = (q, 0) ∧ 1 ≤ q ∧ q ≤ 1000001 ∧ q * (s + 1) = P ∧ (q - 1) * (s + 1) = Q ∧ v < P ∧ Q ≤ v ∧ 0 ≤ Q ∧ P ≤ 20000000 := by
  obtain ⟨⟨v1, v2⟩, s1, s2⟩ := h
  have e := Int.mul_ediv_add_emod v (s + 1)
  have m0 := Int.emod_nonneg v (show s + 1 ≠ 0 by omega)
  have m1 := Int.emod_lt_of_pos v (show 0 < s + 1 by omega)
  have q0 : 0 ≤ v / (s + 1) := Int.ediv_nonneg v1 (by omega)
  have q1 : v / (s + 1) ≤ v := Int.ediv_le_self _ v1
  refine ⟨v / (s + 1) + 1, _, _, by rw [droopC, if_pos ⟨⟨v1, v2⟩, s1, s2⟩], by omega, by omega, rfl, rfl, ?_, ?_, ?_, ?_⟩
  · rw [Int.add_mul, Int.one_mul, Int.mul_comm]
    omega
  · rw [Int.add_sub_cancel, Int.mul_comm]
    omega
  · rw [Int.add_sub_cancel]
    exact Int.mul_nonneg q0 (by omega)
  · rw [Int.add_mul, Int.one_mul, Int.mul_comm]
    omega

set_option maxRecDepth 100000 in
set_option maxHeartbeats 8000000 in
theorem quotaLeast_walk (w : World) (v : Int) (h_v1 : -9223372036854775808 ≤ v) (h_v2 : v ≤ 9223372036854775807) (s : Int) (h_s1 : -9223372036854775808 ≤ s) (h_s2 : s ≤ 9223372036854775807) :
    Calls Try.prog 5 #[.int .i64 v, .int .i64 s] w fun e w' => e = .returned (.bool true) ∧ Below w.heap.size w w' := by
  have i_v : i64 v := ⟨h_v1, h_v2⟩
  have i_s : i64 s := ⟨h_s1, h_s2⟩
  have l_v : v < 9223372036854775808 := by omega
  have l_s : s < 9223372036854775808 := by omega
  have B0 : Below w.heap.size w w := Below.refl _ _
  by_cases hm : mayQ v s
  case neg =>
    have DM := Lib.hid (show decide (mayQ v s) = false from decide_eq_false hm)
    have DC := Lib.hid (show droopC v s = (0, 2) by rw [droopC, if_neg hm])
    clear hm
    go_enter Try.func5, Try.ntmps5
    go_wp2_with fail
    have c := droop_any w v s
    rw [DC.out] at c
    refine c.mono ?_
    rintro e w1 ⟨rfl, hb⟩
    clear c
    have B1 := B0.trans (hb.mono B0.size)
    clear hb B0
    go_wp2_with fail
    have c := refMay_b w1 v s
    rw [DM.out] at c
    refine c.mono ?_
    rintro e w2 ⟨rfl, hb⟩
    clear c
    have B2 := B1.trans (hb.mono B1.size)
    clear hb B1
    go_wp2_with fail
    have c := wakes_any w2
    refine c.mono ?_
    rintro e w3 ⟨rfl, hb⟩
    clear c
    have B3 := B2.trans (hb.mono B2.size)
    clear hb B2
    go_wp2_with fail
    go_ret
    exact ⟨rfl, B3⟩
  obtain ⟨q, P, Q, hc, q1, q2, hP, hQ, l1, l2, l3, l4⟩ := least_law hm
  have DM := Lib.hid (show decide (mayQ v s) = true from decide_eq_true hm)
  have DC := Lib.hid hc
  have v1 := hm.1.1
  have v2 := hm.1.2
  have s1 := hm.2.1
  have s2 := hm.2.2
  have f1 : IntKind.i64.wrap (q * (s + 1)) = P := by rw [hP]; exact wrap_i64 (by omega) (by omega)
  have f1' : wrap64 (q * (s + 1)) = P := by rw [hP]; simp only [wrap64]; omega
  have f2 : IntKind.i64.wrap ((q - 1) * (s + 1)) = Q := by rw [hQ]; exact wrap_i64 (by omega) (by omega)
  have f2' : wrap64 ((q - 1) * (s + 1)) = Q := by rw [hQ]; simp only [wrap64]; omega
  have d1 : decide (1 ≤ q) = true := decide_eq_true q1
  have d2 : decide (v < P) = true := decide_eq_true l1
  have d3 : decide (Q ≤ v) = true := decide_eq_true l2
  clear hm hc hP hQ
  go_enter Try.func5, Try.ntmps5
  go_wp2_with fail
  have c := droop_any w v s
  rw [DC.out] at c
  refine c.mono ?_
  rintro e w1 ⟨rfl, hb⟩
  clear c
  have B1 := B0.trans (hb.mono B0.size)
  clear hb B0
  go_wp2_with fail
  have c := refMay_b w1 v s
  rw [DM.out] at c
  refine c.mono ?_
  rintro e w2 ⟨rfl, hb⟩
  clear c
  have B2 := B1.trans (hb.mono B1.size)
  clear hb B1
  go_wp2_with fail
  have c := wakes_any w2
  refine c.mono ?_
  rintro e w3 ⟨rfl, hb⟩
  clear c
  have B3 := B2.trans (hb.mono B2.size)
  clear hb B2
  go_wp2_with fail
  go_ret
  exact ⟨rfl, B3⟩

end Go.Proofs.Ytfcejgeckcoefaa
