/- Rational numbers in the document's answer: far, Of, Whole, Same, side, both, Long. -/
import Derived.Test.YtfcejgeckcoefaaRatF
import Derived.Test.YtfcejgeckcoefaaRatD
namespace Go.Proofs.Ytfcejgeckcoefaa
open Go.RowKit Go.Suf
set_option linter.unusedVariables false
set_option linter.unusedSimpArgs false

theorem wrap_i64 {n : Int} (h1 : -9223372036854775808 ≤ n) (h2 : n < 9223372036854775808) : IntKind.i64.wrap n = n := by
  simp [IntKind.wrap, IntKind.bits, IntKind.signed]
  omega

theorem wrap_u64 {n : Int} (h1 : 0 ≤ n) (h2 : n < 18446744073709551616) : IntKind.u64.wrap n = n := by
  simp [IntKind.wrap, IntKind.bits, IntKind.signed]
  omega

set_option maxHeartbeats 1000000 in
theorem refFar_any (w : World) (n : Int) (h1 : -9223372036854775808 ≤ n) (h2 : n < 9223372036854775808) :
    Calls Try.prog 65 #[.int .i64 n] w fun e w' => e = .returned (.int .u64 (n.natAbs : Nat)) ∧ w = w' := by
  obtain ⟨k, hk⟩ : ∃ k, k = n.natAbs := ⟨_, rfl⟩
  rw [← hk]
  by_cases h : n < 0
  · have d : decide (n < 0) = true := decide_eq_true h
    obtain ⟨u, hu⟩ : ∃ u, u = n + 1 := ⟨_, rfl⟩
    obtain ⟨v, hv⟩ : ∃ v, v = -u := ⟨_, rfl⟩
    have e1 : IntKind.i64.wrap (n + 1) = u := by rw [wrap_i64 (by omega) (by omega), hu]
    have e2 : IntKind.i64.wrap (-u) = v := by rw [wrap_i64 (by omega) (by omega), hv]
    have e3 : IntKind.u64.wrap v = v := wrap_u64 (by omega) (by omega)
    have e4 : IntKind.u64.wrap (v + 1) = (k : Int) := by rw [wrap_u64 (by omega) (by omega)]; omega
    clear hu hv hk
    go_enter Try.func65, Try.ntmps65
    go_wp2_with fail
    go_ret
    exact ⟨rfl, rfl⟩
  · have d : decide (n < 0) = false := decide_eq_false h
    have e3 : IntKind.u64.wrap n = (k : Int) := by rw [wrap_u64 (by omega) (by omega)]; omega
    clear hk
    go_enter Try.func65, Try.ntmps65
    go_wp2_with fail
    go_ret
    exact ⟨rfl, rfl⟩

theorem lt_pw96 {A : Nat} (h : A < 18446744073709551616) : A < pw 96 := Nat.lt_of_lt_of_le (show A < pw 2 from h) (pw_le (by decide))

set_option maxRecDepth 100000 in
set_option maxHeartbeats 1000000 in
theorem refRatOf_any (w : World) (n d : Int) (h1 : -9223372036854775808 ≤ n) (h2 : n < 9223372036854775808) (h3 : -9223372036854775808 ≤ d) (h4 : d < 9223372036854775808) :
    Calls Try.prog 36 #[.int .i64 n, .int .i64 d] w (RetQE w (ofC n d)) := by
  obtain ⟨r, hr⟩ : ∃ r, r = ofC n d := ⟨_, rfl⟩
  rw [← hr]
  have R0 := Row.new w #[.bool false, .slice none 0 0, .slice none 0 0]
  by_cases hd : d = 0
  · have hres := Lib.hid (show r = (zeroV, 40) by rw [hr, ofC, if_pos hd])
    have row := R0.row
    subst hd
    clear hr
    go_enter Try.func36, Try.ntmps36
    go_wp2_with (refine wpList_store_whole rfl 27 _ _ rfl atRat _ _ _ row rfl rfl rfl rfl (rat_one _ _ _ _ _ _ _) ?_)
    refine bodyPost_ret (results_cell_two rfl _ _ _ _ _ _ _ rfl (setRow_heap _ _ _ _ _ _ row) Try.underlying27 rfl (by kernel_rfl) _ rfl) rfl ?_
    refine ⟨none, 0, 0, none, 0, 0, by rw [hres.out]; rfl, ?_, ?_, below_row R0.below R0.lo _⟩
    · rw [hres.out]; exact Rd.nil _ _
    · rw [hres.out]; exact Rd.nil _ _
  · obtain ⟨x, hx⟩ : ∃ x, x = ofQ ((n : Rat) / (d : Rat)) := ⟨_, rfl⟩
    have hres := Lib.hid (show r = (x, 0) by rw [hr, ofC, if_neg hd, hx])
    have HX := Lib.hid (show x = lowV (decide (n < 0) != decide (d < 0)) n.natAbs d.natAbs by rw [hx, of_low hd])
    have d0 : (d == 0) = false := by rw [beq_eq_false_iff_ne]; exact hd
    have l1 : n.natAbs < 18446744073709551616 := by omega
    have l2 : d.natAbs < 18446744073709551616 := by omega
    have hz := Lib.hid (show d.natAbs ≠ 0 by omega)
    have HN := Lib.hid (show -9223372036854775808 ≤ n ∧ n < 9223372036854775808 from ⟨h1, h2⟩)
    have HD := Lib.hid (show -9223372036854775808 ≤ d ∧ d < 9223372036854775808 from ⟨h3, h4⟩)
    obtain ⟨bn, hbn⟩ : ∃ bn, bn = decide (n < 0) := ⟨_, rfl⟩
    obtain ⟨bd, hbd⟩ : ∃ bd, bd = decide (d < 0) := ⟨_, rfl⟩
    have dn : decide (n < 0) = bn := hbn.symm
    have dd : decide (d < 0) = bd := hbd.symm
    rw [dn, dd] at HX
    clear hr hd hx h1 h2 h3 h4 hbn hbd
    go_enter Try.func36, Try.ntmps36
    go_wp2_with fail
    refine (refFar_any _ n HN.out.1 HN.out.2).mono ?_
    rintro e1 w1 ⟨rfl, rfl⟩
    go_wp2_with fail
    refine (refOf_any _ n.natAbs l1).mono ?_
    rintro e1 w1 ⟨ax, nx, cx, rfl, hx, hb⟩
    have R1 := R0.later hb
    clear hb
    go_wp2_with fail
    refine (refFar_any _ d HD.out.1 HD.out.2).mono ?_
    rintro e1 w2 ⟨rfl, rfl⟩
    go_wp2_with fail
    refine (refOf_any _ d.natAbs l2).mono ?_
    rintro e1 w2 ⟨ay, ny, cy, rfl, hy, hb⟩
    have R2 := R1.later hb
    have hx := hx.below hb
    clear hb
    go_wp2_with fail
    have cc := refLowest_any _ (bn != bd) hx hy (lt_pw96 l1) (lt_pw96 l2) hz.out
    rw [← HX.out] at cc
    refine cc.mono ?_
    rintro e2 w3 ⟨ap, np, cp, aq, nq, cq, rfl, hp, hq, hb⟩
    clear cc
    have R3 := R2.later hb
    have row := R3.row
    have HB := Lib.hid (fun cs => below_row R3.below R3.lo cs)
    have fin := Lib.hid (fun cs => (⟨rd_rowset hp row (rat_noint _ _ _ _ _ _ _) cs, rd_rowset hq row (rat_noint _ _ _ _ _ _ _) cs⟩ : _ ∧ _))
    clear hb hx hy
    go_wp2_with (refine wpList_store_whole rfl 27 _ _ rfl atRat _ _ _ row rfl rfl rfl rfl (rat_one _ _ _ _ _ _ _) ?_)
    refine bodyPost_ret (results_cell_two rfl _ _ _ _ _ _ _ rfl (setRow_heap _ _ _ _ _ _ row) Try.underlying27 rfl (by kernel_rfl) _ rfl) rfl ?_
    refine ⟨ap, np, cp, aq, nq, cq, by rw [hres.out]; rfl, ?_, ?_, HB.out _⟩
    · rw [hres.out]; exact (fin.out _).1
    · rw [hres.out]; exact (fin.out _).2

end Go.Proofs.Ytfcejgeckcoefaa
