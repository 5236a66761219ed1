/- Rational numbers in the document's answer: Whole, side, both, Same. -/
import Derived.Test.YtdaajeklnhbhjaaGreatDoorRatD
namespace Go.Proofs.YtdaajeklnhbhjaaGreatDoor
open Go.RowKit Go.Suf
set_option linter.unusedVariables false
set_option linter.unusedSimpArgs false

set_option maxRecDepth 100000 in
set_option maxHeartbeats 1000000 in
theorem refWhole_any (w : World) (n : Int) (h1 : -9223372036854775808 ≤ n) (h2 : n < 9223372036854775808) :
    Calls Tryz.prog 24 #[.int .i64 n] w (RetQ w (ofC n 1).1) := by
  obtain ⟨r, hr⟩ : ∃ r, r = ofC n 1 := ⟨_, rfl⟩
  rw [← hr]
  have HR := Lib.hid hr
  have R0 := Row.new w #[.bool false, .slice none 0 0, .slice none 0 0]
  have HN := Lib.hid (show -9223372036854775808 ≤ n ∧ n < 9223372036854775808 from ⟨h1, h2⟩)
  clear hr h1 h2
  go_enter Tryz.func24, Tryz.ntmps24
  go_wp2_with fail
  have cc := refRatOf_any (w.alloc (.cells #[.bool false, .slice none 0 0, .slice none 0 0] 24)) n 1 HN.out.1 HN.out.2 (by decide) (by decide)
  rw [← HR.out] at cc
  refine cc.mono ?_
  rintro e2 w1 ⟨ap, np, cp, aq, nq, cq, rfl, hp, hq, hb⟩
  clear cc
  have R1 := R0.later hb
  have hA := below_al w1 (.cells #[.bool r.1.neg, .slice ap np cp, .slice aq nq cq] 24)
  have R2 := R1.later hA
  have hp := hp.below hA
  have hq := hq.below hA
  have H2 := Has.new w1 #[.bool r.1.neg, .slice ap np cp, .slice aq nq cq] 24
  have k0 := H2.cell 0 _ rfl
  have k1 := H2.cell 1 _ rfl
  have k2 := H2.cell 2 _ rfl
  have row := R2.row
  have HB := Lib.hid (fun cs => below_row R2.below R2.lo cs)
  have fin := Lib.hid (fun cs => (⟨rd_rowset hp row (rat_noint _ _ _ _ _ _ _) cs, rd_rowset hq row (rat_noint _ _ _ _ _ _ _) cs⟩ : _ ∧ _))
  clear hb hA
  go_wp2_with first | refine wpList_store_new rfl 24 _ _ rfl atRat _ _ _ rfl rfl rfl rfl (rat_one _ _ _ _ _ _ _) ?_ | refine wpList_store_whole rfl 24 _ _ rfl atRat _ _ _ row rfl rfl rfl rfl (rat_one _ _ _ _ _ _ _) ?_
  refine bodyPost_ret (results_cell_row rfl _ _ _ _ _ _ _ rfl (setRow_heap _ _ _ _ _ _ row) Tryz.underlying24 rfl (by kernel_rfl)) rfl ?_
  exact ⟨ap, np, cp, aq, nq, cq, rfl, (fin.out _).1, (fin.out _).2, HB.out _⟩

set_option maxHeartbeats 1000000 in
theorem refSide_any (w : World) {neg : Bool} {a b : Option Addr} {n m c d : Nat} {xs ys : List Nat} (h : Rd .u32 w a n c xs) (h' : Rd .u32 w b m d ys) :
    Calls Tryz.prog 54 #[ratV neg a n c b m d] w (RetIB w (sideV ⟨neg, xs, ys⟩)) := by
  have B0 := Box.new w neg a n c b m d
  have c0 := B0.at0
  have c1 := B0.at1
  obtain ⟨r, hr⟩ : ∃ r, r = sideV ⟨neg, xs, ys⟩ := ⟨_, rfl⟩
  rw [← hr]
  have hn := h.len
  by_cases h0 : n = 0
  · have e := Lib.hid (show r = 0 by rw [hr, sideV, if_pos (by rw [hn]; exact h0)])
    subst h0
    clear hr hn
    go_enter Tryz.func54, Tryz.ntmps54
    go_wp2_with fail
    go_ret
    exact ⟨by rw [e.out]; rfl, B0.below⟩
  · have hn0 : ((n : Int) == 0) = false := by rw [beq_eq_false_iff_ne]; omega
    have e := Lib.hid (show r = if neg = true then -1 else 1 by rw [hr, sideV, if_neg (by rw [hn]; exact h0)])
    clear hr hn h0
    cases neg
    all_goals
      go_enter Tryz.func54, Tryz.ntmps54
      go_wp2_with fail
      go_ret
      exact ⟨by rw [e.out]; rfl, B0.below⟩

def RetBB (w : World) (r : Bool) : Ending → World → Prop := fun e w' => e = .returned (.bool r) ∧ Below w.heap.size w w'

def sameV (x y : QV) : Bool := (x.neg == y.neg) && sameN x.num y.num && sameN x.den y.den

theorem two_boxes (w : World) (x y : Array Value) :
    Has w ((w.alloc (.cells x 24)).alloc (.cells y 24)) w.heap.size x ∧ Has w ((w.alloc (.cells x 24)).alloc (.cells y 24)) (w.heap.size + 1) y := by
  have s1 : (w.alloc (.cells x 24)).heap.size = w.heap.size + 1 := World.size_alloc _ _
  have h1 := Has.new w x 24
  have h2 := Has.new (w.alloc (.cells x 24)) y 24
  have h3 := h1.later h2.below
  rw [s1] at h2
  exact ⟨h3, h3.below, h2.cell, h2.lt⟩

set_option maxHeartbeats 1000000 in
theorem refRatSame_any (w : World) {g1 g2 : Bool} {a b a' b' : Option Addr} {n m c d n' m' c' d' : Nat} {xs ys xs' ys' : List Nat}
    (h1 : Rd .u32 w a n c xs) (h2 : Rd .u32 w b m d ys) (h3 : Rd .u32 w a' n' c' xs') (h4 : Rd .u32 w b' m' d' ys') :
    Calls Tryz.prog 20 #[ratV g1 a n c b m d, ratV g2 a' n' c' b' m' d'] w (RetBB w (sameV ⟨g1, xs, ys⟩ ⟨g2, xs', ys'⟩)) := by
  obtain ⟨r, hr⟩ : ∃ r, r = sameV ⟨g1, xs, ys⟩ ⟨g2, xs', ys'⟩ := ⟨_, rfl⟩
  rw [← hr]
  obtain ⟨L1, L2⟩ := two_boxes w #[.bool g1, .slice a n c, .slice b m d] #[.bool g2, .slice a' n' c', .slice b' m' d']
  have k0 := L1.cell 0 _ rfl
  have k1 := L1.cell 1 _ rfl
  have k3 := L2.cell 0 _ rfl
  have k4 := L2.cell 1 _ rfl
  by_cases hg : g1 = g2
  · subst hg
    have q1 : (g1 == g1) = true := by simp
    cases hs : sameN xs xs' with
    | false =>
      have e := Lib.hid (show r = false by rw [hr, sameV]; simp [hs])
      have HS := Lib.hid hs
      clear hr hs
      go_enter Tryz.func20, Tryz.ntmps20
      go_wp2_with fail
      have cc := refSame_any _ (h1.below L1.below) (h3.below L1.below)
      rw [HS.out] at cc
      refine cc.mono ?_
      rintro e1 w4 ⟨rfl, nq, rfl⟩
      clear cc
      go_wp2_with fail
      go_ret
      exact ⟨by rw [e.out]; rfl, below_drewN L1.below nq⟩
    | true =>
      have e := Lib.hid (show r = sameN ys ys' by rw [hr, sameV]; simp [hs])
      have HS := Lib.hid hs
      clear hr hs
      go_enter Tryz.func20, Tryz.ntmps20
      go_wp2_with fail
      have cc := refSame_any _ (h1.below L1.below) (h3.below L1.below)
      rw [HS.out] at cc
      refine cc.mono ?_
      rintro e1 w4 ⟨rfl, nq, rfl⟩
      clear cc
      have hd := fun (W : World) => below_drewN (Below.refl W.heap.size W) nq
      have L3 := L1.later (hd _)
      have L4 := L2.later (hd _)
      have k2 := L3.cell 2 _ rfl
      have k5 := L4.cell 2 _ rfl
      clear k0 k1 k3 k4
      go_wp2_with fail
      have cc := refSame_any _ (h2.below L3.below) (h4.below L3.below)
      rw [← e.out] at cc
      refine cc.mono ?_
      rintro e1 w4 ⟨rfl, mq, rfl⟩
      clear cc
      go_wp2_with fail
      go_ret
      exact ⟨rfl, below_drewN L1.below _⟩
  · have q1 : (g1 == g2) = false := by rw [beq_eq_false_iff_ne]; exact hg
    have e := Lib.hid (show r = false by rw [hr, sameV]; simp [q1])
    clear hr hg
    go_enter Tryz.func20, Tryz.ntmps20
    go_wp2_with fail
    go_ret
    exact ⟨by rw [e.out]; rfl, L1.below⟩

end Go.Proofs.YtdaajeklnhbhjaaGreatDoor
/- Rational numbers: size, Of, Whole, side. Printed by gen_ratk.py. -/
namespace Go.Proofs.YtdaajeklnhbhjaaGreatDoor
open Go.RowKit Go.Suf
set_option linter.unusedVariables false
set_option linter.unusedSimpArgs false

set_option maxHeartbeats 1000000 in
theorem ratSize_any (w : World) (n : Int) (h1 : -9223372036854775808 ≤ n) (h2 : n < 9223372036854775808) :
    Calls Tryz.prog 44 #[.int .i64 n] w fun e w' => e = .returned (.int .u64 (n.natAbs : Nat)) ∧ w = w' := by
  obtain ⟨k, hk⟩ : ∃ k, k = n.natAbs := ⟨_, rfl⟩
  rw [← hk]
  by_cases h : n < 0
  · have d : decide (n < 0) = true := decide_eq_true h
    obtain ⟨u, hu⟩ : ∃ u, u = n + 1 := ⟨_, rfl⟩
    obtain ⟨v, hv⟩ : ∃ v, v = -u := ⟨_, rfl⟩
    have e1 : IntKind.i64.wrap (n + 1) = u := by rw [wrap_i64 (by omega) (by omega), hu]
    have e2 : IntKind.i64.wrap (-u) = v := by rw [wrap_i64 (by omega) (by omega), hv]
    have e3 : IntKind.u64.wrap v = v := wrap_u64 (by omega) (by omega)
    have e4 : IntKind.u64.wrap (v + 1) = (k : Int) := by rw [wrap_u64 (by omega) (by omega)]; omega
    clear hu hv hk
    go_enter Tryz.func44, Tryz.ntmps44
    go_wp2_with fail
    go_ret
    exact ⟨rfl, rfl⟩
  · have d : decide (n < 0) = false := decide_eq_false h
    have e3 : IntKind.u64.wrap n = (k : Int) := by rw [wrap_u64 (by omega) (by omega)]; omega
    clear hk
    go_enter Tryz.func44, Tryz.ntmps44
    go_wp2_with fail
    go_ret
    exact ⟨rfl, rfl⟩

set_option maxRecDepth 100000 in
set_option maxHeartbeats 1000000 in
theorem ratOf_any (w : World) (n d : Int) (h1 : -9223372036854775808 ≤ n) (h2 : n < 9223372036854775808) (h3 : -9223372036854775808 ≤ d) (h4 : d < 9223372036854775808) :
    Calls Tryz.prog 12 #[.int .i64 n, .int .i64 d] w (RetQE w (ofC n d)) := by
  obtain ⟨r, hr⟩ : ∃ r, r = ofC n d := ⟨_, rfl⟩
  rw [← hr]
  have R0 := Row.new w #[.bool false, .slice none 0 0, .slice none 0 0]
  by_cases hd : d = 0
  · have hres := Lib.hid (show r = (zeroV, 40) by rw [hr, ofC, if_pos hd])
    have row := R0.row
    subst hd
    clear hr
    go_enter Tryz.func12, Tryz.ntmps12
    go_wp2_with (refine wpList_store_whole rfl 24 _ _ rfl atRat _ _ _ row rfl rfl rfl rfl (rat_one _ _ _ _ _ _ _) ?_)
    refine bodyPost_ret (results_cell_two rfl _ _ _ _ _ _ _ rfl (setRow_heap _ _ _ _ _ _ row) Tryz.underlying24 rfl (by kernel_rfl) _ rfl) rfl ?_
    refine ⟨none, 0, 0, none, 0, 0, by rw [hres.out]; rfl, ?_, ?_, below_row R0.below R0.lo _⟩
    · rw [hres.out]; exact Rd.nil _ _
    · rw [hres.out]; exact Rd.nil _ _
  · obtain ⟨x, hx⟩ : ∃ x, x = ofQ ((n : Rat) / (d : Rat)) := ⟨_, rfl⟩
    have hres := Lib.hid (show r = (x, 0) by rw [hr, ofC, if_neg hd, hx])
    have HX := Lib.hid (show x = lowV (decide (n < 0) != decide (d < 0)) n.natAbs d.natAbs by rw [hx, of_low hd])
    have d0 : (d == 0) = false := by rw [beq_eq_false_iff_ne]; exact hd
    have l1 : n.natAbs < 18446744073709551616 := by omega
    have l2 : d.natAbs < 18446744073709551616 := by omega
    have hz := Lib.hid (show d.natAbs ≠ 0 by omega)
    have HN := Lib.hid (show -9223372036854775808 ≤ n ∧ n < 9223372036854775808 from ⟨h1, h2⟩)
    have HD := Lib.hid (show -9223372036854775808 ≤ d ∧ d < 9223372036854775808 from ⟨h3, h4⟩)
    obtain ⟨bn, hbn⟩ : ∃ bn, bn = decide (n < 0) := ⟨_, rfl⟩
    obtain ⟨bd, hbd⟩ : ∃ bd, bd = decide (d < 0) := ⟨_, rfl⟩
    have dn : decide (n < 0) = bn := hbn.symm
    have dd : decide (d < 0) = bd := hbd.symm
    rw [dn, dd] at HX
    clear hr hd hx h1 h2 h3 h4 hbn hbd
    go_enter Tryz.func12, Tryz.ntmps12
    go_wp2_with fail
    refine (ratSize_any _ n HN.out.1 HN.out.2).mono ?_
    rintro e1 w1 ⟨rfl, rfl⟩
    go_wp2_with fail
    refine (Of_any _ n.natAbs l1).mono ?_
    rintro e1 w1 ⟨ax, nx, cx, rfl, hx, hb⟩
    have R1 := R0.later hb
    clear hb
    go_wp2_with fail
    refine (ratSize_any _ d HD.out.1 HD.out.2).mono ?_
    rintro e1 w2 ⟨rfl, rfl⟩
    go_wp2_with fail
    refine (Of_any _ d.natAbs l2).mono ?_
    rintro e1 w2 ⟨ay, ny, cy, rfl, hy, hb⟩
    have R2 := R1.later hb
    have hx := hx.below hb
    clear hb
    go_wp2_with fail
    have cc := lowest_any _ (bn != bd) hx hy (lt_pw96 l1) (lt_pw96 l2) hz.out
    rw [← HX.out] at cc
    refine cc.mono ?_
    rintro e2 w3 ⟨ap, np, cp, aq, nq, cq, rfl, hp, hq, hb⟩
    clear cc
    have R3 := R2.later hb
    have row := R3.row
    have HB := Lib.hid (fun cs => below_row R3.below R3.lo cs)
    have fin := Lib.hid (fun cs => (⟨rd_rowset hp row (rat_noint _ _ _ _ _ _ _) cs, rd_rowset hq row (rat_noint _ _ _ _ _ _ _) cs⟩ : _ ∧ _))
    clear hb hx hy
    go_wp2_with (refine wpList_store_whole rfl 24 _ _ rfl atRat _ _ _ row rfl rfl rfl rfl (rat_one _ _ _ _ _ _ _) ?_)
    refine bodyPost_ret (results_cell_two rfl _ _ _ _ _ _ _ rfl (setRow_heap _ _ _ _ _ _ row) Tryz.underlying24 rfl (by kernel_rfl) _ rfl) rfl ?_
    refine ⟨ap, np, cp, aq, nq, cq, by rw [hres.out]; rfl, ?_, ?_, HB.out _⟩
    · rw [hres.out]; exact (fin.out _).1
    · rw [hres.out]; exact (fin.out _).2

theorem ofC_whole (n : Int) : (ofC n 1).1 = ⟨decide (n < 0), limbs n.natAbs, limbs 1⟩ := by
  rw [ofC, if_neg (by decide)]
  show ofQ ((n : Rat) / ((1 : Int) : Rat)) = _
  rw [← of_low (by decide), show decide ((1 : Int) < 0) = false from rfl]
  unfold lowV
  simp only [Int.natAbs_one, Nat.gcd_one_right, Nat.div_one]
  have e : ((decide (n < 0) != false) && decide (0 < n.natAbs)) = decide (n < 0) := by
    by_cases h : n < 0
    · have h2 : 0 < n.natAbs := by omega
      simp [h, h2]
    · simp [h]
  rw [e]

set_option maxRecDepth 100000 in
set_option maxHeartbeats 1000000 in
theorem whole_any (w : World) (n : Int) (h1 : -9223372036854775808 ≤ n) (h2 : n < 9223372036854775808) :
    Calls Tryz.prog 23 #[.int .i64 n] w (RetQ w (ofC n 1).1) := by
  obtain ⟨r, hr⟩ : ∃ r, r = (ofC n 1).1 := ⟨_, rfl⟩
  rw [← hr]
  obtain ⟨bn, hbn⟩ : ∃ bn, bn = decide (n < 0) := ⟨_, rfl⟩
  have hres := Lib.hid (show r = ⟨bn, limbs n.natAbs, limbs 1⟩ by rw [hr, ofC_whole, hbn])
  have dn : decide (n < 0) = bn := hbn.symm
  have R0 := Row.new w #[.bool false, .slice none 0 0, .slice none 0 0]
  have HN := Lib.hid (show -9223372036854775808 ≤ n ∧ n < 9223372036854775808 from ⟨h1, h2⟩)
  have l1 : n.natAbs < 18446744073709551616 := by omega
  clear hr hbn h1 h2
  go_enter Tryz.func23, Tryz.ntmps23
  go_wp2_with fail
  refine (ratSize_any _ n HN.out.1 HN.out.2).mono ?_
  rintro e1 w1 ⟨rfl, rfl⟩
  go_wp2_with fail
  refine (Of_any _ n.natAbs l1).mono ?_
  rintro e1 w1 ⟨ax, nx, cx, rfl, hx, hb⟩
  have R1 := R0.later hb
  clear hb
  go_wp2_with fail
  refine (ratOne_any _).mono ?_
  rintro e1 w2 ⟨rfl, rfl⟩
  have hA := below_al w1 (.cells #[.int .u32 1] 49)
  have R2 := R1.later hA
  have hx := hx.below hA
  have hy := lit_one w1
  have row := R2.row
  have HB := Lib.hid (fun cs => below_row R2.below R2.lo cs)
  have fin := Lib.hid (fun cs => (⟨rd_rowset hx row (rat_noint _ _ _ _ _ _ _) cs, rd_rowset hy row (rat_noint _ _ _ _ _ _ _) cs⟩ : _ ∧ _))
  clear hA hx hy
  go_wp2_with (refine wpList_store_whole rfl 24 _ _ rfl atRat _ _ _ row rfl rfl rfl rfl (rat_one _ _ _ _ _ _ _) ?_)
  refine bodyPost_ret (results_cell_row rfl _ _ _ _ _ _ _ rfl (setRow_heap _ _ _ _ _ _ row) Tryz.underlying24 rfl (by kernel_rfl)) rfl ?_
  refine ⟨_, _, _, _, _, _, by rw [hres.out], ?_, ?_, HB.out _⟩
  · rw [hres.out]; exact (fin.out _).1
  · rw [hres.out]; exact (fin.out _).2

set_option maxHeartbeats 1000000 in
theorem ratSide_any (w : World) {neg : Bool} {a b : Option Addr} {n m c d : Nat} {xs ys : List Nat} (h : Rd .u32 w a n c xs) (h' : Rd .u32 w b m d ys) :
    Calls Tryz.prog 50 #[ratV neg a n c b m d] w (RetIB w (sideV ⟨neg, xs, ys⟩)) := by
  have B0 := Box.new w neg a n c b m d
  have c0 := B0.at0
  have c1 := B0.at1
  obtain ⟨r, hr⟩ : ∃ r, r = sideV ⟨neg, xs, ys⟩ := ⟨_, rfl⟩
  rw [← hr]
  have hn := h.len
  by_cases h0 : n = 0
  · have e := Lib.hid (show r = 0 by rw [hr, sideV, if_pos (by rw [hn]; exact h0)])
    subst h0
    clear hr hn
    go_enter Tryz.func50, Tryz.ntmps50
    go_wp2_with fail
    go_ret
    exact ⟨by rw [e.out]; rfl, B0.below⟩
  · have hn0 : ((n : Int) == 0) = false := by rw [beq_eq_false_iff_ne]; omega
    have e := Lib.hid (show r = if neg = true then -1 else 1 by rw [hr, sideV, if_neg (by rw [hn]; exact h0)])
    clear hr hn h0
    cases neg
    all_goals
      go_enter Tryz.func50, Tryz.ntmps50
      go_wp2_with fail
      go_ret
      exact ⟨by rw [e.out]; rfl, B0.below⟩

end Go.Proofs.YtdaajeklnhbhjaaGreatDoor
/- Rational numbers in the document's answer: both, Long, Cmp. -/
namespace Go.Proofs.YtdaajeklnhbhjaaGreatDoor
open Go.RowKit Go.Suf
set_option linter.unusedVariables false
set_option linter.unusedSimpArgs false

def bothOk (x y : QV) : Bool := decide (chkV x = 0 ∧ chkV y = 0)

set_option maxHeartbeats 1000000 in
theorem refRatBoth_any (w : World) {g1 g2 : Bool} {a b a' b' : Option Addr} {n m c d n' m' c' d' : Nat} {xs ys xs' ys' : List Nat}
    (h1 : Rd .u32 w a n c xs) (h2 : Rd .u32 w b m d ys) (h3 : Rd .u32 w a' n' c' xs') (h4 : Rd .u32 w b' m' d' ys') :
    Calls Tryz.prog 53 #[ratV g1 a n c b m d, ratV g2 a' n' c' b' m' d'] w (RetBB w (bothOk ⟨g1, xs, ys⟩ ⟨g2, xs', ys'⟩)) := by
  obtain ⟨r, hr⟩ : ∃ r, r = bothOk ⟨g1, xs, ys⟩ ⟨g2, xs', ys'⟩ := ⟨_, rfl⟩
  rw [← hr]
  obtain ⟨L1, L2⟩ := two_boxes w #[.bool g1, .slice a n c, .slice b m d] #[.bool g2, .slice a' n' c', .slice b' m' d']
  have k0 := L1.cell 0 _ rfl
  have k1 := L1.cell 1 _ rfl
  have k2 := L1.cell 2 _ rfl
  by_cases hg : chkV ⟨g1, xs, ys⟩ = 0
  · have hcase : (chkV ⟨g2, xs', ys'⟩ = 0 ∧ r = true) ∨ (chkV ⟨g2, xs', ys'⟩ = 8 ∧ r = false) := by
      rcases chkV_two ⟨g2, xs', ys'⟩ with h | h
      · exact .inl ⟨h, by rw [hr, bothOk]; simp [hg, h]⟩
      · exact .inr ⟨h, by rw [hr, bothOk]; simp [h]⟩
    have C1 := Lib.hid hg
    clear hr hg
    rcases hcase with ⟨hc, hr⟩ | ⟨hc, hr⟩
    all_goals
      have C2 := Lib.hid hc
      have e := Lib.hid hr
      clear hc hr
      go_enter Tryz.func53, Tryz.ntmps53
      go_wp2_with fail
      have cc := refRatCheck_any (neg := g1) _ (h1.below L1.below) (h2.below L1.below)
      rw [C1.out] at cc
      refine cc.mono ?_
      rintro e1 w1 ⟨rfl, hb⟩
      clear cc
      have L3 := L1.later hb
      have L4 := L2.later hb
      have k3 := L4.cell 0 _ rfl
      have k4 := L4.cell 1 _ rfl
      have k5 := L4.cell 2 _ rfl
      clear k0 k1 k2 hb
      go_wp2_with fail
      have cc := refRatCheck_any (neg := g2) _ (h3.below L3.below) (h4.below L3.below)
      rw [C2.out] at cc
      refine cc.mono ?_
      rintro e1 w2 ⟨rfl, hb⟩
      clear cc
      go_wp2_with fail
      go_ret
      exact ⟨by rw [e.out]; rfl, L3.below.trans (hb.mono L3.below.size)⟩
  · have e := Lib.hid (show r = false by rw [hr, bothOk]; simp [hg])
    have C1 := Lib.hid ((chkV_two _).resolve_left hg)
    clear hr hg
    go_enter Tryz.func53, Tryz.ntmps53
    go_wp2_with fail
    have cc := refRatCheck_any (neg := g1) _ (h1.below L1.below) (h2.below L1.below)
    rw [C1.out] at cc
    refine cc.mono ?_
    rintro e1 w1 ⟨rfl, hb⟩
    clear cc
    clear k0 k1 k2
    go_wp2_with fail
    go_ret
    exact ⟨by rw [e.out]; rfl, L1.below.trans (hb.mono L1.below.size)⟩

/-- Whether a number is too long for the answer. -/
def longV (x : QV) : Bool := longB x.num || longB x.den || decide (200 < x.num.length) || decide (200 < x.den.length)

set_option maxHeartbeats 1000000 in
theorem refRatLong_any (w : World) {neg : Bool} {a b : Option Addr} {n m c d : Nat} {xs ys : List Nat} (h : Rd .u32 w a n c xs) (h' : Rd .u32 w b m d ys) :
    Calls Tryz.prog 40 #[ratV neg a n c b m d] w (RetBB w (longV ⟨neg, xs, ys⟩)) := by
  have B0 := Box.new w neg a n c b m d
  have c1 := B0.at1
  have c2 := B0.at2
  have r1 := h.below B0.below
  have r2 := h'.below B0.below
  obtain ⟨r, hr⟩ : ∃ r, r = longV ⟨neg, xs, ys⟩ := ⟨_, rfl⟩
  rw [← hr]
  have hn := h.len
  have hm := h'.len
  have HR := Lib.hid (show r = (longB xs || longB ys || decide (200 < n) || decide (200 < m)) by rw [hr, longV, hn, hm])
  obtain ⟨p, hp⟩ : ∃ p, p = longB xs := ⟨_, rfl⟩
  obtain ⟨q, hq⟩ : ∃ q, q = longB ys := ⟨_, rfl⟩
  have HP := Lib.hid hp
  have HQ := Lib.hid hq
  rw [← hp, ← hq] at HR
  by_cases e1 : 200 < n <;> by_cases e2 : 200 < m
  all_goals
    have d1 := Lib.hid e1
    have d2 := Lib.hid e2
    clear hr hn hm hp hq
    cases p <;> cases q
  all_goals
    go_enter Tryz.func40, Tryz.ntmps40
    go_wp2_with fail
    have cc := Long_any _ r1
    rw [← HP.out] at cc
    refine cc.mono ?_
    rintro e1 w1 ⟨rfl, rfl⟩
    clear cc
    go_wp2_with fail
    try
      have cc := Long_any _ r2
      rw [← HQ.out] at cc
      refine cc.mono ?_
      rintro e1 w1 ⟨rfl, rfl⟩
      clear cc
      go_wp2_with fail
    go_ret
    have o1 := d1.out
    have o2 := d2.out
    exact ⟨by rw [HR.out]; simp [o1, o2] <;> omega, B0.below⟩

end Go.Proofs.YtdaajeklnhbhjaaGreatDoor
