/- Risk of comparison audits in the answer. -/
import Derived.Test.YtmkcdlhhbnakiaaCmpH
namespace Go.Proofs.Ytmkcdlhhbnakiaa
open Go.RowKit Go.Suf
set_option linter.unusedVariables false
set_option linter.unusedSimpArgs false

theorem ofQ_nat (N : Nat) : ofQ ((N : Int) : Rat) = ⟨false, limbs N, limbs 1⟩ := by
  unfold ofQ
  rw [Rat.num_intCast, Rat.den_intCast, Int.natAbs_natCast, decide_eq_false (by omega)]

theorem fitQ_nat {N : Nat} (h : N < pw 96) : fitQ ((N : Int) : Rat) := by
  unfold fitQ
  rw [Rat.num_intCast, Rat.den_intCast, Int.natAbs_natCast]
  exact ⟨h, Nat.lt_of_lt_of_le (by decide) (pw_le (show 1 ≤ 96 by decide))⟩

theorem limbs_1 : limbs 1 = [1] := by
  have := val_limbs 1
  rw [limbs]
  simp
  rw [limbs]
  simp

theorem div_nat {A B : Nat} (hA : A < pw 96) (hB : B < pw 96) (hz : B ≠ 0) : divV ⟨false, limbs A, limbs 1⟩ ⟨false, limbs B, limbs 1⟩ = (lowV false A B, 0) := by
  have hq : ((B : Int) : Rat) ≠ 0 := by
    intro h
    have := Rat.num_eq_zero.2 h
    rw [Rat.num_intCast] at this
    omega
  have hn : (((B : Int) : Rat)⁻¹).num.natAbs = 1 := by
    have := congrArg QV.num (ofQ_inv hq)
    have h2 : limbs (((B : Int) : Rat)⁻¹).num.natAbs = limbs ((B : Int) : Rat).den := this
    rw [Rat.den_intCast] at h2
    have h3 := congrArg val h2
    rwa [val_limbs, val_limbs] at h3
  have hd : (((B : Int) : Rat)⁻¹).den = B := by
    have := congrArg QV.den (ofQ_inv hq)
    have h2 : limbs (((B : Int) : Rat)⁻¹).den = limbs ((B : Int) : Rat).num.natAbs := this
    rw [Rat.num_intCast, Int.natAbs_natCast] at h2
    have h3 := congrArg val h2
    rwa [val_limbs, val_limbs] at h3
  have hs : decide ((((B : Int) : Rat)⁻¹).num < 0) = false := by
    have := congrArg QV.neg (ofQ_inv hq)
    have h2 : decide ((((B : Int) : Rat)⁻¹).num < 0) = decide (((B : Int) : Rat).num < 0) := this
    rw [h2, Rat.num_intCast]
    exact decide_eq_false (by omega)
  rw [← ofQ_nat, ← ofQ_nat]
  show (if chkV (ofQ ((A : Int) : Rat)) = 0 ∧ chkV (ofQ ((B : Int) : Rat)) = 0 then divQ (toQ (ofQ ((A : Int) : Rat))) (toQ (ofQ ((B : Int) : Rat))) else (zeroV, 8)) = _
  rw [if_pos ⟨chkV_ofQ (fitQ_nat hA), chkV_ofQ (fitQ_nat hB)⟩, toQ_ofQ, toQ_ofQ, divQ, if_neg hq, mulQ, if_pos, ← mul_low, hs, hn, hd]
  · rw [Rat.num_intCast, Rat.den_intCast, Int.natAbs_natCast, Nat.mul_one, Nat.one_mul, decide_eq_false (by omega)]
    rfl
  · rw [hn, hd, Rat.num_intCast, Rat.den_intCast, Int.natAbs_natCast, Nat.mul_one, Nat.one_mul]
    exact ⟨hA, hB⟩

theorem riskCC_bad {p : CV} (h : chkC p ≠ 0) : riskCC p = (zeroV, 8) := by unfold riskCC; rw [if_neg h]
theorem riskCC_ok {p : CV} {L B : Nat} (v : VldC p L B) : riskCC p = (lowV false oneN B, 0) := by
  unfold riskCC
  rw [if_pos v.chk, v.best, val_limbs]

/-- A state that was boxed, and a block for a rational result behind it. -/
theorem cm_risk_blocks (w : World) (x : Array Value) :
    PRow 25 w ((w.alloc (.cells x 25)).alloc (.cells #[.bool false, .slice none 0 0, .slice none 0 0] 34)) w.heap.size x ∧
    PRow 34 w ((w.alloc (.cells x 25)).alloc (.cells #[.bool false, .slice none 0 0, .slice none 0 0] 34)) (w.heap.size + 1) #[.bool false, .slice none 0 0, .slice none 0 0] := by
  have s1 : (w.alloc (.cells x 25)).heap.size = w.heap.size + 1 := World.size_alloc _ _
  have h1 := PRow.new 25 w x
  have h2 := PRow.new 34 (w.alloc (.cells x 25)) #[.bool false, .slice none 0 0, .slice none 0 0]
  have h3 := h1.later h2.below
  rw [s1] at h2
  exact ⟨h3, h3.below, h2.row, by omega, h2.lt⟩

set_option maxRecDepth 100000 in
set_option maxHeartbeats 2000000 in
theorem refCmRisk_any (w : World) {p : CV} {a b : Option Addr} {n m c d : Nat} (h1 : Rd .u32 w a n c p.lev) (h2 : Rd .u32 w b m d p.best) (hw : CW p) :
    Calls Try.prog 35 #[cmV p a n c b m d] w (RetQE w (riskCC p)) := by
  obtain ⟨r, hr⟩ : ∃ r, r = riskCC p := ⟨_, rfl⟩
  rw [← hr]
  obtain ⟨R0, R1⟩ := cm_risk_blocks w (cmC p a n c b m d)
  have k0 := R0.cell 0 _ rfl
  have k1 := R0.cell 1 _ rfl
  have k2 := R0.cell 2 _ rfl
  have k3 := R0.cell 3 _ rfl
  have k4 := R0.cell 4 _ rfl
  have k5 := R0.cell 5 _ rfl
  have k6 := R0.cell 6 _ rfl
  have k7 := R0.cell 7 _ rfl
  have k8 := R0.cell 8 _ rfl
  have k9 := R0.cell 9 _ rfl
  by_cases hc : chkC p = 0
  case neg =>
    have e := Lib.hid (show r = (zeroV, 8) by rw [hr]; exact riskCC_bad hc)
    have C := Lib.hid ((chkC_two _).resolve_left hc)
    clear hr hc
    go_enter Try.func35, Try.ntmps35
    go_wp2_with fail
    have cc := refCmCheck_any _ (h1.below R0.below) (h2.below R0.below) hw
    rw [C.out] at cc
    refine cc.mono ?_
    rintro e1 w1 ⟨rfl, hb⟩
    have R1 := R1.later hb
    have row1 := R1.row
    have HB := Lib.hid (fun cs => below_row R1.below R1.lo cs)
    clear cc hb
    go_wp2_with (refine wpList_store_whole rfl 34 _ _ rfl atRat _ _ _ row1 rfl rfl rfl rfl (rat_one false none 0 0 none 0 0) ?_)
    refine bodyPost_ret (results_cell_two rfl _ _ _ _ _ _ _ rfl (setRow_heap _ _ _ _ _ _ row1) Try.underlying34 rfl (by kernel_rfl) _ rfl) rfl ?_
    refine ⟨none, 0, 0, none, 0, 0, by rw [e.out]; rfl, ?_, ?_, HB.out _⟩
    · rw [e.out]; exact Rd.nil _ _
    · rw [e.out]; exact Rd.nil _ _
  case pos =>
  obtain ⟨L0, B0, vld⟩ := chkC_get (fun x hx => h1.bd x hx) (fun x hx => h2.bd x hx) hc
  have e := Lib.hid (show r = (lowV false oneN B0, 0) by rw [hr]; exact riskCC_ok vld)
  have C := Lib.hid hc
  have V := Lib.hid vld
  have h2' : Rd .u32 w b m d (limbs B0) := by rw [← vld.best]; exact h2
  have one0 : 0 < oneN := by decide
  have PB := Lib.hid (show B0 < pw 96 ∧ B0 ≠ 0 from ⟨vld.pw.2, fun h => by rw [h] at vld; exact Nat.not_lt_of_le vld.lo one0⟩)
  clear one0
  clear hr hc vld
  go_enter Try.func35, Try.ntmps35
  go_wp2_with fail
  have cc := refCmCheck_any _ (h1.below R0.below) (h2.below R0.below) hw
  rw [C.out] at cc
  refine cc.mono ?_
  rintro e1 w1 ⟨rfl, hb⟩
  clear cc
  have R0 := R0.later hb
  have R1 := R1.later hb
  have x2 := h2'.below R0.below
  clear hb k0 k1 k2 k3 k4 k5 k6 k7 k8 k9
  go_wp2_with fail
  refine wp_region_held_drew (S := (fun w' => Below w.heap.size w w' ∧ w'.cell? ⟨w.heap.size, 9, none⟩ = some (.slice b m d))) (by kernel_rfl) ?_ (fun hHeld => ?_)
  · exact ⟨R0.below.drew, by simp only [World.cell?_drew]; exact R0.cell 9 _ rfl⟩
  refine wpAnyH_take (i := 1) (oi := ?oir1_1) (v := ?vr1_1) ?hir1_1 (by kernel_rfl) (by kernel_rfl) (by kernel_rfl) ?hqr1_1 ?hyr1_1 (by assumption) ?restr1_1
  case hir1_1 => simp only [List.getElem?_toArray, List.getElem?_cons_succ, List.getElem?_cons_zero]; rfl
  case hqr1_1 => exact fun _ _ _ h => h
  case hyr1_1 => (refine Or.inl ⟨by rfl, ?_⟩; intro w hSw; (try dsimp only at hSw); go_simp; all_goals with_reducible rfl)
  try simp only [Act.put, List.setIfInBounds_toArray, List.set_cons_zero, List.set_cons_succ]
  refine wpAnyH_take (i := 2) (oi := ?oir1_2) (v := ?vr1_2) ?hir1_2 (by kernel_rfl) (by kernel_rfl) (by kernel_rfl) ?hqr1_2 ?hyr1_2 (by assumption) ?restr1_2
  case hir1_2 => simp only [List.getElem?_toArray, List.getElem?_cons_succ, List.getElem?_cons_zero]; rfl
  case hqr1_2 => exact fun _ _ _ h => h
  case hyr1_2 => (refine Or.inl ⟨by rfl, ?_⟩; intro w hSw; (try dsimp only at hSw); go_simp; all_goals with_reducible rfl)
  try simp only [Act.put, List.setIfInBounds_toArray, List.set_cons_zero, List.set_cons_succ]
  refine wpAnyH_ready (rs := [0]) (by kernel_rfl) (by simp) ?_
  refine AllReadyH.cons (o := ?or1_0) ?hor1_0 (fun K hK => ?kr1_0) AllReadyH.nil
  case hor1_0 => simp only [List.getElem?_toArray, List.getElem?_cons_succ, List.getElem?_cons_zero]; rfl
  go_simp
  (with_reducible refine (refOne_any _).mono ?_); rintro e2 w2 ⟨a1, n1, c1, rfl, y1, hb2⟩; have R0 := R0.later ((Below.refl _ _).drew.trans (hb2.mono (by simp))); have R1 := R1.later ((Below.refl _ _).drew.trans (hb2.mono (by simp))); have x2 := x2.below ((Below.refl _ _).drew.trans (hb2.mono (by simp)))
  go_wp2_with fail
  refine hK.out _ _ ?_ (fun hHeld => ?_)
  · exact ⟨R0.below, R0.cell 9 _ rfl⟩
  clear hK K
  try simp only [Act.put, List.setIfInBounds_toArray, List.set_cons_zero, List.set_cons_succ]
  refine wpAnyH_ready (rs := [3]) (by kernel_rfl) (by simp) ?_
  refine AllReadyH.cons (o := ?or1_3) ?hor1_3 (fun K hK => ?kr1_3) AllReadyH.nil
  case hor1_3 => simp only [List.getElem?_toArray, List.getElem?_cons_succ, List.getElem?_cons_zero]; rfl
  go_simp
  have cc := refLowest_any w2 false (N := oneN) (D := B0) (by rw [one_limbs]; exact y1) x2 one_pw PB.out.1 PB.out.2
  refine cc.mono ?_
  rintro e2 w3 ⟨ap, np, cp, aq, nq, cq, rfl, z1, z2, hb2⟩
  clear cc
  have R0 := R0.later hb2
  have R1 := R1.later hb2
  go_wp2_with fail
  refine hK.out _ _ ?_ (fun hHeld => ?_)
  · exact ⟨R0.below, R0.cell 9 _ rfl⟩
  clear hK K
  try simp only [Act.put, List.setIfInBounds_toArray, List.set_cons_zero, List.set_cons_succ]
  refine wpAnyH_ready (rs := [4]) (by kernel_rfl) (by simp) ?_
  refine (AllReadyH.cons (o := ?ob2_4) ?hob2_4 (fun K hK => ?kb2_4) AllReadyH.nil)
  case hob2_4 => simp only [List.getElem?_toArray, List.getElem?_cons_succ, List.getElem?_cons_zero]; rfl
  case kb2_4 =>
    rw [if_pos (by rfl)]
    refine op_store_whole 34 _ _ rfl atRat _ _ _ R1.row rfl rfl rfl rfl (rat_one _ _ _ _ _ _ _) ?_
    refine hK.out _ _ ?_ (fun hHeld => ?_)
    · exact ⟨below_row R1.below R1.lo _, by simp only [World.cell?, setRow_other _ _ _ _ (show w.heap.size ≠ w.heap.size + 1 by omega)]; exact R0.cell 9 _ rfl⟩
    clear hK K
    try simp only [Act.put, List.setIfInBounds_toArray, List.set_cons_zero, List.set_cons_succ]
    have HB := Lib.hid (below_row R1.below R1.lo #[.bool (lowV false oneN B0).neg, .slice ap np cp, .slice aq nq cq])
    have rowN := setRow_heap _ _ _ #[.bool (lowV false oneN B0).neg, .slice ap np cp, .slice aq nq cq] _ _ R1.row
    have fin := Lib.hid (fun cs => (⟨rd_rowset z1 R1.row (rat_noint _ _ _ _ _ _ _) cs, rd_rowset z2 R1.row (rat_noint _ _ _ _ _ _ _) cs⟩ : _ ∧ _))
    refine wpAnyH_take (i := 5) (oi := ?oir2_5) (v := ?vr2_5) ?hir2_5 (by kernel_rfl) (by kernel_rfl) (by kernel_rfl) ?hqr2_5 ?hyr2_5 (by assumption) ?restr2_5
    case hir2_5 => simp only [List.getElem?_toArray, List.getElem?_cons_succ, List.getElem?_cons_zero]; rfl
    case hqr2_5 => exact fun _ _ _ h => h
    case hyr2_5 => (refine Or.inl ⟨by rfl, ?_⟩; intro w hSw; (try dsimp only at hSw); go_simp; all_goals with_reducible rfl)
    try simp only [Act.put, List.setIfInBounds_toArray, List.set_cons_zero, List.set_cons_succ]
    refine wpAnyH_done (by kernel_rfl) ?_ _
    go_wp2_with fail
    refine bodyPost_ret (results_cell_two rfl _ _ _ _ _ _ _ rfl rowN Try.underlying34 rfl (by kernel_rfl) _ rfl) rfl ?_
    refine ⟨ap, np, cp, aq, nq, cq, by rw [e.out]; rfl, ?_, ?_, HB.out⟩
    · rw [e.out]; exact (fin.out _).1
    · rw [e.out]; exact (fin.out _).2

end Go.Proofs.Ytmkcdlhhbnakiaa
