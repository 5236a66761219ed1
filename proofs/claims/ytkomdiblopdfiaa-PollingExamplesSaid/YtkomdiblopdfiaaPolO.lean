/- Same of polling, and the answer's Same and Great. -/
import Derived.Test.YtkomdiblopdfiaaPolM
import Derived.Laws.StructEq
namespace Go.Proofs.Ytkomdiblopdfiaa
open Go.RowKit Go.Suf
set_option linter.unusedVariables false
set_option linter.unusedSimpArgs false

theorem two_pols (w : World) (x y : Array Value) :
    Has w ((w.alloc (.cells x 25)).alloc (.cells y 25)) w.heap.size x ∧ Has w ((w.alloc (.cells x 25)).alloc (.cells y 25)) (w.heap.size + 1) y := by
  have s1 : (w.alloc (.cells x 25)).heap.size = w.heap.size + 1 := World.size_alloc _ _
  have h1 := Has.new w x 25
  have h2 := Has.new (w.alloc (.cells x 25)) y 25
  have h3 := h1.later h2.below
  rw [s1] at h2
  exact ⟨h3, h3.below, h2.cell, h2.lt⟩

theorem seen_not {a b c a' b' c' : Int} (h : ¬ (a = a' ∧ b = b' ∧ c = c')) : (a == a' && b == b' && c == c') = false := by
  by_cases h1 : a = a' <;> by_cases h2 : b = b' <;> by_cases h3 : c = c' <;> simp [h1, h2, h3]
  exact absurd ⟨h1, h2, h3⟩ h

theorem eqSeen (a b c a' b' c' : Int) (w : World) : (Op.equalIn 10000 22 (.agg #[.int .i64 a, .int .i64 b, .int .i64 c]) (.agg #[.int .i64 a', .int .i64 b', .int .i64 c'])).run Try.prog w = .ok (a == a' && b == b' && c == c') w := by
  have u3 := Try.underlying3
  have a3 := Try.isAgg3
  have z3 := Try.sizeOf3
  rw [show (10000 : Nat) = 9999 + 1 from rfl, Op.equalIn]
  simp only [Sem.run_bind, run_underlying Try.underlying22, Result.andThen_ok]
  simp only [Std.Legacy.Range.forIn_eq_forIn_range', Std.Legacy.Range.size, Nat.sub_zero, Nat.add_sub_cancel, Nat.div_one, List.range'_succ, List.range'_zero, List.forIn_cons, List.forIn_nil]
  go_simp
  by_cases h1 : a = a' <;> by_cases h2 : b = b' <;> by_cases h3 : c = c' <;> simp [h1, h2, h3]

set_option maxRecDepth 100000 in
set_option maxHeartbeats 2000000 in
theorem polSame_any (w : World) {p q : PV} {a b a' b' : Option Addr} {n m c d n' m' c' d' : Nat}
    (h1 : Rd .u32 w a n c p.lev) (h2 : Rd .u32 w b m d p.best) (h3 : Rd .u32 w a' n' c' q.lev) (h4 : Rd .u32 w b' m' d' q.best) :
    Calls Try.prog 20 #[polV p a n c b m d, polV q a' n' c' b' m' d'] w (RetBB w (samePV p q)) := by
  obtain ⟨r, hr⟩ : ∃ r, r = samePV p q := ⟨_, rfl⟩
  rw [← hr]
  obtain ⟨L1, L2⟩ := two_pols w (polC p a n c b m d) (polC q a' n' c' b' m' d')
  have k0 := L1.cell 0 _ rfl
  have k1 := L1.cell 1 _ rfl
  have k2 := L1.cell 2 _ rfl
  have k3 := L1.cell 3 _ rfl
  have k4 := L1.cell 4 _ rfl
  have j0 := L2.cell 0 _ rfl
  have j1 := L2.cell 1 _ rfl
  have j2 := L2.cell 2 _ rfl
  have j3 := L2.cell 3 _ rfl
  have j4 := L2.cell 4 _ rfl
  by_cases hb : p.bet = q.bet
  case neg =>
    have q1 : (p.bet == q.bet) = false := beq_eq_false_iff_ne.2 hb
    have e := Lib.hid (show r = false by rw [hr, samePV]; simp [hb])
    clear hr hb
    go_enter Try.func20, Try.ntmps20
    go_wp2_with fail
    go_ret
    exact ⟨by rw [e.out]; rfl, L1.below⟩
  case pos =>
  have q1 : (p.bet == q.bet) = true := beq_iff_eq.2 hb
  by_cases hs : p.s0 = q.s0 ∧ p.s1 = q.s1 ∧ p.s2 = q.s2
  case neg =>
    have q2 : ∀ w, (Op.equalIn 10000 22 (.agg #[.int .i64 p.s0, .int .i64 p.s1, .int .i64 p.s2]) (.agg #[.int .i64 q.s0, .int .i64 q.s1, .int .i64 q.s2])).run Try.prog w = .ok false w := fun w => by
      rw [eqSeen, seen_not hs]
    have e := Lib.hid (show r = false by rw [hr, samePV, decide_eq_false hs]; simp)
    clear hr hb hs
    go_enter Try.func20, Try.ntmps20
    go_wp2_with fail
    go_ret
    exact ⟨by rw [e.out]; rfl, L1.below⟩
  case pos =>
  have q2 : ∀ w, (Op.equalIn 10000 22 (.agg #[.int .i64 p.s0, .int .i64 p.s1, .int .i64 p.s2]) (.agg #[.int .i64 q.s0, .int .i64 q.s1, .int .i64 q.s2])).run Try.prog w = .ok true w := fun w => by
    rw [eqSeen, beq_iff_eq.2 hs.1, beq_iff_eq.2 hs.2.1, beq_iff_eq.2 hs.2.2]
    rfl
  have hr2 : r = (sameN p.lev q.lev && sameN p.best q.best) := by rw [hr, samePV, decide_eq_true hs, decide_eq_true hb]; rfl
  clear hr hb hs
  cases hl : sameN p.lev q.lev with
  | false =>
    have e := Lib.hid (show r = false by rw [hr2, hl]; rfl)
    have HS := Lib.hid hl
    clear hr2 hl
    go_enter Try.func20, Try.ntmps20
    go_wp2_with fail
    have cc := Same_any _ (h1.below L1.below) (h3.below L1.below)
    rw [HS.out] at cc
    refine cc.mono ?_
    rintro e1 w4 ⟨rfl, nq, rfl⟩
    clear cc
    go_wp2_with fail
    go_ret
    exact ⟨by rw [e.out]; rfl, below_drewN L1.below nq⟩
  | true =>
    have e := Lib.hid (show r = sameN p.best q.best by rw [hr2, hl]; rfl)
    have HS := Lib.hid hl
    clear hr2 hl
    go_enter Try.func20, Try.ntmps20
    go_wp2_with fail
    have cc := Same_any _ (h1.below L1.below) (h3.below L1.below)
    rw [HS.out] at cc
    refine cc.mono ?_
    rintro e1 w4 ⟨rfl, nq, rfl⟩
    clear cc
    have hd := fun (W : World) => below_drewN (Below.refl W.heap.size W) nq
    have L3 := L1.later (hd _)
    have L4 := L2.later (hd _)
    have k5 := L3.cell 5 _ rfl
    have j5 := L4.cell 5 _ rfl
    clear k0 k1 k2 k3 k4 j0 j1 j2 j3 j4
    go_wp2_with fail
    have cc := Same_any _ (h2.below L3.below) (h4.below L3.below)
    rw [← e.out] at cc
    refine cc.mono ?_
    rintro e1 w4 ⟨rfl, mq, rfl⟩
    clear cc
    go_wp2_with fail
    go_ret
    exact ⟨rfl, below_drewN L1.below _⟩

set_option maxRecDepth 100000 in
set_option maxHeartbeats 2000000 in
theorem refPolSame_any (w : World) {p q : PV} {a b a' b' : Option Addr} {n m c d n' m' c' d' : Nat}
    (h1 : Rd .u32 w a n c p.lev) (h2 : Rd .u32 w b m d p.best) (h3 : Rd .u32 w a' n' c' q.lev) (h4 : Rd .u32 w b' m' d' q.best) :
    Calls Try.prog 27 #[polV p a n c b m d, polV q a' n' c' b' m' d'] w (RetBB w (samePV p q)) := by
  obtain ⟨r, hr⟩ : ∃ r, r = samePV p q := ⟨_, rfl⟩
  rw [← hr]
  obtain ⟨L1, L2⟩ := two_pols w (polC p a n c b m d) (polC q a' n' c' b' m' d')
  have k0 := L1.cell 0 _ rfl
  have k1 := L1.cell 1 _ rfl
  have k2 := L1.cell 2 _ rfl
  have k3 := L1.cell 3 _ rfl
  have k4 := L1.cell 4 _ rfl
  have j0 := L2.cell 0 _ rfl
  have j1 := L2.cell 1 _ rfl
  have j2 := L2.cell 2 _ rfl
  have j3 := L2.cell 3 _ rfl
  have j4 := L2.cell 4 _ rfl
  by_cases hb : p.bet = q.bet
  case neg =>
    have q1 : (p.bet == q.bet) = false := beq_eq_false_iff_ne.2 hb
    have e := Lib.hid (show r = false by rw [hr, samePV]; simp [hb])
    clear hr hb
    go_enter Try.func27, Try.ntmps27
    go_wp2_with fail
    go_ret
    exact ⟨by rw [e.out]; rfl, L1.below⟩
  case pos =>
  have q1 : (p.bet == q.bet) = true := beq_iff_eq.2 hb
  by_cases hs : p.s0 = q.s0 ∧ p.s1 = q.s1 ∧ p.s2 = q.s2
  case neg =>
    have q2 : ∀ w, (Op.equalIn 10000 22 (.agg #[.int .i64 p.s0, .int .i64 p.s1, .int .i64 p.s2]) (.agg #[.int .i64 q.s0, .int .i64 q.s1, .int .i64 q.s2])).run Try.prog w = .ok false w := fun w => by
      rw [eqSeen, seen_not hs]
    have e := Lib.hid (show r = false by rw [hr, samePV, decide_eq_false hs]; simp)
    clear hr hb hs
    go_enter Try.func27, Try.ntmps27
    go_wp2_with fail
    go_ret
    exact ⟨by rw [e.out]; rfl, L1.below⟩
  case pos =>
  have q2 : ∀ w, (Op.equalIn 10000 22 (.agg #[.int .i64 p.s0, .int .i64 p.s1, .int .i64 p.s2]) (.agg #[.int .i64 q.s0, .int .i64 q.s1, .int .i64 q.s2])).run Try.prog w = .ok true w := fun w => by
    rw [eqSeen, beq_iff_eq.2 hs.1, beq_iff_eq.2 hs.2.1, beq_iff_eq.2 hs.2.2]
    rfl
  have hr2 : r = (sameN p.lev q.lev && sameN p.best q.best) := by rw [hr, samePV, decide_eq_true hs, decide_eq_true hb]; rfl
  clear hr hb hs
  cases hl : sameN p.lev q.lev with
  | false =>
    have e := Lib.hid (show r = false by rw [hr2, hl]; rfl)
    have HS := Lib.hid hl
    clear hr2 hl
    go_enter Try.func27, Try.ntmps27
    go_wp2_with fail
    have cc := refSame_any _ (h1.below L1.below) (h3.below L1.below)
    rw [HS.out] at cc
    refine cc.mono ?_
    rintro e1 w4 ⟨rfl, nq, rfl⟩
    clear cc
    go_wp2_with fail
    go_ret
    exact ⟨by rw [e.out]; rfl, below_drewN L1.below nq⟩
  | true =>
    have e := Lib.hid (show r = sameN p.best q.best by rw [hr2, hl]; rfl)
    have HS := Lib.hid hl
    clear hr2 hl
    go_enter Try.func27, Try.ntmps27
    go_wp2_with fail
    have cc := refSame_any _ (h1.below L1.below) (h3.below L1.below)
    rw [HS.out] at cc
    refine cc.mono ?_
    rintro e1 w4 ⟨rfl, nq, rfl⟩
    clear cc
    have hd := fun (W : World) => below_drewN (Below.refl W.heap.size W) nq
    have L3 := L1.later (hd _)
    have L4 := L2.later (hd _)
    have k5 := L3.cell 5 _ rfl
    have j5 := L4.cell 5 _ rfl
    clear k0 k1 k2 k3 k4 j0 j1 j2 j3 j4
    go_wp2_with fail
    have cc := refSame_any _ (h2.below L3.below) (h4.below L3.below)
    rw [← e.out] at cc
    refine cc.mono ?_
    rintro e1 w4 ⟨rfl, mq, rfl⟩
    clear cc
    go_wp2_with fail
    go_ret
    exact ⟨rfl, below_drewN L1.below _⟩

/-- Great: a list of the state has more than 40 limbs. -/
def greatP (p : PV) : Bool := decide (40 < p.lev.length ∨ 40 < p.best.length)

set_option maxHeartbeats 1000000 in
theorem great_any (w : World) {p : PV} {a b : Option Addr} {n m c d : Nat} (h1 : Rd .u32 w a n c p.lev) (h2 : Rd .u32 w b m d p.best) :
    Calls Try.prog 21 #[polV p a n c b m d] w (RetBB w (greatP p)) := by
  obtain ⟨r, hr⟩ : ∃ r, r = greatP p := ⟨_, rfl⟩
  rw [← hr]
  have L1 := Has.new w (polC p a n c b m d) 25
  have k4 := L1.cell 4 _ rfl
  have k5 := L1.cell 5 _ rfl
  have hl := h1.len
  have hm := h2.len
  by_cases g1 : 40 < n
  · have d1 : decide ((40 : Int) < (n : Int)) = true := decide_eq_true (by omega)
    have e := Lib.hid (show r = true by rw [hr, greatP]; exact decide_eq_true (.inl (by omega)))
    clear hr hl hm g1
    go_enter Try.func21, Try.ntmps21
    go_wp2_with fail
    go_ret
    exact ⟨by rw [e.out]; rfl, L1.below⟩
  · have d1 : decide ((40 : Int) < (n : Int)) = false := decide_eq_false (by omega)
    have e := Lib.hid (show r = decide ((40 : Int) < (m : Int)) by
      rw [hr, greatP, decide_eq_decide]
      omega)
    clear hr hl hm g1
    go_enter Try.func21, Try.ntmps21
    go_wp2_with fail
    go_ret
    exact ⟨by rw [e.out]; rfl, L1.below⟩

end Go.Proofs.Ytkomdiblopdfiaa
/- Risk of polling, and the answer's. -/
namespace Go.Proofs.Ytkomdiblopdfiaa
open Go.RowKit Go.Suf
set_option linter.unusedVariables false
set_option linter.unusedSimpArgs false

theorem ofQ_nat (N : Nat) : ofQ ((N : Int) : Rat) = ⟨false, limbs N, limbs 1⟩ := by
  unfold ofQ
  rw [Rat.num_intCast, Rat.den_intCast, Int.natAbs_natCast, decide_eq_false (by omega)]

theorem fitQ_nat {N : Nat} (h : N < pw 96) : fitQ ((N : Int) : Rat) := by
  unfold fitQ
  rw [Rat.num_intCast, Rat.den_intCast, Int.natAbs_natCast]
  exact ⟨h, Nat.lt_of_lt_of_le (by decide) (pw_le (show 1 ≤ 96 by decide))⟩

theorem limbs_1 : limbs 1 = [1] := by
  have := val_limbs 1
  rw [limbs]
  simp
  rw [limbs]
  simp

theorem div_nat {A B : Nat} (hA : A < pw 96) (hB : B < pw 96) (hz : B ≠ 0) : divV ⟨false, limbs A, limbs 1⟩ ⟨false, limbs B, limbs 1⟩ = (lowV false A B, 0) := by
  have hq : ((B : Int) : Rat) ≠ 0 := by
    intro h
    have := Rat.num_eq_zero.2 h
    rw [Rat.num_intCast] at this
    omega
  have hn : (((B : Int) : Rat)⁻¹).num.natAbs = 1 := by
    have := congrArg QV.num (ofQ_inv hq)
    have h2 : limbs (((B : Int) : Rat)⁻¹).num.natAbs = limbs ((B : Int) : Rat).den := this
    rw [Rat.den_intCast] at h2
    have h3 := congrArg val h2
    rwa [val_limbs, val_limbs] at h3
  have hd : (((B : Int) : Rat)⁻¹).den = B := by
    have := congrArg QV.den (ofQ_inv hq)
    have h2 : limbs (((B : Int) : Rat)⁻¹).den = limbs ((B : Int) : Rat).num.natAbs := this
    rw [Rat.num_intCast, Int.natAbs_natCast] at h2
    have h3 := congrArg val h2
    rwa [val_limbs, val_limbs] at h3
  have hs : decide ((((B : Int) : Rat)⁻¹).num < 0) = false := by
    have := congrArg QV.neg (ofQ_inv hq)
    have h2 : decide ((((B : Int) : Rat)⁻¹).num < 0) = decide (((B : Int) : Rat).num < 0) := this
    rw [h2, Rat.num_intCast]
    exact decide_eq_false (by omega)
  rw [← ofQ_nat, ← ofQ_nat]
  show (if chkV (ofQ ((A : Int) : Rat)) = 0 ∧ chkV (ofQ ((B : Int) : Rat)) = 0 then divQ (toQ (ofQ ((A : Int) : Rat))) (toQ (ofQ ((B : Int) : Rat))) else (zeroV, 8)) = _
  rw [if_pos ⟨chkV_ofQ (fitQ_nat hA), chkV_ofQ (fitQ_nat hB)⟩, toQ_ofQ, toQ_ofQ, divQ, if_neg hq, mulQ, if_pos, ← mul_low, hs, hn, hd]
  · rw [Rat.num_intCast, Rat.den_intCast, Int.natAbs_natCast, Nat.mul_one, Nat.one_mul, decide_eq_false (by omega)]
    rfl
  · rw [hn, hd, Rat.num_intCast, Rat.den_intCast, Int.natAbs_natCast, Nat.mul_one, Nat.one_mul]
    exact ⟨hA, hB⟩

theorem riskC_bad {p : PV} (h : chkP p ≠ 0) : riskC p = (zeroV, 8) := by unfold riskC; rw [if_neg h]
theorem riskC_ok {p : PV} {L B : Nat} (v : Vld p L B) : riskC p = (lowV false oneN B, 0) := by
  unfold riskC
  rw [if_pos v.chk, v.best, val_limbs]

/-- A state that was boxed, and a block for a rational result behind it. -/
theorem risk_blocks (w : World) (x : Array Value) :
    PRow 25 w ((w.alloc (.cells x 25)).alloc (.cells #[.bool false, .slice none 0 0, .slice none 0 0] 33)) w.heap.size x ∧
    PRow 33 w ((w.alloc (.cells x 25)).alloc (.cells #[.bool false, .slice none 0 0, .slice none 0 0] 33)) (w.heap.size + 1) #[.bool false, .slice none 0 0, .slice none 0 0] := by
  have s1 : (w.alloc (.cells x 25)).heap.size = w.heap.size + 1 := World.size_alloc _ _
  have h1 := PRow.new 25 w x
  have h2 := PRow.new 33 (w.alloc (.cells x 25)) #[.bool false, .slice none 0 0, .slice none 0 0]
  have h3 := h1.later h2.below
  rw [s1] at h2
  exact ⟨h3, h3.below, h2.row, by omega, h2.lt⟩

end Go.Proofs.Ytkomdiblopdfiaa
/- Risk of polling, and the answer's. -/
namespace Go.Proofs.Ytkomdiblopdfiaa
open Go.RowKit Go.Suf
set_option linter.unusedVariables false
set_option linter.unusedSimpArgs false

set_option maxRecDepth 100000 in
set_option maxHeartbeats 2000000 in
theorem risk_any (w : World) {p : PV} {a b : Option Addr} {n m c d : Nat} (h1 : Rd .u32 w a n c p.lev) (h2 : Rd .u32 w b m d p.best) (hw : PW p) :
    Calls Try.prog 15 #[polV p a n c b m d] w (RetQE w (riskC p)) := by
  obtain ⟨r, hr⟩ : ∃ r, r = riskC p := ⟨_, rfl⟩
  rw [← hr]
  obtain ⟨R0, R1⟩ := risk_blocks w (polC p a n c b m d)
  have k0 := R0.cell 0 _ rfl
  have k1 := R0.cell 1 _ rfl
  have k2 := R0.cell 2 _ rfl
  have k3 := R0.cell 3 _ rfl
  have k4 := R0.cell 4 _ rfl
  have k5 := R0.cell 5 _ rfl
  by_cases hc : chkP p = 0
  case neg =>
    have e := Lib.hid (show r = (zeroV, 8) by rw [hr]; exact riskC_bad hc)
    have C := Lib.hid ((chkP_two _).resolve_left hc)
    clear hr hc
    go_enter Try.func15, Try.ntmps15
    go_wp2_with fail
    have cc := check_any _ (h1.below R0.below) (h2.below R0.below) hw
    rw [C.out] at cc
    refine cc.mono ?_
    rintro e1 w1 ⟨rfl, hb⟩
    have R1 := R1.later hb
    have row1 := R1.row
    have HB := Lib.hid (fun cs => below_row R1.below R1.lo cs)
    clear cc hb
    go_wp2_with (refine wpList_store_whole rfl 33 _ _ rfl atRat _ _ _ row1 rfl rfl rfl rfl (rat_one false none 0 0 none 0 0) ?_)
    refine bodyPost_ret (results_cell_two rfl _ _ _ _ _ _ _ rfl (setRow_heap _ _ _ _ _ _ row1) Try.underlying33 rfl (by kernel_rfl) _ rfl) rfl ?_
    refine ⟨none, 0, 0, none, 0, 0, by rw [e.out]; rfl, ?_, ?_, HB.out _⟩
    · rw [e.out]; exact Rd.nil _ _
    · rw [e.out]; exact Rd.nil _ _
  case pos =>
  obtain ⟨L0, B0, vld⟩ := chkP_get (fun x hx => h1.bd x hx) (fun x hx => h2.bd x hx) hc
  have e := Lib.hid (show r = (lowV false oneN B0, 0) by rw [hr]; exact riskC_ok vld)
  have C := Lib.hid hc
  have V := Lib.hid vld
  have h2' : Rd .u32 w b m d (limbs B0) := by rw [← vld.best]; exact h2
  have one0 : 0 < oneN := by decide
  have PB := Lib.hid (show B0 < pw 96 ∧ B0 ≠ 0 from ⟨vld.pw.2, fun h => by rw [h] at vld; exact Nat.not_lt_of_le vld.lo one0⟩)
  clear one0
  clear hr hc vld
  go_enter Try.func15, Try.ntmps15
  go_wp2_with fail
  have cc := check_any _ (h1.below R0.below) (h2.below R0.below) hw
  rw [C.out] at cc
  refine cc.mono ?_
  rintro e1 w1 ⟨rfl, hb⟩
  clear cc
  have R0 := R0.later hb
  have R1 := R1.later hb
  have x2 := h2'.below R0.below
  clear hb k0 k1 k2 k3 k4 k5
  go_wp2_with fail
  refine (one_any _).mono ?_
  rintro e1 w2 ⟨a1, n1, c1, rfl, y1, hb⟩
  have R0 := R0.later hb
  have R1 := R1.later hb
  have x2 := x2.below hb
  clear hb
  have A1 := below_al w2 (.cells #[.int .u32 1] 40)
  have l1 := lit_one w2
  have A2 := below_al (w2.alloc (.cells #[.int .u32 1] 40)) (.cells #[.bool false, .slice a1 n1 c1, .slice (some ⟨w2.heap.size, 0, none⟩) 1 1] 33)
  have H2 := Has.new (w2.alloc (.cells #[.int .u32 1] 40)) #[.bool false, .slice a1 n1 c1, .slice (some ⟨w2.heap.size, 0, none⟩) 1 1] 33
  have A3 := below_al ((w2.alloc (.cells #[.int .u32 1] 40)).alloc (.cells #[.bool false, .slice a1 n1 c1, .slice (some ⟨w2.heap.size, 0, none⟩) 1 1] 33)) (.cells #[.int .u32 1] 40)
  have l3 := lit_one ((w2.alloc (.cells #[.int .u32 1] 40)).alloc (.cells #[.bool false, .slice a1 n1 c1, .slice (some ⟨w2.heap.size, 0, none⟩) 1 1] 33))
  have R0 := (R0.later A1).later A2
  have k5 := R0.cell 5 _ rfl
  have j0 := H2.cell 0 _ rfl
  have j1 := H2.cell 1 _ rfl
  have j2 := H2.cell 2 _ rfl
  have R1 := ((R1.later A1).later A2).later A3
  have y1 := ((y1.below A1).below A2).below A3
  have l1 := (l1.below A2).below A3
  have x2 := ((x2.below A1).below A2).below A3
  rw [← one_limbs] at y1
  have cc := ratDiv_any (g1 := false) (g2 := false) _ y1 l1 x2 l3
  rw [div_nat one_pw PB.out.1 PB.out.2, ← e.out] at cc
  simp only [World.size_alloc] at cc
  clear A1 A2 A3 y1 l1 x2 l3
  go_wp2_with (refine wpList_store_new rfl 33 _ _ rfl atRat _ _ _ rfl rfl rfl rfl (rat_one _ _ _ _ _ _ _) ?_)
  refine cc.mono ?_
  rintro e2 w3 ⟨ap, np, cp, aq, nq, cq, rfl, z1, z2, hb⟩
  clear cc
  have R1 := R1.later hb
  have row1 := R1.row
  have HB := Lib.hid (fun cs => below_row R1.below R1.lo cs)
  have fin := Lib.hid (fun cs => (⟨rd_rowset z1 row1 (rat_noint _ _ _ _ _ _ _) cs, rd_rowset z2 row1 (rat_noint _ _ _ _ _ _ _) cs⟩ : _ ∧ _))
  clear hb z1 z2 k5 j0 j1 j2
  go_wp2_with (refine wpList_store_whole rfl 33 _ _ rfl atRat _ _ _ row1 rfl rfl rfl rfl (rat_one _ _ _ _ _ _ _) ?_)
  refine bodyPost_ret (results_cell_two rfl _ _ _ _ _ _ _ rfl (setRow_heap _ _ _ _ _ _ row1) Try.underlying33 rfl (by kernel_rfl) _ rfl) rfl ?_
  refine ⟨ap, np, cp, aq, nq, cq, rfl, ?_, ?_, HB.out _⟩
  · exact (fin.out _).1
  · exact (fin.out _).2

set_option maxRecDepth 100000 in
set_option maxHeartbeats 2000000 in
theorem refRisk_any (w : World) {p : PV} {a b : Option Addr} {n m c d : Nat} (h1 : Rd .u32 w a n c p.lev) (h2 : Rd .u32 w b m d p.best) (hw : PW p) :
    Calls Try.prog 26 #[polV p a n c b m d] w (RetQE w (riskC p)) := by
  obtain ⟨r, hr⟩ : ∃ r, r = riskC p := ⟨_, rfl⟩
  rw [← hr]
  obtain ⟨R0, R1⟩ := risk_blocks w (polC p a n c b m d)
  have k0 := R0.cell 0 _ rfl
  have k1 := R0.cell 1 _ rfl
  have k2 := R0.cell 2 _ rfl
  have k3 := R0.cell 3 _ rfl
  have k4 := R0.cell 4 _ rfl
  have k5 := R0.cell 5 _ rfl
  by_cases hc : chkP p = 0
  case neg =>
    have e := Lib.hid (show r = (zeroV, 8) by rw [hr]; exact riskC_bad hc)
    have C := Lib.hid ((chkP_two _).resolve_left hc)
    clear hr hc
    go_enter Try.func26, Try.ntmps26
    go_wp2_with fail
    have cc := refPolCheck_any _ (h1.below R0.below) (h2.below R0.below) hw
    rw [C.out] at cc
    refine cc.mono ?_
    rintro e1 w1 ⟨rfl, hb⟩
    have R1 := R1.later hb
    have row1 := R1.row
    have HB := Lib.hid (fun cs => below_row R1.below R1.lo cs)
    clear cc hb
    go_wp2_with (refine wpList_store_whole rfl 33 _ _ rfl atRat _ _ _ row1 rfl rfl rfl rfl (rat_one false none 0 0 none 0 0) ?_)
    refine bodyPost_ret (results_cell_two rfl _ _ _ _ _ _ _ rfl (setRow_heap _ _ _ _ _ _ row1) Try.underlying33 rfl (by kernel_rfl) _ rfl) rfl ?_
    refine ⟨none, 0, 0, none, 0, 0, by rw [e.out]; rfl, ?_, ?_, HB.out _⟩
    · rw [e.out]; exact Rd.nil _ _
    · rw [e.out]; exact Rd.nil _ _
  case pos =>
  obtain ⟨L0, B0, vld⟩ := chkP_get (fun x hx => h1.bd x hx) (fun x hx => h2.bd x hx) hc
  have e := Lib.hid (show r = (lowV false oneN B0, 0) by rw [hr]; exact riskC_ok vld)
  have C := Lib.hid hc
  have V := Lib.hid vld
  have h2' : Rd .u32 w b m d (limbs B0) := by rw [← vld.best]; exact h2
  have one0 : 0 < oneN := by decide
  have PB := Lib.hid (show B0 < pw 96 ∧ B0 ≠ 0 from ⟨vld.pw.2, fun h => by rw [h] at vld; exact Nat.not_lt_of_le vld.lo one0⟩)
  clear one0
  clear hr hc vld
  go_enter Try.func26, Try.ntmps26
  go_wp2_with fail
  have cc := refPolCheck_any _ (h1.below R0.below) (h2.below R0.below) hw
  rw [C.out] at cc
  refine cc.mono ?_
  rintro e1 w1 ⟨rfl, hb⟩
  clear cc
  have R0 := R0.later hb
  have R1 := R1.later hb
  have x2 := h2'.below R0.below
  clear hb k0 k1 k2 k3 k4 k5
  go_wp2_with fail
  refine wp_region_held_drew (S := (fun w' => Below w.heap.size w w' ∧ w'.cell? ⟨w.heap.size, 5, none⟩ = some (.slice b m d))) (by kernel_rfl) ?_ (fun hHeld => ?_)
  · exact ⟨R0.below.drew, by simp only [World.cell?_drew]; exact R0.cell 5 _ rfl⟩
  refine wpAnyH_take (i := 1) (oi := ?oir1_1) (v := ?vr1_1) ?hir1_1 (by kernel_rfl) (by kernel_rfl) (by kernel_rfl) ?hqr1_1 ?hyr1_1 (by assumption) ?restr1_1
  case hir1_1 => simp only [List.getElem?_toArray, List.getElem?_cons_succ, List.getElem?_cons_zero]; rfl
  case hqr1_1 => exact fun _ _ _ h => h
  case hyr1_1 => (refine Or.inl ⟨by rfl, ?_⟩; intro w hSw; (try dsimp only at hSw); go_simp; all_goals with_reducible rfl)
  try simp only [Act.put, List.setIfInBounds_toArray, List.set_cons_zero, List.set_cons_succ]
  refine wpAnyH_take (i := 2) (oi := ?oir1_2) (v := ?vr1_2) ?hir1_2 (by kernel_rfl) (by kernel_rfl) (by kernel_rfl) ?hqr1_2 ?hyr1_2 (by assumption) ?restr1_2
  case hir1_2 => simp only [List.getElem?_toArray, List.getElem?_cons_succ, List.getElem?_cons_zero]; rfl
  case hqr1_2 => exact fun _ _ _ h => h
  case hyr1_2 => (refine Or.inl ⟨by rfl, ?_⟩; intro w hSw; (try dsimp only at hSw); go_simp; all_goals with_reducible rfl)
  try simp only [Act.put, List.setIfInBounds_toArray, List.set_cons_zero, List.set_cons_succ]
  refine wpAnyH_ready (rs := [0]) (by kernel_rfl) (by simp) ?_
  refine AllReadyH.cons (o := ?or1_0) ?hor1_0 (fun K hK => ?kr1_0) AllReadyH.nil
  case hor1_0 => simp only [List.getElem?_toArray, List.getElem?_cons_succ, List.getElem?_cons_zero]; rfl
  go_simp
  (with_reducible refine (refOne_any _).mono ?_); rintro e2 w2 ⟨a1, n1, c1, rfl, y1, hb2⟩; have R0 := R0.later ((Below.refl _ _).drew.trans (hb2.mono (by simp))); have R1 := R1.later ((Below.refl _ _).drew.trans (hb2.mono (by simp))); have x2 := x2.below ((Below.refl _ _).drew.trans (hb2.mono (by simp)))
  go_wp2_with fail
  refine hK.out _ _ ?_ (fun hHeld => ?_)
  · exact ⟨R0.below, R0.cell 5 _ rfl⟩
  clear hK K
  try simp only [Act.put, List.setIfInBounds_toArray, List.set_cons_zero, List.set_cons_succ]
  refine wpAnyH_ready (rs := [3]) (by kernel_rfl) (by simp) ?_
  refine AllReadyH.cons (o := ?or1_3) ?hor1_3 (fun K hK => ?kr1_3) AllReadyH.nil
  case hor1_3 => simp only [List.getElem?_toArray, List.getElem?_cons_succ, List.getElem?_cons_zero]; rfl
  go_simp
  have cc := refLowest_any w2 false (N := oneN) (D := B0) (by rw [one_limbs]; exact y1) x2 one_pw PB.out.1 PB.out.2
  refine cc.mono ?_
  rintro e2 w3 ⟨ap, np, cp, aq, nq, cq, rfl, z1, z2, hb2⟩
  clear cc
  have R0 := R0.later hb2
  have R1 := R1.later hb2
  go_wp2_with fail
  refine hK.out _ _ ?_ (fun hHeld => ?_)
  · exact ⟨R0.below, R0.cell 5 _ rfl⟩
  clear hK K
  try simp only [Act.put, List.setIfInBounds_toArray, List.set_cons_zero, List.set_cons_succ]
  refine wpAnyH_ready (rs := [4]) (by kernel_rfl) (by simp) ?_
  refine (AllReadyH.cons (o := ?ob2_4) ?hob2_4 (fun K hK => ?kb2_4) AllReadyH.nil)
  case hob2_4 => simp only [List.getElem?_toArray, List.getElem?_cons_succ, List.getElem?_cons_zero]; rfl
  case kb2_4 =>
    rw [if_pos (by rfl)]
    refine op_store_whole 33 _ _ rfl atRat _ _ _ R1.row rfl rfl rfl rfl (rat_one _ _ _ _ _ _ _) ?_
    refine hK.out _ _ ?_ (fun hHeld => ?_)
    · exact ⟨below_row R1.below R1.lo _, by simp only [World.cell?, setRow_other _ _ _ _ (show w.heap.size ≠ w.heap.size + 1 by omega)]; exact R0.cell 5 _ rfl⟩
    clear hK K
    try simp only [Act.put, List.setIfInBounds_toArray, List.set_cons_zero, List.set_cons_succ]
    have HB := Lib.hid (below_row R1.below R1.lo #[.bool (lowV false oneN B0).neg, .slice ap np cp, .slice aq nq cq])
    have rowN := setRow_heap _ _ _ #[.bool (lowV false oneN B0).neg, .slice ap np cp, .slice aq nq cq] _ _ R1.row
    have fin := Lib.hid (fun cs => (⟨rd_rowset z1 R1.row (rat_noint _ _ _ _ _ _ _) cs, rd_rowset z2 R1.row (rat_noint _ _ _ _ _ _ _) cs⟩ : _ ∧ _))
    refine wpAnyH_take (i := 5) (oi := ?oir2_5) (v := ?vr2_5) ?hir2_5 (by kernel_rfl) (by kernel_rfl) (by kernel_rfl) ?hqr2_5 ?hyr2_5 (by assumption) ?restr2_5
    case hir2_5 => simp only [List.getElem?_toArray, List.getElem?_cons_succ, List.getElem?_cons_zero]; rfl
    case hqr2_5 => exact fun _ _ _ h => h
    case hyr2_5 => (refine Or.inl ⟨by rfl, ?_⟩; intro w hSw; (try dsimp only at hSw); go_simp; all_goals with_reducible rfl)
    try simp only [Act.put, List.setIfInBounds_toArray, List.set_cons_zero, List.set_cons_succ]
    refine wpAnyH_done (by kernel_rfl) ?_ _
    go_wp2_with fail
    refine bodyPost_ret (results_cell_two rfl _ _ _ _ _ _ _ rfl rowN Try.underlying33 rfl (by kernel_rfl) _ rfl) rfl ?_
    refine ⟨ap, np, cp, aq, nq, cq, by rw [e.out]; rfl, ?_, ?_, HB.out⟩
    · rw [e.out]; exact (fin.out _).1
    · rw [e.out]; exact (fin.out _).2

end Go.Proofs.Ytkomdiblopdfiaa
/- The law's own part: a rational number of two integers. -/
namespace Go.Proofs.Ytkomdiblopdfiaa
open Go.RowKit Go.Suf
set_option linter.unusedVariables false
set_option linter.unusedSimpArgs false

set_option maxRecDepth 100000 in
set_option maxHeartbeats 1000000 in
theorem part_any (w : World) (n d : Int) (h1 : -9223372036854775808 ≤ n) (h2 : n < 9223372036854775808) (h3 : -9223372036854775808 ≤ d) (h4 : d < 9223372036854775808) :
    Calls Try.prog 13 #[.int .i64 n, .int .i64 d] w (RetQ w (ofC n d).1) := by
  obtain ⟨r, hr⟩ : ∃ r, r = ofC n d := ⟨_, rfl⟩
  rw [← hr]
  have HR := Lib.hid hr
  have R0 := Row.new w #[.bool false, .slice none 0 0, .slice none 0 0]
  have HN := Lib.hid (show (-9223372036854775808 ≤ n ∧ n < 9223372036854775808) ∧ (-9223372036854775808 ≤ d ∧ d < 9223372036854775808) from ⟨⟨h1, h2⟩, h3, h4⟩)
  clear hr h1 h2 h3 h4
  go_enter Try.func13, Try.ntmps13
  go_wp2_with fail
  have cc := refRatOf_any (w.alloc (.cells #[.bool false, .slice none 0 0, .slice none 0 0] 33)) n d HN.out.1.1 HN.out.1.2 HN.out.2.1 HN.out.2.2
  rw [← HR.out] at cc
  refine cc.mono ?_
  rintro e2 w1 ⟨ap, np, cp, aq, nq, cq, rfl, hp, hq, hb⟩
  clear cc
  have R1 := R0.later hb
  have hA := below_al w1 (.cells #[.bool r.1.neg, .slice ap np cp, .slice aq nq cq] 33)
  have R2 := R1.later hA
  have hp := hp.below hA
  have hq := hq.below hA
  have H2 := Has.new w1 #[.bool r.1.neg, .slice ap np cp, .slice aq nq cq] 33
  have k0 := H2.cell 0 _ rfl
  have k1 := H2.cell 1 _ rfl
  have k2 := H2.cell 2 _ rfl
  have row := R2.row
  have HB := Lib.hid (fun cs => below_row R2.below R2.lo cs)
  have fin := Lib.hid (fun cs => (⟨rd_rowset hp row (rat_noint _ _ _ _ _ _ _) cs, rd_rowset hq row (rat_noint _ _ _ _ _ _ _) cs⟩ : _ ∧ _))
  clear hb hA
  go_wp2_with first | refine wpList_store_new rfl 33 _ _ rfl atRat _ _ _ rfl rfl rfl rfl (rat_one _ _ _ _ _ _ _) ?_ | refine wpList_store_whole rfl 33 _ _ rfl atRat _ _ _ row rfl rfl rfl rfl (rat_one _ _ _ _ _ _ _) ?_
  refine bodyPost_ret (results_cell_row rfl _ _ _ _ _ _ _ rfl (setRow_heap _ _ _ _ _ _ row) Try.underlying33 rfl (by kernel_rfl)) rfl ?_
  exact ⟨ap, np, cp, aq, nq, cq, rfl, (fin.out _).1, (fin.out _).2, HB.out _⟩

end Go.Proofs.Ytkomdiblopdfiaa
