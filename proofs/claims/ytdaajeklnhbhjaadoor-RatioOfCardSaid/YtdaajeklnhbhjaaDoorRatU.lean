/- Rational numbers: the reference's Read. Condition: not too long. Printed by gen_ratu.py. -/
import Derived.Test.YtdaajeklnhbhjaaDoorRatT
import Derived.Test.YtdaajeklnhbhjaaDoorRatK
namespace Go.Proofs.YtdaajeklnhbhjaaDoor
open Go.RowKit Go.Suf
set_option linter.unusedVariables false
set_option linter.unusedSimpArgs false

theorem slash_before {xs : List Nat} {k : Nat} (h : k < slashB xs) : nth xs k ≠ 47 := by
  induction xs generalizing k with
  | nil => simp [slashB] at h
  | cons x l ih =>
    rw [show slashB (x :: l) = if x = 47 then 0 else slashB l + 1 from rfl] at h
    split at h
    · omega
    · cases k with
      | zero => assumption
      | succ k => exact ih (k := k) (by omega)
theorem slash_at {xs : List Nat} (h : slashB xs < xs.length) : nth xs (slashB xs) = 47 := by
  induction xs with
  | nil => simp at h
  | cons x l ih =>
    rw [show slashB (x :: l) = if x = 47 then 0 else slashB l + 1 from rfl] at h ⊢
    split
    · assumption
    · rename_i hx
      rw [if_neg hx, List.length_cons] at h
      exact ih (by omega)
theorem strB_one49 : (⟨#[49]⟩ : ByteArray) = strB [49] := rfl

end Go.Proofs.YtdaajeklnhbhjaaDoor
/- Rational numbers: Floor, both. Printed by gen_ratn.py. -/
namespace Go.Proofs.YtdaajeklnhbhjaaDoor
open Go.RowKit Go.Suf
set_option linter.unusedVariables false
set_option linter.unusedSimpArgs false

def flQ (q : Rat) : Int := q.num / (q.den : Int)
def floorQ (q : Rat) : Int × Int := if -9223372036854775808 ≤ flQ q ∧ flQ q < 9223372036854775808 then (flQ q, 0) else (0, 30)
def floorV (x : QV) : Int × Int := if chkV x = 0 then floorQ (toQ x) else (0, 8)

theorem fl_pos {q : Rat} (h : decide (q.num < 0) = false) : flQ q = ((q.num.natAbs / q.den : Nat) : Int) := by
  have h := of_decide_eq_false h
  unfold flQ
  rw [Int.natCast_ediv, Int.natAbs_of_nonneg (by omega)]
theorem fl_neg0 {q : Rat} (h : decide (q.num < 0) = true) (hr : q.num.natAbs % q.den = 0) : flQ q = -((q.num.natAbs / q.den : Nat) : Int) := by
  have h := of_decide_eq_true h
  have hd : 0 < q.den := q.den_pos
  have e := Nat.div_add_mod q.num.natAbs q.den
  unfold flQ
  refine ((Int.ediv_emod_unique (show (0 : Int) < (q.den : Int) by omega) (r := 0)).2 ⟨?_, by omega, by omega⟩).1
  have e2 : ((q.den * (q.num.natAbs / q.den) : Nat) : Int) = (q.num.natAbs : Int) := by omega
  rw [Int.natCast_mul] at e2
  rw [Int.mul_neg, e2]
  omega
theorem fl_neg1 {q : Rat} (h : decide (q.num < 0) = true) (hr : q.num.natAbs % q.den ≠ 0) : flQ q = -((q.num.natAbs / q.den : Nat) : Int) - 1 := by
  have h := of_decide_eq_true h
  have hd : 0 < q.den := q.den_pos
  have e := Nat.div_add_mod q.num.natAbs q.den
  have hl := Nat.mod_lt q.num.natAbs hd
  unfold flQ
  refine ((Int.ediv_emod_unique (show (0 : Int) < (q.den : Int) by omega) (r := (q.den : Int) - ((q.num.natAbs % q.den : Nat) : Int))).2 ⟨?_, by omega, by omega⟩).1
  have e2 : ((q.den * (q.num.natAbs / q.den) : Nat) : Int) = (q.num.natAbs : Int) - ((q.num.natAbs % q.den : Nat) : Int) := by omega
  rw [Int.natCast_mul] at e2
  rw [Int.mul_sub, Int.mul_neg, e2, Int.mul_one]
  omega

theorem word_big {A : Nat} (hA : A < pw 96) (h : ¬ A < 18446744073709551616) : wordC (limbs A) = (0, 30) := by
  rw [wordC, if_pos (chk_limbs hA), if_pos]
  have h2 : pw 2 ≤ A := Nat.le_of_not_lt h
  rcases Nat.lt_or_ge 2 (limbs A).length with h3 | h3
  · exact h3
  · have h4 := val_lt' (limbs_small A)
    rw [val_limbs] at h4
    exact absurd (Nat.lt_of_lt_of_le h4 (pw_le h3)) (by omega)

theorem floor_in {q : Rat} {z : Int} (h : flQ q = z) (h1 : -9223372036854775808 ≤ z) (h2 : z < 9223372036854775808) : floorQ q = (z, 0) := by unfold floorQ; rw [h, if_pos ⟨h1, h2⟩]
theorem floor_out {q : Rat} {z : Int} (h : flQ q = z) (h1 : ¬ (-9223372036854775808 ≤ z ∧ z < 9223372036854775808)) : floorQ q = (0, 30) := by unfold floorQ; rw [h, if_neg h1]

set_option maxRecDepth 100000 in
set_option maxHeartbeats 2000000 in
theorem ratFloor_any (w : World) {g : Bool} {a b : Option Addr} {n m c d : Nat} {xs ys : List Nat} (h1 : Rd .u32 w a n c xs) (h2 : Rd .u32 w b m d ys) :
    Calls Tryd.prog 16 #[ratV g a n c b m d] w (RetIEB w (floorV ⟨g, xs, ys⟩)) := by
  have B0 := Box.new w g a n c b m d
  have c0 := B0.at0
  have c1 := B0.at1
  have c2 := B0.at2
  obtain ⟨r, hr⟩ : ∃ r, r = floorV ⟨g, xs, ys⟩ := ⟨_, rfl⟩
  rw [← hr]
  by_cases hg : chkV ⟨g, xs, ys⟩ = 0
  case neg =>
    have e := Lib.hid (show r = (0, 8) by rw [hr, floorV, if_neg hg])
    have C := Lib.hid ((chkV_two _).resolve_left hg)
    clear hr hg
    go_enter Tryd.func16, Tryd.ntmps16
    go_wp2_with fail
    have cc := ratCheck_any (neg := g) _ (h1.below B0.below) (h2.below B0.below)
    rw [C.out] at cc
    refine cc.mono ?_
    rintro e1 w1 ⟨rfl, hb⟩
    clear cc c0 c1 c2
    go_wp2_with fail
    go_ret2
    exact ⟨by rw [e.out]; rfl, B0.below.trans (hb.mono B0.below.size)⟩
  case pos =>
  have C := Lib.hid hg
  obtain ⟨q, e1, f1⟩ := chkV_get (x := ⟨g, xs, ys⟩) h1.bd h2.bd hg
  have HR := Lib.hid (show r = floorQ q by rw [hr, floorV, if_pos hg, e1, toQ_ofQ])
  have ex : g = decide (q.num < 0) ∧ xs = limbs q.num.natAbs ∧ ys = limbs q.den := by
    unfold ofQ at e1
    injection e1 with e1 e3 e4
    exact ⟨e1, e3, e4⟩
  obtain ⟨Q, hQ⟩ : ∃ Q, Q = q.num.natAbs / q.den := ⟨_, rfl⟩
  obtain ⟨R, hR⟩ : ∃ R, R = q.num.natAbs % q.den := ⟨_, rfl⟩
  have EX := Lib.hid ex
  have FT := Lib.hid f1
  have DV := Lib.hid (show divC (limbs q.num.natAbs) (limbs q.den) = (limbs Q, limbs R, 0) by rw [div_ok f1.1 f1.2 q.den_pos, hQ, hR])
  have QL : Q < pw 96 := by rw [hQ]; exact Nat.lt_of_le_of_lt (Nat.div_le_self _ _) f1.1
  have FP := Lib.hid (show g = false → flQ q = (Q : Int) from fun h => by rw [hQ]; exact fl_pos (ex.1.symm.trans h))
  have FN0 := Lib.hid (show g = true → R = 0 → flQ q = -(Q : Int) from fun h h2 => by rw [hQ]; exact fl_neg0 (ex.1.symm.trans h) (hR.symm.trans h2))
  have FN1 := Lib.hid (show g = true → R ≠ 0 → flQ q = -(Q : Int) - 1 from fun h h2 => by rw [hQ]; exact fl_neg1 (ex.1.symm.trans h) (fun h3 => h2 (hR.trans h3)))
  have Q1 := Lib.hid (show R ≠ 0 → Q + 1 < pw 96 from fun h => by
    have d2 : 2 ≤ q.den := by
      rcases Nat.lt_or_ge q.den 2 with h2 | h2
      · exfalso
        have := q.den_pos
        obtain h3 : q.den = 1 := by omega
        rw [h3, Nat.mod_one] at hR
        exact h hR
      · exact h2
    have l1 := f1.1
    have e3 : Q * 2 ≤ q.num.natAbs := by rw [hQ]; exact Nat.le_trans (Nat.mul_le_mul_left _ d2) (Nat.div_mul_le_self _ _)
    have p96 : 4 ≤ pw 96 := Nat.le_trans (by decide) (pw_le (show 1 ≤ 96 by decide))
    generalize pw 96 = P at *
    omega)
  clear hr hg e1 f1 ex hQ hR
  go_enter Tryd.func16, Tryd.ntmps16
  go_wp2_with fail
  have cc := ratCheck_any (neg := g) _ (h1.below B0.below) (h2.below B0.below)
  rw [C.out] at cc
  refine cc.mono ?_
  rintro e1 w1 ⟨rfl, hb⟩
  clear cc c0 c1 c2
  have B0 := B0.later hb
  have c0 := B0.at0
  have c1 := B0.at1
  have c2 := B0.at2
  clear hb
  go_wp2_with fail
  have h1 := h1.below B0.below
  have h2 := h2.below B0.below
  rw [EX.out.2.1] at h1
  rw [EX.out.2.2] at h2
  have cc := Div_any _ h1 h2
  rw [DV.out] at cc
  refine cc.mono ?_
  rintro e1 w2 ⟨aq, nq, cq, ar, nr, cr, rfl, hq, hr, hb⟩
  clear cc c0 c1 c2 h1 h2
  have B0 := B0.later hb
  have c0 := B0.at0
  have c1 := B0.at1
  have c2 := B0.at2
  clear hb
  have RN := Lib.hid hr.len
  clear hr
  go_wp2_with fail
  by_cases big : Q < 18446744073709551616
  case neg =>
    have e := Lib.hid (show r = (0, 30) by
      rw [HR.out]
      cases g
      · exact floor_out (FP.out rfl) (by omega)
      · by_cases h0 : R = 0
        · exact floor_out (FN0.out rfl h0) (by omega)
        · exact floor_out (FN1.out rfl h0) (by omega))
    have cc := Word_any _ hq
    rw [word_big QL big] at cc
    refine cc.mono ?_
    rintro e1 w9 ⟨rfl, hw⟩
    have hw := hw.symm
    subst hw
    clear cc
    clear big
    go_wp2_with fail
    go_ret2
    exact ⟨by rw [e.out]; first | rfl | (simp [wrap64, IntKind.wrap, IntKind.bits, IntKind.signed]), B0.below⟩
  case pos =>
  have cc := Word_any _ hq
  rw [word_ok big] at cc
  refine cc.mono ?_
  rintro e1 w9 ⟨rfl, hw⟩
  have hw := hw.symm
  subst hw
  clear cc
  rcases Nat.lt_trichotomy Q 9223372036854775808 with lt | eq | gt
  · have dgt : decide ((9223372036854775808 : Int) < (Q : Int)) = false := decide_eq_false (by omega)
    have dgn : decide (9223372036854775808 < Q) = false := decide_eq_false (by omega)
    have deq : (((Q : Nat) : Int) == 9223372036854775808) = false := by rw [beq_eq_false_iff_ne]; omega
    have den : (Q == 9223372036854775808) = false := by rw [beq_eq_false_iff_ne]; omega
    cases g
    · have e := Lib.hid (show r = ((Q : Int), 0) by rw [HR.out]; exact floor_in (FP.out rfl) (by omega) (by omega))
      have cv : IntKind.i64.wrap (Q : Int) = (Q : Int) := wrap_i64 (by omega) (by omega)
      clear lt big QL
      go_wp2_with fail
      go_ret2
      exact ⟨by rw [e.out]; first | rfl | (simp [wrap64, IntKind.wrap, IntKind.bits, IntKind.signed]), B0.below⟩
    · by_cases h0 : R = 0
      · have e := Lib.hid (show r = (-(Q : Int), 0) by rw [HR.out]; exact floor_in (FN0.out rfl h0) (by omega) (by omega))
        subst h0
        obtain rfl : nr = 0 := by have := RN.out; simpa [limbs_zero] using this.symm
        obtain ⟨v, hv⟩ : ∃ v, v = IntKind.u64.wrap (-(Q : Int)) := ⟨_, rfl⟩
        have cu : IntKind.u64.wrap (-(Q : Int)) = v := hv.symm
        have cv : IntKind.i64.wrap v = -(Q : Int) := by
          rw [hv]
          simp only [IntKind.wrap, IntKind.bits, IntKind.signed]
          simp
          omega
        clear lt big QL hv
        go_wp2_with fail
        go_ret2
        exact ⟨by rw [e.out]; first | rfl | (simp [wrap64, IntKind.wrap, IntKind.bits, IntKind.signed]), B0.below⟩
      · have e := Lib.hid (show r = (-(Q : Int) - 1, 0) by rw [HR.out]; exact floor_in (FN1.out rfl h0) (by omega) (by omega))
        have n0 : nr ≠ 0 := by rw [← RN.out]; exact fun h => h0 (limbs_len_zero.1 h)
        have dr : decide ((0 : Int) < (nr : Int)) = true := decide_eq_true (by omega)
        have drn : decide (0 < nr) = true := decide_eq_true (by omega)
        obtain ⟨v, hv⟩ : ∃ v, v = IntKind.u64.wrap (-((Q : Int) + 1)) := ⟨_, rfl⟩
        have ca : IntKind.u64.wrap ((Q : Int) + 1) = (Q : Int) + 1 := wrap_u64 (by omega) (by omega)
        have cu : IntKind.u64.wrap (-((Q : Int) + 1)) = v := hv.symm
        have cv : IntKind.i64.wrap v = -(Q : Int) - 1 := by
          rw [hv]
          simp only [IntKind.wrap, IntKind.bits, IntKind.signed]
          simp
          omega
        clear lt big QL hv n0 h0
        go_wp2_with fail
        go_ret2
        exact ⟨by rw [e.out]; first | rfl | (simp [wrap64, IntKind.wrap, IntKind.bits, IntKind.signed]), B0.below⟩
  · subst eq
    cases g
    · have e := Lib.hid (show r = (0, 30) by rw [HR.out]; exact floor_out (FP.out rfl) (by omega))
      clear big QL
      go_wp2_with fail
      go_ret2
      exact ⟨by rw [e.out]; first | rfl | (simp [wrap64, IntKind.wrap, IntKind.bits, IntKind.signed]), B0.below⟩
    · by_cases h0 : R = 0
      · have e := Lib.hid (show r = (-9223372036854775808, 0) by rw [HR.out]; exact floor_in (FN0.out rfl h0) (by omega) (by omega))
        subst h0
        obtain rfl : nr = 0 := by have := RN.out; simpa [limbs_zero] using this.symm
        clear big QL
        go_wp2_with fail
        go_ret2
        exact ⟨by rw [e.out]; first | rfl | (simp [wrap64, IntKind.wrap, IntKind.bits, IntKind.signed]), B0.below⟩
      · have e := Lib.hid (show r = (0, 30) by rw [HR.out]; exact floor_out (FN1.out rfl h0) (by omega))
        have n0 : nr ≠ 0 := by rw [← RN.out]; exact fun h => h0 (limbs_len_zero.1 h)
        have dr : decide ((0 : Int) < (nr : Int)) = true := decide_eq_true (by omega)
        have drn : decide (0 < nr) = true := decide_eq_true (by omega)
        clear big QL n0 h0
        go_wp2_with fail
        go_ret2
        exact ⟨by rw [e.out]; first | rfl | (simp [wrap64, IntKind.wrap, IntKind.bits, IntKind.signed]), B0.below⟩
  · have e := Lib.hid (show r = (0, 30) by
      rw [HR.out]
      cases g
      · exact floor_out (FP.out rfl) (by omega)
      · by_cases h0 : R = 0
        · exact floor_out (FN0.out rfl h0) (by omega)
        · exact floor_out (FN1.out rfl h0) (by omega))
    have dgt : decide ((9223372036854775808 : Int) < (Q : Int)) = true := decide_eq_true (by omega)
    have dgn : decide (9223372036854775808 < Q) = true := decide_eq_true (by omega)
    have deq : (((Q : Nat) : Int) == 9223372036854775808) = false := by rw [beq_eq_false_iff_ne]; omega
    have den : (Q == 9223372036854775808) = false := by rw [beq_eq_false_iff_ne]; omega
    clear gt big QL
    go_wp2_with fail
    go_ret2
    exact ⟨by rw [e.out]; first | rfl | (simp [wrap64, IntKind.wrap, IntKind.bits, IntKind.signed]), B0.below⟩

end Go.Proofs.YtdaajeklnhbhjaaDoor
/- The laws of rational numbers, in plain Lean: what the operations answer to numbers of few limbs, and that text and number undo each other. No program in sight. -/
namespace Go.Proofs.YtdaajeklnhbhjaaDoor
open Go.RowKit Go.Suf
set_option linter.unusedVariables false
set_option linter.unusedSimpArgs false

/-- The number's fields have at most k limbs. -/
def inB (k : Nat) (q : Rat) : Prop := q.num.natAbs < pw k ∧ q.den < pw k

theorem inB.fit {k : Nat} {q : Rat} (h : inB k q) (hk : k ≤ 96) : fitQ q := ⟨Nat.lt_of_lt_of_le h.1 (pw_le hk), Nat.lt_of_lt_of_le h.2 (pw_le hk)⟩
theorem inB.chk {k : Nat} {q : Rat} (h : inB k q) (hk : k ≤ 96) : chkV (ofQ q) = 0 := chkV_ofQ (h.fit hk)
theorem inB.neg {k : Nat} {q : Rat} (h : inB k q) : inB k (-q) := by
  refine ⟨?_, h.2⟩
  rw [Rat.neg_num, Int.natAbs_neg]
  exact h.1

theorem mk_bound {N : Int} {D : Nat} (hD : D ≠ 0) : (mkRat N D).num.natAbs ≤ N.natAbs ∧ (mkRat N D).den ≤ D := by
  have e := lowV_eq (decide (N < 0)) N.natAbs D hD
  rw [sg_of] at e
  unfold lowV ofQ at e
  injection e with e1 e2 e3
  rw [← limbs_inj e2, ← limbs_inj e3]
  exact ⟨Nat.div_le_self _ _, Nat.div_le_self _ _⟩

theorem both_of {f : Rat → Rat → QV × Int} {i j : Nat} {p q : Rat} (hp : inB i p) (hq : inB j q) (hi : i ≤ 96) (hj : j ≤ 96) : bothV f (ofQ p) (ofQ q) = f p q := by
  rw [bothV, if_pos ⟨hp.chk hi, hq.chk hj⟩, toQ_ofQ, toQ_ofQ]

theorem add_in {i j k : Nat} {p q : Rat} (hp : inB i p) (hq : inB j q) (hk : i + j < k) (h : k ≤ 96) : addQ p q = (ofQ (p + q), 0) ∧ inB k (p + q) := by
  have a1 : p.num.natAbs * q.den < pw (i + j) := mul_lt_pw hp.1 hq.2
  have a2 : q.num.natAbs * p.den < pw (i + j) := by rw [Nat.mul_comm]; exact mul_lt_pw hp.2 hq.1
  have a3 : p.den * q.den < pw (i + j) := mul_lt_pw hp.2 hq.2
  have a4 : p.num.natAbs * q.den + q.num.natAbs * p.den < pw k := pw_add_lt a1 a2 hk
  have l1 : pw (i + j) ≤ pw k := pw_le (by omega)
  have l2 : pw k ≤ pw 96 := pw_le h
  refine ⟨by rw [addQ, if_pos ⟨by omega, by omega, by omega, fun _ => by omega⟩], ?_⟩
  rw [add_mk, ← sg_scale, ← sg_scale, sg_of, sg_of]
  have b := mk_bound (N := p.num * (q.den : Int) + q.num * (p.den : Int)) (mul_den_nz p q)
  refine ⟨Nat.lt_of_le_of_lt b.1 (Nat.lt_of_le_of_lt ?_ a4), Nat.lt_of_le_of_lt b.2 (by omega)⟩
  have t := Int.natAbs_add_le (p.num * (q.den : Int)) (q.num * (p.den : Int))
  rw [Int.natAbs_mul, Int.natAbs_mul, Int.natAbs_natCast, Int.natAbs_natCast] at t
  exact t

theorem mul_in {i j k : Nat} {p q : Rat} (hp : inB i p) (hq : inB j q) (hk : i + j = k) (h : k ≤ 96) : mulQ p q = (ofQ (p * q), 0) ∧ inB k (p * q) := by
  subst hk
  have a1 : p.num.natAbs * q.num.natAbs < pw (i + j) := mul_lt_pw hp.1 hq.1
  have a3 : p.den * q.den < pw (i + j) := mul_lt_pw hp.2 hq.2
  have l2 : pw (i + j) ≤ pw 96 := pw_le h
  refine ⟨by rw [mulQ, if_pos ⟨by omega, by omega⟩], ?_⟩
  rw [Rat.mul_def']
  have b := mk_bound (N := p.num * q.num) (mul_den_nz p q)
  refine ⟨Nat.lt_of_le_of_lt b.1 ?_, Nat.lt_of_le_of_lt b.2 a3⟩
  rw [Int.natAbs_mul]
  exact a1

theorem inv_in {k : Nat} {q : Rat} (hq : inB k q) (h0 : q ≠ 0) : inB k q⁻¹ := by
  have hn : q.num ≠ 0 := fun e => h0 (Rat.num_eq_zero.1 e)
  constructor
  · rw [Rat.num_inv, Int.natAbs_mul, Int.natAbs_sign_of_ne_zero hn, Nat.one_mul, Int.natAbs_natCast]
    exact hq.2
  · rw [Rat.den_inv, if_neg hn]
    exact hq.1

theorem addV_in {i j k : Nat} {p q : Rat} (hp : inB i p) (hq : inB j q) (hk : i + j < k) (h : k ≤ 96) : addV (ofQ p) (ofQ q) = (ofQ (p + q), 0) := by
  rw [addV, both_of hp hq (by omega) (by omega)]
  exact (add_in hp hq hk h).1
theorem subV_in {i j k : Nat} {p q : Rat} (hp : inB i p) (hq : inB j q) (hk : i + j < k) (h : k ≤ 96) : subV (ofQ p) (ofQ q) = (ofQ (p - q), 0) := by
  rw [subV, both_of hp hq (by omega) (by omega), Rat.sub_eq_add_neg]
  exact (add_in hp hq.neg hk h).1
theorem sub_in {i j k : Nat} {p q : Rat} (hp : inB i p) (hq : inB j q) (hk : i + j < k) (h : k ≤ 96) : inB k (p - q) := by
  rw [Rat.sub_eq_add_neg]
  exact (add_in hp hq.neg hk h).2
theorem mulV_in {i j k : Nat} {p q : Rat} (hp : inB i p) (hq : inB j q) (hk : i + j = k) (h : k ≤ 96) : mulV (ofQ p) (ofQ q) = (ofQ (p * q), 0) := by
  rw [mulV, both_of hp hq (by omega) (by omega)]
  exact (mul_in hp hq hk h).1
theorem divV_in {i j k : Nat} {p q : Rat} (hp : inB i p) (hq : inB j q) (h0 : q ≠ 0) (hk : i + j = k) (h : k ≤ 96) : divV (ofQ p) (ofQ q) = (ofQ (p / q), 0) := by
  rw [divV, both_of hp hq (by omega) (by omega), divQ, if_neg h0, Rat.div_def]
  exact (mul_in hp (inv_in hq h0) hk h).1
theorem divV_zero {i : Nat} {p : Rat} (hp : inB i p) (h : i ≤ 96) : divV (ofQ p) (ofQ 0) = (zeroV, 40) := by
  have h0 : inB 1 (0 : Rat) := ⟨by decide, by decide⟩
  rw [divV, both_of hp h0 h (by decide), divQ, if_pos rfl]
theorem negC_in {k : Nat} {q : Rat} (hq : inB k q) (h : k ≤ 96) : negC (ofQ q) = (ofQ (-q), 0) := by
  rw [negC, if_pos (hq.chk h), turn_ofQ]
theorem cmpV_in {i j : Nat} {p q : Rat} (hp : inB i p) (hq : inB j q) (h : i + j ≤ 96) : cmpV (ofQ p) (ofQ q) = (cmpR p q, 0) := by
  have a1 : p.num.natAbs * q.den < pw (i + j) := mul_lt_pw hp.1 hq.2
  have a2 : q.num.natAbs * p.den < pw (i + j) := by rw [Nat.mul_comm]; exact mul_lt_pw hp.2 hq.1
  have l2 : pw (i + j) ≤ pw 96 := pw_le h
  rw [cmpV, if_pos ⟨hp.chk (by omega), hq.chk (by omega)⟩, toQ_ofQ, toQ_ofQ, cmpQ, if_neg (fun hh => hh.2.2 ⟨by omega, by omega⟩)]
theorem floorV_in {k : Nat} {q : Rat} (hq : inB k q) (h : k ≤ 96) : floorV (ofQ q) = floorQ q := by
  rw [floorV, if_pos (hq.chk h), toQ_ofQ]

theorem limbs_le_lt {A k : Nat} (h : (limbs A).length ≤ k) : A < pw k := by
  have := val_lt' (limbs_small A)
  rw [val_limbs] at this
  exact Nat.lt_of_lt_of_le this (pw_le h)

/-- What the law's right tells: a valid number with at most 6 limbs is the image of one. -/
def okV (x : QV) : Prop := x.num.length ≤ 6 ∧ x.den.length ≤ 6 ∧ chkV x = 0
instance (x : QV) : Decidable (okV x) := by unfold okV; exact inferInstance

theorem okV_get {x : QV} (hn : small32 x.num) (hd : small32 x.den) (h : okV x) : ∃ q, x = ofQ q ∧ inB 6 q := by
  obtain ⟨q, e, hf⟩ := chkV_get hn hd h.2.2
  refine ⟨q, e, ?_, ?_⟩
  · apply limbs_le_lt
    have := h.1
    rw [e] at this
    exact this
  · apply limbs_le_lt
    have := h.2.1
    rw [e] at this
    exact this

theorem sameV_self (x : QV) : sameV x x = true := by unfold sameV; simp [sameN]
theorem sameV_ofQ (p q : Rat) : sameV (ofQ p) (ofQ q) = decide (p = q) := by
  by_cases h : p = q
  · rw [h, sameV_self, decide_eq_true rfl]
  · rw [decide_eq_false h]
    cases e : sameV (ofQ p) (ofQ q) with
    | false => rfl
    | true =>
      exfalso
      unfold sameV at e
      simp only [Bool.and_eq_true, beq_iff_eq, sameN, decide_eq_true_eq] at e
      apply h
      apply ofQ_inj
      cases h1 : ofQ p
      cases h2 : ofQ q
      rw [h1, h2] at e
      simp only at e
      rw [e.1.1, e.1.2, e.2]

theorem whole_of (n : Int) : (ofC n 1).1 = ofQ (n : Rat) := by
  rw [ofC, if_neg (by decide)]
  show ofQ ((n : Rat) / ((1 : Int) : Rat)) = _
  congr 1
  rw [show ((1 : Int) : Rat) = 1 from rfl, Rat.div_def, show (1 : Rat)⁻¹ = 1 by grind, Rat.mul_one]
theorem whole_in {n : Int} (h1 : -9223372036854775808 ≤ n) (h2 : n ≤ 9223372036854775808) : inB 2 (n : Rat) := by
  have p : pw 2 = 18446744073709551616 := by decide
  refine ⟨?_, ?_⟩
  · rw [Rat.num_intCast, p]
    omega
  · rw [Rat.den_intCast, p]
    decide

/-! ### text and number -/

theorem digit_range {A : Nat} : ∀ x ∈ textN A, 48 ≤ x ∧ x ≤ 57 := by
  have := textN_form A
  unfold formB at this
  exact (of_decide_eq_true this).2.2

theorem slash_app {xs ys : List Nat} (h : ∀ x ∈ xs, 48 ≤ x ∧ x ≤ 57) : slashB (xs ++ ys) = xs.length + slashB ys := by
  induction xs with
  | nil => simp
  | cons x l ih =>
    have hx := h x (List.mem_cons_self ..)
    rw [List.cons_append, slashB, if_neg (by omega), ih (fun y hy => h y (List.mem_cons_of_mem _ hy)), List.length_cons]
    omega

theorem read_text {x : QV} (hn : small32 x.num) (hd : small32 x.den) (h : chkV x = 0) : readV (textV x).1 = (x, 0) := by
  obtain ⟨n1, n2, l1, l2, z, s, g⟩ := chkV_parts hn hd h
  rw [textV, if_pos h]
  obtain ⟨N, hN⟩ : ∃ N, N = val x.num := ⟨_, rfl⟩
  obtain ⟨D, hD⟩ : ∃ D, D = val x.den := ⟨_, rfl⟩
  have ex : x = ⟨x.neg, limbs N, limbs D⟩ := by
    rw [hN, hD, ← n1, ← n2]
  rw [← hN, ← hD]
  rw [← hN] at l1
  rw [← hD] at l2
  obtain ⟨rest, hr⟩ : ∃ r : List Nat, r = (if textN D = [49] then [] else 47 :: textN D) := ⟨_, rfl⟩
  rw [← hr]
  have aft : afterB (signB x.neg ++ textN N ++ rest) = textN N ++ rest ∧ minusB (signB x.neg ++ textN N ++ rest) = x.neg := by
    cases hg : x.neg
    · have e : signB false = [] := rfl
      rw [e, List.nil_append]
      have m : minusB (textN N ++ rest) = false := by
        have := textN_ne N
        have dr := @digit_range N
        cases ht : textN N with
        | nil => rw [ht] at this; exact absurd this (by decide)
        | cons a l =>
          rw [ht] at dr
          have := dr a (List.mem_cons_self ..)
          show decide (a = 45) = false
          exact decide_eq_false (by omega)
      exact ⟨by rw [afterB, m]; rfl, m⟩
    · have e : signB true = [45] := rfl
      rw [e]
      exact ⟨rfl, rfl⟩
  have sl : slashB (textN N ++ rest) = (textN N).length ∧ (rest = [] ∨ rest = 47 :: textN D) := by
    rw [slash_app digit_range]
    rw [hr]
    split
    · exact ⟨rfl, .inl rfl⟩
    · exact ⟨rfl, .inr rfl⟩
  have nu : numB (signB x.neg ++ textN N ++ rest) = textN N := by
    unfold numB
    rw [aft.1, sl.1, List.take_left]
  have den : denB (signB x.neg ++ textN N ++ rest) = textN D ∧ ¬ (cutB (signB x.neg ++ textN N ++ rest) = true ∧ denB (signB x.neg ++ textN N ++ rest) = [49]) := by
    unfold denB cutB
    rw [aft.1, sl.1]
    by_cases hd1 : textN D = [49]
    · rw [if_pos hd1] at hr
      subst hr
      simp [hd1]
    · rw [if_neg hd1] at hr
      subst hr
      have e : decide ((textN N).length < (textN N ++ 47 :: textN D).length) = true := decide_eq_true (by simp)
      rw [e, if_pos rfl]
      have e2 : List.drop ((textN N).length + 1) (textN N ++ 47 :: textN D) = textN D := by
        rw [← List.drop_drop, List.drop_left]
        rfl
      rw [e2]
      exact ⟨rfl, fun hh => hd1 hh.2⟩
  rw [readV, nu, den.1, if_pos ⟨textN_form _, textN_form _⟩, dread_textN, dread_textN, if_pos ⟨l1, l2⟩, aft.2, ← ex, if_neg]
  rw [← den.1]
  intro hh
  rcases hh with hh | hh
  · exact den.2 hh
  · exact hh h

theorem text_read {xs : List Nat} {x : QV} (h : readV xs = (x, 0)) : textV x = (xs, 0) ∧ chkV x = 0 := by
  unfold readV at h
  split at h
  case isFalse => exact absurd (congrArg Prod.snd h) (fun e : (11 : Int) = 0 => absurd e (by decide))
  case isTrue hf =>
    split at h
    case isFalse => exact absurd (congrArg Prod.snd h) (fun e : (30 : Int) = 0 => absurd e (by decide))
    case isTrue hl =>
      split at h
      case isTrue => exact absurd (congrArg Prod.snd h) (fun e : (11 : Int) = 0 => absurd e (by decide))
      case isFalse hc =>
        have e : x = ⟨minusB xs, limbs (dread (numB xs) 0), limbs (dread (denB xs) 0)⟩ := (congrArg Prod.fst h).symm
        have hc1 : ¬ (cutB xs = true ∧ denB xs = [49]) := fun hh => hc (.inl hh)
        have hc2 : chkV x = 0 := by
          rw [e]
          exact Decidable.byContradiction fun hh => hc (.inr hh)
        refine ⟨?_, hc2⟩
        rw [textV, if_pos hc2, e]
        simp only [val_limbs]
        rw [textN_dread hf.1, textN_dread hf.2]
        congr 1
        have s1 : signB (minusB xs) ++ afterB xs = xs := by
          unfold afterB signB
          cases hm : minusB xs
          · rfl
          · cases xs with
            | nil => exact absurd hm (by decide)
            | cons a l =>
              have : decide (a = 45) = true := hm
              obtain rfl := of_decide_eq_true this
              rfl
        conv => rhs; rw [← s1]
        rw [List.append_assoc]
        congr 1
        have hd1 : denB xs = [49] ↔ ¬ cutB xs = true := by
          constructor
          · exact fun hh hk => hc1 ⟨hk, hh⟩
          · intro hh
            rw [denB, if_neg hh]
        by_cases hk : cutB xs = true
        · rw [if_neg (fun hh => hd1.1 hh hk)]
          have hk2 : slashB (afterB xs) < (afterB xs).length := of_decide_eq_true hk
          rw [denB, if_pos hk, numB]
          have g := slash_at hk2
          conv => rhs; rw [← List.take_append_drop (slashB (afterB xs)) (afterB xs)]
          congr 1
          rw [List.drop_eq_getElem_cons hk2]
          congr 1
          rw [← g]
          unfold nth
          simp [hk2]
        · rw [if_pos (hd1.2 hk), List.append_nil, numB]
          apply List.take_of_length_le
          have hk2 : ¬ slashB (afterB xs) < (afterB xs).length := fun hh => hk (decide_eq_true hh)
          omega

end Go.Proofs.YtdaajeklnhbhjaaDoor
