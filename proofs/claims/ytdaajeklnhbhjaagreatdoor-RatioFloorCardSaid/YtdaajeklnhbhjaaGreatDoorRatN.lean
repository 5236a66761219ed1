/- Rational numbers: Floor, both. Printed by gen_ratn.py. -/
import Derived.Test.YtdaajeklnhbhjaaGreatDoorRatH
import Derived.Test.YtdaajeklnhbhjaaGreatDoorRatJ
namespace Go.Proofs.YtdaajeklnhbhjaaGreatDoor
open Go.RowKit Go.Suf
set_option linter.unusedVariables false
set_option linter.unusedSimpArgs false

def flQ (q : Rat) : Int := q.num / (q.den : Int)
def floorQ (q : Rat) : Int × Int := if -9223372036854775808 ≤ flQ q ∧ flQ q < 9223372036854775808 then (flQ q, 0) else (0, 30)
def floorV (x : QV) : Int × Int := if chkV x = 0 then floorQ (toQ x) else (0, 8)

theorem fl_pos {q : Rat} (h : decide (q.num < 0) = false) : flQ q = ((q.num.natAbs / q.den : Nat) : Int) := by
  have h := of_decide_eq_false h
  unfold flQ
  rw [Int.natCast_ediv, Int.natAbs_of_nonneg (by omega)]
theorem fl_neg0 {q : Rat} (h : decide (q.num < 0) = true) (hr : q.num.natAbs % q.den = 0) : flQ q = -((q.num.natAbs / q.den : Nat) : Int) := by
  have h := of_decide_eq_true h
  have hd : 0 < q.den := q.den_pos
  have e := Nat.div_add_mod q.num.natAbs q.den
  unfold flQ
  refine ((Int.ediv_emod_unique (show (0 : Int) < (q.den : Int) by omega) (r := 0)).2 ⟨?_, by omega, by omega⟩).1
  have e2 : ((q.den * (q.num.natAbs / q.den) : Nat) : Int) = (q.num.natAbs : Int) := by omega
  rw [Int.natCast_mul] at e2
  rw [Int.mul_neg, e2]
  omega
theorem fl_neg1 {q : Rat} (h : decide (q.num < 0) = true) (hr : q.num.natAbs % q.den ≠ 0) : flQ q = -((q.num.natAbs / q.den : Nat) : Int) - 1 := by
  have h := of_decide_eq_true h
  have hd : 0 < q.den := q.den_pos
  have e := Nat.div_add_mod q.num.natAbs q.den
  have hl := Nat.mod_lt q.num.natAbs hd
  unfold flQ
  refine ((Int.ediv_emod_unique (show (0 : Int) < (q.den : Int) by omega) (r := (q.den : Int) - ((q.num.natAbs % q.den : Nat) : Int))).2 ⟨?_, by omega, by omega⟩).1
  have e2 : ((q.den * (q.num.natAbs / q.den) : Nat) : Int) = (q.num.natAbs : Int) - ((q.num.natAbs % q.den : Nat) : Int) := by omega
  rw [Int.natCast_mul] at e2
  rw [Int.mul_sub, Int.mul_neg, e2, Int.mul_one]
  omega

theorem word_big {A : Nat} (hA : A < pw 96) (h : ¬ A < 18446744073709551616) : wordC (limbs A) = (0, 30) := by
  rw [wordC, if_pos (chk_limbs hA), if_pos]
  have h2 : pw 2 ≤ A := Nat.le_of_not_lt h
  rcases Nat.lt_or_ge 2 (limbs A).length with h3 | h3
  · exact h3
  · have h4 := val_lt' (limbs_small A)
    rw [val_limbs] at h4
    exact absurd (Nat.lt_of_lt_of_le h4 (pw_le h3)) (by omega)

theorem floor_in {q : Rat} {z : Int} (h : flQ q = z) (h1 : -9223372036854775808 ≤ z) (h2 : z < 9223372036854775808) : floorQ q = (z, 0) := by unfold floorQ; rw [h, if_pos ⟨h1, h2⟩]
theorem floor_out {q : Rat} {z : Int} (h : flQ q = z) (h1 : ¬ (-9223372036854775808 ≤ z ∧ z < 9223372036854775808)) : floorQ q = (0, 30) := by unfold floorQ; rw [h, if_neg h1]

set_option maxRecDepth 100000 in
set_option maxHeartbeats 2000000 in
theorem ratFloor_any (w : World) {g : Bool} {a b : Option Addr} {n m c d : Nat} {xs ys : List Nat} (h1 : Rd .u32 w a n c xs) (h2 : Rd .u32 w b m d ys) :
    Calls Tryz.prog 18 #[ratV g a n c b m d] w (RetIEB w (floorV ⟨g, xs, ys⟩)) := by
  have B0 := Box.new w g a n c b m d
  have c0 := B0.at0
  have c1 := B0.at1
  have c2 := B0.at2
  obtain ⟨r, hr⟩ : ∃ r, r = floorV ⟨g, xs, ys⟩ := ⟨_, rfl⟩
  rw [← hr]
  by_cases hg : chkV ⟨g, xs, ys⟩ = 0
  case neg =>
    have e := Lib.hid (show r = (0, 8) by rw [hr, floorV, if_neg hg])
    have C := Lib.hid ((chkV_two _).resolve_left hg)
    clear hr hg
    go_enter Tryz.func18, Tryz.ntmps18
    go_wp2_with fail
    have cc := ratCheck_any (neg := g) _ (h1.below B0.below) (h2.below B0.below)
    rw [C.out] at cc
    refine cc.mono ?_
    rintro e1 w1 ⟨rfl, hb⟩
    clear cc c0 c1 c2
    go_wp2_with fail
    go_ret2
    exact ⟨by rw [e.out]; rfl, B0.below.trans (hb.mono B0.below.size)⟩
  case pos =>
  have C := Lib.hid hg
  obtain ⟨q, e1, f1⟩ := chkV_get (x := ⟨g, xs, ys⟩) h1.bd h2.bd hg
  have HR := Lib.hid (show r = floorQ q by rw [hr, floorV, if_pos hg, e1, toQ_ofQ])
  have ex : g = decide (q.num < 0) ∧ xs = limbs q.num.natAbs ∧ ys = limbs q.den := by
    unfold ofQ at e1
    injection e1 with e1 e3 e4
    exact ⟨e1, e3, e4⟩
  obtain ⟨Q, hQ⟩ : ∃ Q, Q = q.num.natAbs / q.den := ⟨_, rfl⟩
  obtain ⟨R, hR⟩ : ∃ R, R = q.num.natAbs % q.den := ⟨_, rfl⟩
  have EX := Lib.hid ex
  have FT := Lib.hid f1
  have DV := Lib.hid (show divC (limbs q.num.natAbs) (limbs q.den) = (limbs Q, limbs R, 0) by rw [div_ok f1.1 f1.2 q.den_pos, hQ, hR])
  have QL : Q < pw 96 := by rw [hQ]; exact Nat.lt_of_le_of_lt (Nat.div_le_self _ _) f1.1
  have FP := Lib.hid (show g = false → flQ q = (Q : Int) from fun h => by rw [hQ]; exact fl_pos (ex.1.symm.trans h))
  have FN0 := Lib.hid (show g = true → R = 0 → flQ q = -(Q : Int) from fun h h2 => by rw [hQ]; exact fl_neg0 (ex.1.symm.trans h) (hR.symm.trans h2))
  have FN1 := Lib.hid (show g = true → R ≠ 0 → flQ q = -(Q : Int) - 1 from fun h h2 => by rw [hQ]; exact fl_neg1 (ex.1.symm.trans h) (fun h3 => h2 (hR.trans h3)))
  have Q1 := Lib.hid (show R ≠ 0 → Q + 1 < pw 96 from fun h => by
    have d2 : 2 ≤ q.den := by
      rcases Nat.lt_or_ge q.den 2 with h2 | h2
      · exfalso
        have := q.den_pos
        obtain h3 : q.den = 1 := by omega
        rw [h3, Nat.mod_one] at hR
        exact h hR
      · exact h2
    have l1 := f1.1
    have e3 : Q * 2 ≤ q.num.natAbs := by rw [hQ]; exact Nat.le_trans (Nat.mul_le_mul_left _ d2) (Nat.div_mul_le_self _ _)
    have p96 : 4 ≤ pw 96 := Nat.le_trans (by decide) (pw_le (show 1 ≤ 96 by decide))
    generalize pw 96 = P at *
    omega)
  clear hr hg e1 f1 ex hQ hR
  go_enter Tryz.func18, Tryz.ntmps18
  go_wp2_with fail
  have cc := ratCheck_any (neg := g) _ (h1.below B0.below) (h2.below B0.below)
  rw [C.out] at cc
  refine cc.mono ?_
  rintro e1 w1 ⟨rfl, hb⟩
  clear cc c0 c1 c2
  have B0 := B0.later hb
  have c0 := B0.at0
  have c1 := B0.at1
  have c2 := B0.at2
  clear hb
  go_wp2_with fail
  have h1 := h1.below B0.below
  have h2 := h2.below B0.below
  rw [EX.out.2.1] at h1
  rw [EX.out.2.2] at h2
  have cc := Div_any _ h1 h2
  rw [DV.out] at cc
  refine cc.mono ?_
  rintro e1 w2 ⟨aq, nq, cq, ar, nr, cr, rfl, hq, hr, hb⟩
  clear cc c0 c1 c2 h1 h2
  have B0 := B0.later hb
  have c0 := B0.at0
  have c1 := B0.at1
  have c2 := B0.at2
  clear hb
  have RN := Lib.hid hr.len
  clear hr
  go_wp2_with fail
  by_cases big : Q < 18446744073709551616
  case neg =>
    have e := Lib.hid (show r = (0, 30) by
      rw [HR.out]
      cases g
      · exact floor_out (FP.out rfl) (by omega)
      · by_cases h0 : R = 0
        · exact floor_out (FN0.out rfl h0) (by omega)
        · exact floor_out (FN1.out rfl h0) (by omega))
    have cc := Word_any _ hq
    rw [word_big QL big] at cc
    refine cc.mono ?_
    rintro e1 w9 ⟨rfl, hw⟩
    have hw := hw.symm
    subst hw
    clear cc
    clear big
    go_wp2_with fail
    go_ret2
    exact ⟨by rw [e.out]; first | rfl | (simp [wrap64, IntKind.wrap, IntKind.bits, IntKind.signed]), B0.below⟩
  case pos =>
  have cc := Word_any _ hq
  rw [word_ok big] at cc
  refine cc.mono ?_
  rintro e1 w9 ⟨rfl, hw⟩
  have hw := hw.symm
  subst hw
  clear cc
  rcases Nat.lt_trichotomy Q 9223372036854775808 with lt | eq | gt
  · have dgt : decide ((9223372036854775808 : Int) < (Q : Int)) = false := decide_eq_false (by omega)
    have dgn : decide (9223372036854775808 < Q) = false := decide_eq_false (by omega)
    have deq : (((Q : Nat) : Int) == 9223372036854775808) = false := by rw [beq_eq_false_iff_ne]; omega
    have den : (Q == 9223372036854775808) = false := by rw [beq_eq_false_iff_ne]; omega
    cases g
    · have e := Lib.hid (show r = ((Q : Int), 0) by rw [HR.out]; exact floor_in (FP.out rfl) (by omega) (by omega))
      have cv : IntKind.i64.wrap (Q : Int) = (Q : Int) := wrap_i64 (by omega) (by omega)
      clear lt big QL
      go_wp2_with fail
      go_ret2
      exact ⟨by rw [e.out]; first | rfl | (simp [wrap64, IntKind.wrap, IntKind.bits, IntKind.signed]), B0.below⟩
    · by_cases h0 : R = 0
      · have e := Lib.hid (show r = (-(Q : Int), 0) by rw [HR.out]; exact floor_in (FN0.out rfl h0) (by omega) (by omega))
        subst h0
        obtain rfl : nr = 0 := by have := RN.out; simpa [limbs_zero] using this.symm
        obtain ⟨v, hv⟩ : ∃ v, v = IntKind.u64.wrap (-(Q : Int)) := ⟨_, rfl⟩
        have cu : IntKind.u64.wrap (-(Q : Int)) = v := hv.symm
        have cv : IntKind.i64.wrap v = -(Q : Int) := by
          rw [hv]
          simp only [IntKind.wrap, IntKind.bits, IntKind.signed]
          simp
          omega
        clear lt big QL hv
        go_wp2_with fail
        go_ret2
        exact ⟨by rw [e.out]; first | rfl | (simp [wrap64, IntKind.wrap, IntKind.bits, IntKind.signed]), B0.below⟩
      · have e := Lib.hid (show r = (-(Q : Int) - 1, 0) by rw [HR.out]; exact floor_in (FN1.out rfl h0) (by omega) (by omega))
        have n0 : nr ≠ 0 := by rw [← RN.out]; exact fun h => h0 (limbs_len_zero.1 h)
        have dr : decide ((0 : Int) < (nr : Int)) = true := decide_eq_true (by omega)
        have drn : decide (0 < nr) = true := decide_eq_true (by omega)
        obtain ⟨v, hv⟩ : ∃ v, v = IntKind.u64.wrap (-((Q : Int) + 1)) := ⟨_, rfl⟩
        have ca : IntKind.u64.wrap ((Q : Int) + 1) = (Q : Int) + 1 := wrap_u64 (by omega) (by omega)
        have cu : IntKind.u64.wrap (-((Q : Int) + 1)) = v := hv.symm
        have cv : IntKind.i64.wrap v = -(Q : Int) - 1 := by
          rw [hv]
          simp only [IntKind.wrap, IntKind.bits, IntKind.signed]
          simp
          omega
        clear lt big QL hv n0 h0
        go_wp2_with fail
        go_ret2
        exact ⟨by rw [e.out]; first | rfl | (simp [wrap64, IntKind.wrap, IntKind.bits, IntKind.signed]), B0.below⟩
  · subst eq
    cases g
    · have e := Lib.hid (show r = (0, 30) by rw [HR.out]; exact floor_out (FP.out rfl) (by omega))
      clear big QL
      go_wp2_with fail
      go_ret2
      exact ⟨by rw [e.out]; first | rfl | (simp [wrap64, IntKind.wrap, IntKind.bits, IntKind.signed]), B0.below⟩
    · by_cases h0 : R = 0
      · have e := Lib.hid (show r = (-9223372036854775808, 0) by rw [HR.out]; exact floor_in (FN0.out rfl h0) (by omega) (by omega))
        subst h0
        obtain rfl : nr = 0 := by have := RN.out; simpa [limbs_zero] using this.symm
        clear big QL
        go_wp2_with fail
        go_ret2
        exact ⟨by rw [e.out]; first | rfl | (simp [wrap64, IntKind.wrap, IntKind.bits, IntKind.signed]), B0.below⟩
      · have e := Lib.hid (show r = (0, 30) by rw [HR.out]; exact floor_out (FN1.out rfl h0) (by omega))
        have n0 : nr ≠ 0 := by rw [← RN.out]; exact fun h => h0 (limbs_len_zero.1 h)
        have dr : decide ((0 : Int) < (nr : Int)) = true := decide_eq_true (by omega)
        have drn : decide (0 < nr) = true := decide_eq_true (by omega)
        clear big QL n0 h0
        go_wp2_with fail
        go_ret2
        exact ⟨by rw [e.out]; first | rfl | (simp [wrap64, IntKind.wrap, IntKind.bits, IntKind.signed]), B0.below⟩
  · have e := Lib.hid (show r = (0, 30) by
      rw [HR.out]
      cases g
      · exact floor_out (FP.out rfl) (by omega)
      · by_cases h0 : R = 0
        · exact floor_out (FN0.out rfl h0) (by omega)
        · exact floor_out (FN1.out rfl h0) (by omega))
    have dgt : decide ((9223372036854775808 : Int) < (Q : Int)) = true := decide_eq_true (by omega)
    have dgn : decide (9223372036854775808 < Q) = true := decide_eq_true (by omega)
    have deq : (((Q : Nat) : Int) == 9223372036854775808) = false := by rw [beq_eq_false_iff_ne]; omega
    have den : (Q == 9223372036854775808) = false := by rw [beq_eq_false_iff_ne]; omega
    clear gt big QL
    go_wp2_with fail
    go_ret2
    exact ⟨by rw [e.out]; first | rfl | (simp [wrap64, IntKind.wrap, IntKind.bits, IntKind.signed]), B0.below⟩

set_option maxRecDepth 100000 in
set_option maxHeartbeats 2000000 in
theorem refRatFloor_any (w : World) {g : Bool} {a b : Option Addr} {n m c d : Nat} {xs ys : List Nat} (h1 : Rd .u32 w a n c xs) (h2 : Rd .u32 w b m d ys) :
    Calls Tryz.prog 19 #[ratV g a n c b m d] w (RetIEB w (floorV ⟨g, xs, ys⟩)) := by
  have B0 := Box.new w g a n c b m d
  have c0 := B0.at0
  have c1 := B0.at1
  have c2 := B0.at2
  obtain ⟨r, hr⟩ : ∃ r, r = floorV ⟨g, xs, ys⟩ := ⟨_, rfl⟩
  rw [← hr]
  by_cases hg : chkV ⟨g, xs, ys⟩ = 0
  case neg =>
    have e := Lib.hid (show r = (0, 8) by rw [hr, floorV, if_neg hg])
    have C := Lib.hid ((chkV_two _).resolve_left hg)
    clear hr hg
    go_enter Tryz.func19, Tryz.ntmps19
    go_wp2_with fail
    have cc := refRatCheck_any (neg := g) _ (h1.below B0.below) (h2.below B0.below)
    rw [C.out] at cc
    refine cc.mono ?_
    rintro e1 w1 ⟨rfl, hb⟩
    clear cc c0 c1 c2
    go_wp2_with fail
    go_ret2
    exact ⟨by rw [e.out]; rfl, B0.below.trans (hb.mono B0.below.size)⟩
  case pos =>
  have C := Lib.hid hg
  obtain ⟨q, e1, f1⟩ := chkV_get (x := ⟨g, xs, ys⟩) h1.bd h2.bd hg
  have HR := Lib.hid (show r = floorQ q by rw [hr, floorV, if_pos hg, e1, toQ_ofQ])
  have ex : g = decide (q.num < 0) ∧ xs = limbs q.num.natAbs ∧ ys = limbs q.den := by
    unfold ofQ at e1
    injection e1 with e1 e3 e4
    exact ⟨e1, e3, e4⟩
  obtain ⟨Q, hQ⟩ : ∃ Q, Q = q.num.natAbs / q.den := ⟨_, rfl⟩
  obtain ⟨R, hR⟩ : ∃ R, R = q.num.natAbs % q.den := ⟨_, rfl⟩
  have EX := Lib.hid ex
  have FT := Lib.hid f1
  have DV := Lib.hid (show divC (limbs q.num.natAbs) (limbs q.den) = (limbs Q, limbs R, 0) by rw [div_ok f1.1 f1.2 q.den_pos, hQ, hR])
  have QL : Q < pw 96 := by rw [hQ]; exact Nat.lt_of_le_of_lt (Nat.div_le_self _ _) f1.1
  have FP := Lib.hid (show g = false → flQ q = (Q : Int) from fun h => by rw [hQ]; exact fl_pos (ex.1.symm.trans h))
  have FN0 := Lib.hid (show g = true → R = 0 → flQ q = -(Q : Int) from fun h h2 => by rw [hQ]; exact fl_neg0 (ex.1.symm.trans h) (hR.symm.trans h2))
  have FN1 := Lib.hid (show g = true → R ≠ 0 → flQ q = -(Q : Int) - 1 from fun h h2 => by rw [hQ]; exact fl_neg1 (ex.1.symm.trans h) (fun h3 => h2 (hR.trans h3)))
  have Q1 := Lib.hid (show R ≠ 0 → Q + 1 < pw 96 from fun h => by
    have d2 : 2 ≤ q.den := by
      rcases Nat.lt_or_ge q.den 2 with h2 | h2
      · exfalso
        have := q.den_pos
        obtain h3 : q.den = 1 := by omega
        rw [h3, Nat.mod_one] at hR
        exact h hR
      · exact h2
    have l1 := f1.1
    have e3 : Q * 2 ≤ q.num.natAbs := by rw [hQ]; exact Nat.le_trans (Nat.mul_le_mul_left _ d2) (Nat.div_mul_le_self _ _)
    have p96 : 4 ≤ pw 96 := Nat.le_trans (by decide) (pw_le (show 1 ≤ 96 by decide))
    generalize pw 96 = P at *
    omega)
  clear hr hg e1 f1 ex hQ hR
  go_enter Tryz.func19, Tryz.ntmps19
  go_wp2_with fail
  have cc := refRatCheck_any (neg := g) _ (h1.below B0.below) (h2.below B0.below)
  rw [C.out] at cc
  refine cc.mono ?_
  rintro e1 w1 ⟨rfl, hb⟩
  clear cc c0 c1 c2
  have B0 := B0.later hb
  have c0 := B0.at0
  have c1 := B0.at1
  have c2 := B0.at2
  clear hb
  go_wp2_with fail
  have h1 := h1.below B0.below
  have h2 := h2.below B0.below
  rw [EX.out.2.1] at h1
  rw [EX.out.2.2] at h2
  have cc := refDiv_any _ h1 h2
  rw [DV.out] at cc
  refine cc.mono ?_
  rintro e1 w2 ⟨aq, nq, cq, ar, nr, cr, rfl, hq, hr, hb⟩
  clear cc c0 c1 c2 h1 h2
  have B0 := B0.later hb
  have c0 := B0.at0
  have c1 := B0.at1
  have c2 := B0.at2
  clear hb
  have RN := Lib.hid hr.len
  clear hr
  cases g
  · have FL := FP.out rfl
    have TL := QL
    clear FP FN0 FN1 Q1 QL
    generalize Q = T at *
    go_wp2_with fail
    by_cases big : T < 18446744073709551616
    case neg =>
      have e := Lib.hid (show r = (0, 30) by rw [HR.out]; exact floor_out FL (by omega))
      have cc := refWord_any _ hq
      rw [word_big TL big] at cc
      refine cc.mono ?_
      rintro e1 w9 ⟨rfl, hw⟩
      have hw := hw.symm
      subst hw
      clear cc
      clear big FL
      go_wp2_with fail
      go_ret2
      exact ⟨by rw [e.out]; first | rfl | (simp [wrap64, IntKind.wrap, IntKind.bits, IntKind.signed]), B0.below⟩
    case pos =>
    have cc := refWord_any _ hq
    rw [word_ok big] at cc
    refine cc.mono ?_
    rintro e1 w9 ⟨rfl, hw⟩
    have hw := hw.symm
    subst hw
    clear cc
    rcases Nat.lt_trichotomy T 9223372036854775808 with lt | eq | gt
    · have dgt : decide ((9223372036854775808 : Int) < (T : Int)) = false := decide_eq_false (by omega)
      have dgn : decide (9223372036854775808 < T) = false := decide_eq_false (by omega)
      have deq : (((T : Nat) : Int) == 9223372036854775808) = false := by rw [beq_eq_false_iff_ne]; omega
      have den : (T == 9223372036854775808) = false := by rw [beq_eq_false_iff_ne]; omega
      have e := Lib.hid (show r = ((T : Int), 0) by rw [HR.out]; exact floor_in FL (by omega) (by omega))
      have cv : IntKind.i64.wrap (T : Int) = (T : Int) := wrap_i64 (by omega) (by omega)
      clear lt big TL FL
      go_wp2_with fail
      go_ret2
      exact ⟨by rw [e.out]; first | rfl | (simp [wrap64, IntKind.wrap, IntKind.bits, IntKind.signed]), B0.below⟩
    · subst eq
      have e := Lib.hid (show r = (0, 30) by rw [HR.out]; exact floor_out FL (by omega))
      clear big TL FL
      go_wp2_with fail
      go_ret2
      exact ⟨by rw [e.out]; first | rfl | (simp [wrap64, IntKind.wrap, IntKind.bits, IntKind.signed]), B0.below⟩
    · have dgt : decide ((9223372036854775808 : Int) < (T : Int)) = true := decide_eq_true (by omega)
      have dgn : decide (9223372036854775808 < T) = true := decide_eq_true (by omega)
      have deq : (((T : Nat) : Int) == 9223372036854775808) = false := by rw [beq_eq_false_iff_ne]; omega
      have den : (T == 9223372036854775808) = false := by rw [beq_eq_false_iff_ne]; omega
      have e := Lib.hid (show r = (0, 30) by rw [HR.out]; exact floor_out FL (by omega))
      clear gt big TL FL
      go_wp2_with fail
      go_ret2
      exact ⟨by rw [e.out]; first | rfl | (simp [wrap64, IntKind.wrap, IntKind.bits, IntKind.signed]), B0.below⟩
  · by_cases h0 : R = 0
    · have FL := FN0.out rfl h0
      have TL := QL
      subst h0
      obtain rfl : nr = 0 := by have := RN.out; simpa [limbs_zero] using this.symm
      clear FP FN0 FN1 Q1 QL
      generalize Q = T at *
      go_wp2_with fail
      by_cases big : T < 18446744073709551616
      case neg =>
        have e := Lib.hid (show r = (0, 30) by rw [HR.out]; exact floor_out FL (by omega))
        have cc := refWord_any _ hq
        rw [word_big TL big] at cc
        refine cc.mono ?_
        rintro e1 w9 ⟨rfl, hw⟩
        have hw := hw.symm
        subst hw
        clear cc
        clear big FL
        go_wp2_with fail
        go_ret2
        exact ⟨by rw [e.out]; first | rfl | (simp [wrap64, IntKind.wrap, IntKind.bits, IntKind.signed]), B0.below⟩
      case pos =>
      have cc := refWord_any _ hq
      rw [word_ok big] at cc
      refine cc.mono ?_
      rintro e1 w9 ⟨rfl, hw⟩
      have hw := hw.symm
      subst hw
      clear cc
      rcases Nat.lt_trichotomy T 9223372036854775808 with lt | eq | gt
      · have dgt : decide ((9223372036854775808 : Int) < (T : Int)) = false := decide_eq_false (by omega)
        have dgn : decide (9223372036854775808 < T) = false := decide_eq_false (by omega)
        have deq : (((T : Nat) : Int) == 9223372036854775808) = false := by rw [beq_eq_false_iff_ne]; omega
        have den : (T == 9223372036854775808) = false := by rw [beq_eq_false_iff_ne]; omega
        have e := Lib.hid (show r = ((-(T : Int)), 0) by rw [HR.out]; exact floor_in FL (by omega) (by omega))
        have cu : IntKind.i64.wrap (T : Int) = (T : Int) := wrap_i64 (by omega) (by omega)
        have cv : IntKind.i64.wrap (-(T : Int)) = -(T : Int) := wrap_i64 (by omega) (by omega)
        clear lt big TL FL
        go_wp2_with fail
        go_ret2
        exact ⟨by rw [e.out]; first | rfl | (simp [wrap64, IntKind.wrap, IntKind.bits, IntKind.signed]), B0.below⟩
      · subst eq
        have e := Lib.hid (show r = (-9223372036854775808, 0) by rw [HR.out]; exact floor_in FL (by omega) (by omega))
        clear big TL FL
        go_wp2_with fail
        go_ret2
        exact ⟨by rw [e.out]; first | rfl | (simp [wrap64, IntKind.wrap, IntKind.bits, IntKind.signed]), B0.below⟩
      · have dgt : decide ((9223372036854775808 : Int) < (T : Int)) = true := decide_eq_true (by omega)
        have dgn : decide (9223372036854775808 < T) = true := decide_eq_true (by omega)
        have deq : (((T : Nat) : Int) == 9223372036854775808) = false := by rw [beq_eq_false_iff_ne]; omega
        have den : (T == 9223372036854775808) = false := by rw [beq_eq_false_iff_ne]; omega
        have e := Lib.hid (show r = (0, 30) by rw [HR.out]; exact floor_out FL (by omega))
        clear gt big TL FL
        go_wp2_with fail
        go_ret2
        exact ⟨by rw [e.out]; first | rfl | (simp [wrap64, IntKind.wrap, IntKind.bits, IntKind.signed]), B0.below⟩
    · have FL : flQ q = -((Q + 1 : Nat) : Int) := by rw [FN1.out rfl h0]; omega
      have TL := Q1.out h0
      have n0 : nr ≠ 0 := by rw [← RN.out]; exact fun h => h0 (limbs_len_zero.1 h)
      have dr : decide ((0 : Int) < (nr : Int)) = true := decide_eq_true (by omega)
      have drn : decide (0 < nr) = true := decide_eq_true (by omega)
      have AD := Lib.hid (show addC (limbs Q) (limbs 1) = (limbs (Q + 1), 0) from add_ok TL)
      clear FP FN0 FN1 Q1 QL n0 h0
      generalize hT : Q + 1 = T at *
      have hA := below_al w2 (.cells #[.int .u32 1] 49)
      have hq := hq.below hA
      have B0 := B0.later hA
      clear hA c1 c2
      go_wp2_with fail
      have hl := lit_one w2
      have cc := refAdd_any _ hq hl
      rw [AD.out] at cc
      refine cc.mono ?_
      rintro e1 w3 ⟨ax, nx, cx, rfl, hq, hb⟩
      clear cc c0 dr drn
      have B0 := B0.later hb
      have c0 := B0.at0
      clear hb
      go_wp2_with fail
      by_cases big : T < 18446744073709551616
      case neg =>
        have e := Lib.hid (show r = (0, 30) by rw [HR.out]; exact floor_out FL (by omega))
        have cc := refWord_any _ hq
        rw [word_big TL big] at cc
        refine cc.mono ?_
        rintro e1 w9 ⟨rfl, hw⟩
        have hw := hw.symm
        subst hw
        clear cc
        clear big FL
        go_wp2_with fail
        go_ret2
        exact ⟨by rw [e.out]; first | rfl | (simp [wrap64, IntKind.wrap, IntKind.bits, IntKind.signed]), B0.below⟩
      case pos =>
      have cc := refWord_any _ hq
      rw [word_ok big] at cc
      refine cc.mono ?_
      rintro e1 w9 ⟨rfl, hw⟩
      have hw := hw.symm
      subst hw
      clear cc
      rcases Nat.lt_trichotomy T 9223372036854775808 with lt | eq | gt
      · have dgt : decide ((9223372036854775808 : Int) < (T : Int)) = false := decide_eq_false (by omega)
        have dgn : decide (9223372036854775808 < T) = false := decide_eq_false (by omega)
        have deq : (((T : Nat) : Int) == 9223372036854775808) = false := by rw [beq_eq_false_iff_ne]; omega
        have den : (T == 9223372036854775808) = false := by rw [beq_eq_false_iff_ne]; omega
        have e := Lib.hid (show r = ((-(T : Int)), 0) by rw [HR.out]; exact floor_in FL (by omega) (by omega))
        have cu : IntKind.i64.wrap (T : Int) = (T : Int) := wrap_i64 (by omega) (by omega)
        have cv : IntKind.i64.wrap (-(T : Int)) = -(T : Int) := wrap_i64 (by omega) (by omega)
        clear lt big TL FL
        go_wp2_with fail
        go_ret2
        exact ⟨by rw [e.out]; first | rfl | (simp [wrap64, IntKind.wrap, IntKind.bits, IntKind.signed]), B0.below⟩
      · subst eq
        have e := Lib.hid (show r = (-9223372036854775808, 0) by rw [HR.out]; exact floor_in FL (by omega) (by omega))
        clear big TL FL
        go_wp2_with fail
        go_ret2
        exact ⟨by rw [e.out]; first | rfl | (simp [wrap64, IntKind.wrap, IntKind.bits, IntKind.signed]), B0.below⟩
      · have dgt : decide ((9223372036854775808 : Int) < (T : Int)) = true := decide_eq_true (by omega)
        have dgn : decide (9223372036854775808 < T) = true := decide_eq_true (by omega)
        have deq : (((T : Nat) : Int) == 9223372036854775808) = false := by rw [beq_eq_false_iff_ne]; omega
        have den : (T == 9223372036854775808) = false := by rw [beq_eq_false_iff_ne]; omega
        have e := Lib.hid (show r = (0, 30) by rw [HR.out]; exact floor_out FL (by omega))
        clear gt big TL FL
        go_wp2_with fail
        go_ret2
        exact ⟨by rw [e.out]; first | rfl | (simp [wrap64, IntKind.wrap, IntKind.bits, IntKind.signed]), B0.below⟩

end Go.Proofs.YtdaajeklnhbhjaaGreatDoor
