/- CheckLimit and Confirmed in the document's answer. -/
import Derived.Test.YtkomdiblopdfiaaRatJ
import Derived.Test.YtkomdiblopdfiaaPolF
namespace Go.Proofs.Ytkomdiblopdfiaa
open Go.RowKit Go.Suf
set_option linter.unusedVariables false
set_option linter.unusedSimpArgs false

theorem ofC_zero : (ofC 0 1).1 = ofQ 0 := by
  rw [ofC, if_neg (by decide)]
  show ofQ _ = ofQ _
  rw [show (((0 : Int) : Rat)) = 0 from rfl, Rat.div_def, Rat.zero_mul]

theorem ofC_one : (ofC 1 1).1 = ofQ 1 := by
  rw [ofC, if_neg (by decide)]
  show ofQ _ = ofQ _
  rw [show (((1 : Int) : Rat)) = 1 from rfl, Rat.div_def, Rat.mul_inv_cancel 1 (by decide)]

theorem fit_zero : fitQ 0 := ⟨pw_pos 96, Nat.lt_of_lt_of_le (by decide) (pw_le (show 1 ≤ 96 by decide))⟩
theorem fit_one : fitQ 1 := ⟨Nat.lt_of_lt_of_le (by decide) (pw_le (show 1 ≤ 96 by decide)), Nat.lt_of_lt_of_le (by decide) (pw_le (show 1 ≤ 96 by decide))⟩

theorem side_zero : sideQ 0 = 0 := rfl
theorem side_one : sideQ 1 = 1 := rfl

theorem cmp_zero {p : Rat} (h : fitQ p) : cmpV (ofQ p) (ofQ 0) = (sideQ p, 0) := by
  rw [cmpV, if_pos ⟨chkV_ofQ h, chkV_ofQ fit_zero⟩, toQ_ofQ, toQ_ofQ, cmpQ, if_neg (by rw [side_zero]; intro h; exact h.2.1 h.1), cmpR_side (by rw [side_zero]; exact (Decidable.em _).symm), side_zero]
  rcases sideQ_three p with h | h | h <;> rw [h] <;> rfl

theorem cmp_one' {p : Rat} (h : fitQ p) : cmpV (ofQ p) (ofQ 1) = (cmpR p 1, 0) := by
  rw [cmpV, if_pos ⟨chkV_ofQ h, chkV_ofQ fit_one⟩, toQ_ofQ, toQ_ofQ, cmpQ, if_neg]
  rintro ⟨_, _, h3⟩
  refine h3 ⟨?_, ?_⟩
  · show p.num.natAbs * 1 < _
    rw [Nat.mul_one]
    exact h.1
  · show 1 * p.den < _
    rw [Nat.one_mul]
    exact h.2

/-- The limit's check as the document's answer makes it. -/
theorem limC_cmp {p : Rat} (hf : fitQ p) : limC (ofQ p) = if 2 < (limbs p.num.natAbs).length ∨ 2 < (limbs p.den).length then 2 else if sideQ p ≤ 0 ∨ 0 < cmpR p 1 then 2 else 0 := by
  have hc := chkV_ofQ hf
  by_cases hl : 2 < (limbs p.num.natAbs).length ∨ 2 < (limbs p.den).length
  · rw [if_pos hl]
    refine limC_arg hc (fun h => ?_)
    have h3 : (limbs p.num.natAbs).length ≤ 2 := h.2.2.1
    have h4 : (limbs p.den).length ≤ 2 := h.2.2.2.1
    omega
  · rw [if_neg hl]
    rcases num_cases p with ⟨s, z⟩ | ⟨s, z, z'⟩ | ⟨s, z, z'⟩
    · rw [if_pos (.inl (by rw [s]; decide))]
      refine limC_arg hc (fun h => h.2.1 ?_)
      show (limbs p.num.natAbs).length = 0
      exact limbs_len_zero.2 (by rw [z]; rfl)
    · rw [if_pos (.inl (by rw [s]; decide))]
      refine limC_arg hc (fun h => ?_)
      have : decide (p.num < 0) = false := h.1
      rw [decide_eq_true z] at this
      simp at this
    · have hcm : cmpR p 1 = cmpN p.num.natAbs p.den := by
        rw [cmpR_cross (by rw [s]; rfl), s, Int.one_mul]
        show cmpN (p.num.natAbs * 1) (1 * p.den) = _
        rw [Nat.mul_one, Nat.one_mul]
      have hn0 : (limbs p.num.natAbs).length ≠ 0 := fun h => by
        have := limbs_len_zero.1 h
        omega
      have hle : leC (limbs p.num.natAbs) (limbs p.den) = decide (p.num.natAbs ≤ p.den) := leC_ok hf.1 hf.2
      by_cases hd : p.num.natAbs ≤ p.den
      · rw [if_neg]
        · refine limC_ok hc ⟨decide_eq_false (by omega), hn0, ?_, ?_, ?_⟩
          · show (limbs p.num.natAbs).length ≤ 2
            omega
          · show (limbs p.den).length ≤ 2
            omega
          · show leC (limbs p.num.natAbs) (limbs p.den) = true
            rw [hle]
            exact decide_eq_true hd
        · rw [s, hcm]
          unfold cmpN
          intro h
          rcases h with h | h
          · exact absurd h (by decide)
          · split at h
            · exact absurd h (by decide)
            · rw [if_neg (by omega)] at h
              exact absurd h (by decide)
      · rw [if_pos]
        · refine limC_arg hc (fun h => ?_)
          have h5 : leC (limbs p.num.natAbs) (limbs p.den) = true := h.2.2.2.2
          rw [hle] at h5
          exact hd (of_decide_eq_true h5)
        · right
          rw [hcm]
          unfold cmpN
          rw [if_neg (by omega), if_pos (by omega)]
          decide

set_option maxRecDepth 100000 in
set_option maxHeartbeats 4000000 in
theorem refCheckLimit_any (w : World) {g : Bool} {a b : Option Addr} {n m c d : Nat} {xs ys : List Nat} (h1 : Rd .u32 w a n c xs) (h2 : Rd .u32 w b m d ys) :
    Calls Try.prog 29 #[ratV g a n c b m d] w (RetIB w (limC ⟨g, xs, ys⟩)) := by
  obtain ⟨r, hr⟩ : ∃ r, r = limC ⟨g, xs, ys⟩ := ⟨_, rfl⟩
  rw [← hr]
  have L1 := Has.new w #[.bool g, .slice a n c, .slice b m d] 33
  have k0 := L1.cell 0 _ rfl
  have k1 := L1.cell 1 _ rfl
  have k2 := L1.cell 2 _ rfl
  have hl := h1.len
  have hm := h2.len
  by_cases hc : chkV ⟨g, xs, ys⟩ = 0
  case neg =>
    have e := Lib.hid (show r = 8 by rw [hr]; exact limC_bad hc)
    have C := Lib.hid ((chkV_two _).resolve_left hc)
    clear hr hc hl hm
    go_enter Try.func29, Try.ntmps29
    go_wp2_with fail
    have cc := refRatCheck_any (neg := g) _ (h1.below L1.below) (h2.below L1.below)
    rw [C.out] at cc
    refine cc.mono ?_
    rintro e1 w1 ⟨rfl, hb⟩
    clear cc
    go_wp2_with fail
    go_ret
    exact ⟨by rw [e.out]; rfl, L1.below.trans (hb.mono L1.below.size)⟩
  case pos =>
  have C := Lib.hid hc
  obtain ⟨p, e1, f1⟩ := chkV_get (x := ⟨g, xs, ys⟩) h1.bd h2.bd hc
  obtain ⟨s, hs⟩ : ∃ s, s = sideQ p := ⟨_, rfl⟩
  obtain ⟨v, hv⟩ : ∃ v, v = cmpR p 1 := ⟨_, rfl⟩
  have hr2 : r = if 2 < n ∨ 2 < m then 2 else if s ≤ 0 ∨ 0 < v then 2 else 0 := by
    rw [hr, e1, limC_cmp f1, hs, hv, ← hl, ← hm]
    unfold ofQ at e1
    injection e1 with e1 e3 e4
    rw [e3, e4]
  have Z0 := Lib.hid (show cmpV ⟨g, xs, ys⟩ (ofC 0 1).1 = (s, 0) by rw [e1, ofC_zero, hs]; exact cmp_zero f1)
  have Z1 := Lib.hid (show cmpV ⟨g, xs, ys⟩ (ofC 1 1).1 = (v, 0) by rw [e1, ofC_one, hv]; exact cmp_one' f1)
  obtain ⟨z, hz⟩ : ∃ z, z = (ofC 0 1).1 := ⟨_, rfl⟩
  obtain ⟨y, hy⟩ : ∃ y, y = (ofC 1 1).1 := ⟨_, rfl⟩
  have HZ := Lib.hid hz
  have HY := Lib.hid hy
  have HR := Lib.hid hr2
  clear hr hr2 e1 f1 hs hv hz hy hc hl hm
  have lens : (2 < n) ∨ (n ≤ 2 ∧ 2 < m) ∨ (n ≤ 2 ∧ m ≤ 2 ∧ s ≤ 0) ∨ (n ≤ 2 ∧ m ≤ 2 ∧ 0 < s ∧ 0 < v) ∨ (n ≤ 2 ∧ m ≤ 2 ∧ 0 < s ∧ v ≤ 0) := by omega
  have LE := Lib.hid lens
  clear lens
  go_enter Try.func29, Try.ntmps29
  go_wp2_with fail
  have cc := refRatCheck_any (neg := g) _ (h1.below L1.below) (h2.below L1.below)
  rw [C.out] at cc
  refine cc.mono ?_
  rintro e1 w1 ⟨rfl, hb⟩
  clear cc
  have L1 := L1.later hb
  clear hb k0 k1 k2
  go_wp2_with fail
  have cc := refWhole_any w1 0 (by decide) (by decide)
  rw [← HZ.out] at cc
  refine cc.mono ?_
  rintro e1 w2 ⟨a1, n1, c1, b1, m1, d1, rfl, x1, x2, hb⟩
  clear cc
  have L1 := L1.later hb
  have hA := below_al w2 (.cells #[.bool z.neg, .slice a1 n1 c1, .slice b1 m1 d1] 33)
  have L2 := Has.new w2 #[.bool z.neg, .slice a1 n1 c1, .slice b1 m1 d1] 33
  have L1 := L1.later hA
  have x1 := x1.below hA
  have x2 := x2.below hA
  clear hb hA
  go_wp2_with first | refine wpList_store_new rfl 33 _ _ rfl atRat _ _ _ rfl rfl rfl rfl (rat_one _ _ _ _ _ _ _) ?_
  have cc := refWhole_any (w2.alloc (.cells #[.bool z.neg, .slice a1 n1 c1, .slice b1 m1 d1] 33)) 1 (by decide) (by decide)
  rw [← HY.out] at cc
  refine cc.mono ?_
  rintro e1 w3 ⟨a3, n3, c3, b3, m3, d3, rfl, y1, y2, hb⟩
  clear cc
  have hA := below_al w3 (.cells #[.bool y.neg, .slice a3 n3 c3, .slice b3 m3 d3] 33)
  have L3 := Has.new w3 #[.bool y.neg, .slice a3 n3 c3, .slice b3 m3 d3] 33
  have L1 := (L1.later hb).later hA
  have L2 := (L2.later hb).later hA
  have x1 := (x1.below hb).below hA
  have x2 := (x2.below hb).below hA
  have y1 := y1.below hA
  have y2 := y2.below hA
  have k0 := L1.cell 0 _ rfl
  have k1 := L1.cell 1 _ rfl
  have k2 := L1.cell 2 _ rfl
  have k3 := L2.cell 0 _ rfl
  have k4 := L2.cell 1 _ rfl
  have k5 := L2.cell 2 _ rfl
  clear hb hA
  rcases LE.out with hh | hh | hh
  · have e := Lib.hid (show r = 2 by rw [HR.out, if_pos (by omega)])
    have d1 : decide ((2 : Int) < (n : Int)) = true := decide_eq_true (by omega)
    clear hh
    go_wp2_with first | refine wpList_store_new rfl 33 _ _ rfl atRat _ _ _ rfl rfl rfl rfl (rat_one _ _ _ _ _ _ _) ?_
    go_ret
    exact ⟨by rw [e.out]; rfl, L1.below⟩
  · have e := Lib.hid (show r = 2 by rw [HR.out, if_pos (by omega)])
    have d1 : decide ((2 : Int) < (n : Int)) = false := decide_eq_false (by omega)
    have d2 : decide ((2 : Int) < (m : Int)) = true := decide_eq_true (by omega)
    clear hh
    go_wp2_with first | refine wpList_store_new rfl 33 _ _ rfl atRat _ _ _ rfl rfl rfl rfl (rat_one _ _ _ _ _ _ _) ?_
    go_ret
    exact ⟨by rw [e.out]; rfl, L1.below⟩
  have d1 : decide ((2 : Int) < (n : Int)) = false := decide_eq_false (by omega)
  have d2 : decide ((2 : Int) < (m : Int)) = false := decide_eq_false (by omega)
  have HH := Lib.hid hh
  clear hh
  go_wp2_with first | refine wpList_store_new rfl 33 _ _ rfl atRat _ _ _ rfl rfl rfl rfl (rat_one _ _ _ _ _ _ _) ?_
  have cc := refRatCmp_any (g1 := g) (g2 := z.neg) _ (h1.below L1.below) (h2.below L1.below) x1 x2
  rw [show (⟨z.neg, z.num, z.den⟩ : QV) = z from rfl, HZ.out, Z0.out] at cc
  rw [← HZ.out] at cc
  refine cc.mono ?_
  rintro e1 w4 ⟨rfl, hb⟩
  clear cc
  have L1 := L1.later hb
  have L3 := L3.later hb
  have y1 := y1.below hb
  have y2 := y2.below hb
  clear k0 k1 k2 k3 k4 k5 hb
  have k0 := L1.cell 0 _ rfl
  have k1 := L1.cell 1 _ rfl
  have k2 := L1.cell 2 _ rfl
  have k3 := L3.cell 0 _ rfl
  have k4 := L3.cell 1 _ rfl
  have k5 := L3.cell 2 _ rfl
  go_wp2_with fail
  have cc := refRatCmp_any (g1 := g) (g2 := y.neg) _ (h1.below L1.below) (h2.below L1.below) y1 y2
  rw [show (⟨y.neg, y.num, y.den⟩ : QV) = y from rfl, HY.out, Z1.out] at cc
  rw [← HY.out] at cc
  refine cc.mono ?_
  rintro e1 w5 ⟨rfl, hb⟩
  clear cc
  have L1 := L1.later hb
  rcases HH.out with hh | hh | hh
  · have e := Lib.hid (show r = 2 by rw [HR.out, if_neg (by omega), if_pos (by omega)])
    have d3 : decide (s ≤ 0) = true := decide_eq_true (by omega)
    clear hh
    go_wp2_with fail
    go_ret
    exact ⟨by rw [e.out]; rfl, L1.below⟩
  · have e := Lib.hid (show r = 2 by rw [HR.out, if_neg (by omega), if_pos (by omega)])
    have d3 : decide (s ≤ 0) = false := decide_eq_false (by omega)
    have d4 : decide (0 < v) = true := decide_eq_true (by omega)
    clear hh
    go_wp2_with fail
    go_ret
    exact ⟨by rw [e.out]; rfl, L1.below⟩
  · have e := Lib.hid (show r = 0 by rw [HR.out, if_neg (by omega), if_neg (by omega)])
    have d3 : decide (s ≤ 0) = false := decide_eq_false (by omega)
    have d4 : decide (0 < v) = false := decide_eq_false (by omega)
    clear hh
    go_wp2_with fail
    go_ret
    exact ⟨by rw [e.out]; rfl, L1.below⟩

set_option maxRecDepth 100000 in
set_option maxHeartbeats 4000000 in
theorem refConfirmed_any (w : World) {q : PV} {a' b' : Option Addr} {n' m' c' d' : Nat} (q1 : Rd .u32 w a' n' c' q.lev) (q2 : Rd .u32 w b' m' d' q.best) (hw : PW q)
    {g : Bool} {a b : Option Addr} {n m c d : Nat} {xs ys : List Nat} (h1 : Rd .u32 w a n c xs) (h2 : Rd .u32 w b m d ys) :
    Calls Try.prog 25 #[polV q a' n' c' b' m' d', ratV g a n c b m d] w (RetBE w (confC q ⟨g, xs, ys⟩)) := by
  obtain ⟨r, hr⟩ : ∃ r, r = confC q ⟨g, xs, ys⟩ := ⟨_, rfl⟩
  rw [← hr]
  obtain ⟨L1, L2⟩ := pol_rat_boxes w (polC q a' n' c' b' m' d') #[.bool g, .slice a n c, .slice b m d]
  have k0 := L1.cell 0 _ rfl
  have k1 := L1.cell 1 _ rfl
  have k2 := L1.cell 2 _ rfl
  have k3 := L1.cell 3 _ rfl
  have k4 := L1.cell 4 _ rfl
  have k5 := L1.cell 5 _ rfl
  by_cases hc : chkP q = 0
  · by_cases hl : limC ⟨g, xs, ys⟩ = 0
    · have e := Lib.hid (show r = (sureC q.best xs ys, 0) by rw [hr]; exact confC_ok hc hl)
      obtain ⟨s, hs⟩ : ∃ s, s = sureC q.best xs ys := ⟨_, rfl⟩
      have HS := Lib.hid hs
      rw [← hs] at e
      have C1 := Lib.hid hc
      have C2 := Lib.hid hl
      clear hr hc hl hs
      go_enter Try.func25, Try.ntmps25
      go_wp2_with fail
      have cc := refPolCheck_any _ (q1.below L1.below) (q2.below L1.below) hw
      rw [C1.out] at cc
      refine cc.mono ?_
      rintro e1 w1 ⟨rfl, hb⟩
      clear cc
      have L1 := L1.later hb
      have L2 := L2.later hb
      have k0 := L2.cell 0 _ rfl
      have k1 := L2.cell 1 _ rfl
      have k2 := L2.cell 2 _ rfl
      clear hb
      go_wp2_with fail
      have cc := refCheckLimit_any (g := g) _ (h1.below L1.below) (h2.below L1.below)
      rw [C2.out] at cc
      refine cc.mono ?_
      rintro e1 w2 ⟨rfl, hb⟩
      clear cc
      have L1 := L1.later hb
      have L2 := L2.later hb
      have k0 := L2.cell 0 _ rfl
      have k1 := L2.cell 1 _ rfl
      have k2 := L2.cell 2 _ rfl
      have k5 := L1.cell 5 _ rfl
      clear hb
      go_wp2_with fail
      have cc := reached_any (g := g) _ (q2.below L1.below) (h1.below L1.below) (h2.below L1.below)
      rw [← HS.out] at cc
      refine cc.mono ?_
      rintro e1 w3 ⟨rfl, hb⟩
      clear cc
      go_wp2_with fail
      go_ret2
      exact ⟨by rw [e.out]; rfl, L1.below.trans (hb.mono L1.below.size)⟩
    · have e := Lib.hid (show r = (false, limC ⟨g, xs, ys⟩) by rw [hr]; exact confC_lim hc hl)
      obtain ⟨s, hs⟩ : ∃ s, s = limC ⟨g, xs, ys⟩ := ⟨_, rfl⟩
      have HS := Lib.hid hs
      rw [← hs] at e hl
      have d1 : (s != 0) = true := by rw [bne_iff_ne]; exact hl
      have C1 := Lib.hid hc
      clear hr hc hl hs
      go_enter Try.func25, Try.ntmps25
      go_wp2_with fail
      have cc := refPolCheck_any _ (q1.below L1.below) (q2.below L1.below) hw
      rw [C1.out] at cc
      refine cc.mono ?_
      rintro e1 w1 ⟨rfl, hb⟩
      clear cc
      have L1 := L1.later hb
      have L2 := L2.later hb
      have k0 := L2.cell 0 _ rfl
      have k1 := L2.cell 1 _ rfl
      have k2 := L2.cell 2 _ rfl
      clear hb
      go_wp2_with fail
      have cc := refCheckLimit_any (g := g) _ (h1.below L1.below) (h2.below L1.below)
      rw [← HS.out] at cc
      refine cc.mono ?_
      rintro e1 w2 ⟨rfl, hb⟩
      clear cc
      go_wp2_with fail
      go_ret2
      exact ⟨by rw [e.out]; rfl, L1.below.trans (hb.mono L1.below.size)⟩
  · have e := Lib.hid (show r = (false, 8) by rw [hr]; exact confC_bad hc)
    have C1 := Lib.hid ((chkP_two q).resolve_left hc)
    clear hr hc
    go_enter Try.func25, Try.ntmps25
    go_wp2_with fail
    have cc := refPolCheck_any _ (q1.below L1.below) (q2.below L1.below) hw
    rw [C1.out] at cc
    refine cc.mono ?_
    rintro e1 w1 ⟨rfl, hb⟩
    clear cc
    go_wp2_with fail
    go_ret2
    exact ⟨by rw [e.out]; rfl, L1.below.trans (hb.mono L1.below.size)⟩

end Go.Proofs.Ytkomdiblopdfiaa
