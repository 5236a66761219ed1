/- Plain laws for comparison audits: parts, fractions, the examples' numbers. No program in sight. Printed by gen_cmpv.py. -/
import Derived.Test.YtmkcdlhhbnakiaaCmpJ
import Derived.Test.YtmkcdlhhbnakiaaCmpL
import Derived.Test.YtmkcdlhhbnakiaaCmpC
import Derived.Deep.CutRange
namespace Go.Proofs.Ytmkcdlhhbnakiaa
open Go.RowKit Go.Suf
set_option linter.unusedVariables false
set_option linter.unusedSimpArgs false

theorem ofC_low {n d : Nat} (hd : d ≠ 0) : (ofC (n : Int) (d : Int)).1 = ⟨false, limbs (n / n.gcd d), limbs (d / n.gcd d)⟩ := by
  rw [ofC, if_neg (by omega)]
  show ofQ _ = _
  rw [← of_low (by omega), decide_eq_false (by omega), decide_eq_false (by omega), Int.natAbs_natCast, Int.natAbs_natCast]
  rfl

theorem ofQ_get {q : Rat} {g : Bool} {A B : Nat} (h : ofQ q = ⟨g, limbs A, limbs B⟩) : q.num.natAbs = A ∧ q.den = B := by
  unfold ofQ at h
  injection h with h1 h2 h3
  have h2 := congrArg val h2
  have h3 := congrArg val h3
  rw [val_limbs, val_limbs] at h2 h3
  exact ⟨h2, h3⟩

theorem part_chk {n d : Nat} (hd : d ≠ 0) (h1 : n < 4294967296) (h2 : d < 4294967296) : chkV (ofC (n : Int) (d : Int)).1 = 0 := by
  have h := ofC_low (n := n) hd
  have h' := h
  rw [ofC, if_neg (by omega)] at h'
  have h3 := ofQ_get h'
  rw [show (ofC (n : Int) (d : Int)).1 = ofQ ((n : Int) / (d : Int) : Rat) by rw [ofC, if_neg (by omega)]]
  have p1 : (4294967296 : Nat) ≤ pw 96 := by
    have := pw_le (show 1 ≤ 96 by decide)
    exact Nat.le_trans (by decide) this
  refine chkV_ofQ ⟨?_, ?_⟩
  · rw [h3.1]
    exact Nat.lt_of_le_of_lt (Nat.div_le_self _ _) (Nat.lt_of_lt_of_le h1 p1)
  · rw [h3.2]
    exact Nat.lt_of_le_of_lt (Nat.div_le_self _ _) (Nat.lt_of_lt_of_le h2 p1)

theorem part_lim {n d : Nat} {A B : Nat} (hd : d ≠ 0) (h1 : n < 4294967296) (h2 : d < 4294967296) (hA : n / n.gcd d = A) (hB : d / n.gcd d = B) (ha : 0 < A) (hl : A ≤ B) : limC (ofC (n : Int) (d : Int)).1 = 0 := by
  have hc := part_chk hd h1 h2
  have p1 : (4294967296 : Nat) ≤ pw 2 := by decide
  have p2 : (4294967296 : Nat) ≤ pw 96 := Nat.le_trans p1 (pw_le (by decide))
  have a1 : A < 4294967296 := by rw [← hA]; exact Nat.lt_of_le_of_lt (Nat.div_le_self _ _) h1
  have b1 : B < 4294967296 := by rw [← hB]; exact Nat.lt_of_le_of_lt (Nat.div_le_self _ _) h2
  rw [ofC_low hd, hA, hB] at *
  refine limC_ok hc ⟨rfl, ?_, limbs_len_le (Nat.lt_of_lt_of_le a1 p1), limbs_len_le (Nat.lt_of_lt_of_le b1 p1), ?_⟩
  · intro h
    have := limbs_len_zero.1 h
    omega
  · show leC (limbs A) (limbs B) = true
    rw [leC_ok (Nat.lt_of_lt_of_le a1 p2) (Nat.lt_of_lt_of_le b1 p2)]
    exact decide_eq_true hl

/-- A valid number that is not negative and not long. -/
structure Frac (x : QV) (N D : Nat) : Prop where
  eq : x = ⟨false, limbs N, limbs D⟩
  chk : chkV x = 0
  num : N < pw 8
  den : D < pw 8

theorem Frac.q {x : QV} {N D : Nat} (h : Frac x N D) : ∃ p : Rat, x = ofQ p ∧ fitQ p ∧ p.num = (N : Int) ∧ p.den = D := by
  have p8 : pw 8 ≤ pw 96 := pw_le (by decide)
  obtain ⟨p, e, f⟩ := chkV_get (x := x) (by rw [h.eq]; exact limbs_small _) (by rw [h.eq]; exact limbs_small _) h.chk
  have e2 : ofQ p = ⟨false, limbs N, limbs D⟩ := by rw [← e, h.eq]
  have g := ofQ_get e2
  refine ⟨p, e, f, ?_, g.2⟩
  have s : decide (p.num < 0) = false := congrArg QV.neg e2
  have s' := of_decide_eq_false s
  omega

theorem cmp_frac {x y : QV} {N D N' D' : Nat} (hx : Frac x N D) (hy : Frac y N' D') : ∃ c : Int, cmpV x y = (c, 0) ∧ (c ≤ 0 ↔ N * D' ≤ N' * D) ∧ (0 ≤ c ↔ N' * D ≤ N * D') := by
  obtain ⟨p, e1, f1, n1, d1⟩ := hx.q
  obtain ⟨q, e2, f2, n2, d2⟩ := hy.q
  have hl : N * D' < pw 96 := Nat.lt_of_lt_of_le (mul_lt_pw hx.num hy.den) (pw_le (by decide))
  have hr : N' * D < pw 96 := Nat.lt_of_lt_of_le (mul_lt_pw hy.num hx.den) (pw_le (by decide))
  refine ⟨cmpR p q, ?_, ?_, ?_⟩
  · rw [cmpV, if_pos ⟨hx.chk, hy.chk⟩, e1, e2, toQ_ofQ, toQ_ofQ, cmpQ, if_neg]
    rintro ⟨_, _, h⟩
    refine h ⟨?_, ?_⟩
    · rw [n1, d2, Int.natAbs_natCast]; exact hl
    · rw [n2, d1, Int.natAbs_natCast]; exact hr
  · rw [cmpR_num, n1, n2, d1, d2]
    simp only [← Int.natCast_mul]
    split
    · constructor
      · intro _; omega
      · intro _; decide
    · split
      · constructor
        · intro h; exact absurd h (by decide)
        · intro h; omega
      · constructor
        · intro _; omega
        · intro _; decide
  · rw [cmpR_num, n1, n2, d1, d2]
    simp only [← Int.natCast_mul]
    split
    · constructor
      · intro h; exact absurd h (by decide)
      · intro h; omega
    · split
      · constructor
        · intro _; omega
        · intro _; decide
      · constructor
        · intro _; omega
        · intro _; decide

theorem limC_chk {x : QV} (h : limC x = 0) : chkV x = 0 := by
  unfold limC at h
  split at h
  · assumption
  · simp at h

theorem Lim.frac {x : QV} {n d : Nat} (h : Lim x n d) (hl : limC x = 0) : Frac x n d := by
  have p2 : pw 2 ≤ pw 8 := pw_le (by decide)
  have e : pw 2 = 18446744073709551616 := by decide
  refine ⟨?_, limC_chk hl, by have := h.le; have := h.lt; omega, by have := h.lt; omega⟩
  obtain ⟨g, n', d'⟩ := x
  have h1 : g = false := h.neg
  have h2 : n' = limbs n := h.num
  have h3 : d' = limbs d := h.den
  rw [h1, h2, h3]

/-- The risk of a valid state as a fraction. -/
theorem risk_frac {p : CV} {L B : Nat} (v : VldC p L B) : Frac (lowV false oneN B) (oneN / oneN.gcd B) (B / oneN.gcd B) := by
  have one0 : 0 < oneN := by decide
  have hz : B ≠ 0 := fun h => by rw [h] at v; exact Nat.not_lt_of_le v.lo one0
  have o8 : oneN < pw 8 := by decide
  have b8 : B < pw 8 := Nat.lt_of_le_of_lt v.hi (by decide)
  have hf : fitQ (mkRat (sg false oneN) B) := by
    have e := lowV_eq false oneN B hz
    have e2 : ofQ (mkRat (sg false oneN) B) = ⟨false, limbs (oneN / oneN.gcd B), limbs (B / oneN.gcd B)⟩ := by rw [← e]; rfl
    have g := ofQ_get e2
    refine ⟨?_, ?_⟩
    · rw [g.1]; exact Nat.lt_of_le_of_lt (Nat.div_le_self _ _) (Nat.lt_of_lt_of_le o8 (pw_le (by decide)))
    · rw [g.2]; exact Nat.lt_of_le_of_lt (Nat.div_le_self _ _) (Nat.lt_of_lt_of_le b8 (pw_le (by decide)))
  refine ⟨rfl, ?_, Nat.lt_of_le_of_lt (Nat.div_le_self _ _) o8, Nat.lt_of_le_of_lt (Nat.div_le_self _ _) b8⟩
  rw [lowV_eq false oneN B hz]
  exact chkV_ofQ hf

theorem risk_le {B n d : Nat} (hB : B ≠ 0) : oneN / oneN.gcd B * d ≤ n * (B / oneN.gcd B) ↔ oneN * d ≤ B * n := by
  have hg : 0 < oneN.gcd B := Nat.gcd_pos_of_pos_right _ (by omega)
  have e1 := Nat.div_mul_cancel (Nat.gcd_dvd_left oneN B)
  have e2 := Nat.div_mul_cancel (Nat.gcd_dvd_right oneN B)
  generalize oneN / oneN.gcd B = a at *
  generalize hb : B / oneN.gcd B = b at *
  generalize oneN.gcd B = g at *
  constructor
  · intro h
    have := Nat.mul_le_mul_right g h
    rw [← e1, ← e2]
    calc a * g * d = a * d * g := by rw [Nat.mul_right_comm]
      _ ≤ n * b * g := this
      _ = b * g * n := by rw [Nat.mul_assoc, Nat.mul_comm]
  · intro h
    refine Nat.le_of_mul_le_mul_right ?_ hg
    calc a * d * g = a * g * d := by rw [Nat.mul_right_comm]
      _ = oneN * d := by rw [e1]
      _ ≤ B * n := h
      _ = b * g * n := by rw [e2]
      _ = n * b * g := by rw [Nat.mul_comm, Nat.mul_assoc]

/-- A larger limit confirms whenever a smaller one does. -/
theorem sure_up {B n d n' d' : Nat} (hd : 0 < d) (h : n * d' ≤ n' * d) (hs : sureN B n d = true) : sureN B n' d' = true := by
  have h1 : oneN * d ≤ B * n := of_decide_eq_true hs
  refine decide_eq_true (Nat.le_of_mul_le_mul_right ?_ hd)
  calc oneN * d' * d = oneN * d * d' := by rw [Nat.mul_right_comm]
    _ ≤ B * n * d' := Nat.mul_le_mul_right _ h1
    _ = B * (n * d') := Nat.mul_assoc _ _ _
    _ ≤ B * (n' * d) := Nat.mul_le_mul_left _ h
    _ = B * n' * d := (Nat.mul_assoc _ _ _).symm

theorem sure_more {B B' n d : Nat} (h : B ≤ B') (hs : sureN B n d = true) : sureN B' n d = true := by
  have h1 : oneN * d ≤ B * n := of_decide_eq_true hs
  exact decide_eq_true (Nat.le_trans h1 (Nat.mul_le_mul_right _ h))

theorem Lim.sure {x : QV} {n d : Nat} (h : Lim x n d) {B : Nat} (hB : B ≤ mostN) : sureC (limbs B) x.num x.den = sureN B n d := by
  rw [h.num, h.den]
  exact sureC_ok hB (Nat.lt_of_le_of_lt h.le h.lt) h.lt

theorem ex_sameq (x : QV) : sameV x x = true := by unfold sameV; simp [sameN]

/-! ### the examples -/

theorem ex_may : mayC 500 10 4 := by unfold mayC; decide
theorem ex_new : newCC 500 10 4 = (cN 500 10 4 0, 0) := newCC_yes ex_may
theorem ex_new0 : newCC 500 10 0 = (zeroCV, 2) := newCC_no (by unfold mayC; decide)
theorem ex_new11 : newCC 500 10 11 = (zeroCV, 2) := newCC_no (by unfold mayC; decide)
theorem ex_obs (x : Int) (h1 : -2 ≤ x) (h2 : x ≤ 2) : obsCC (cN 500 10 4 0) [x] = (stepC (cN 500 10 4 0) x, 0) := by
  refine obsCC_some (cN_vld ex_may (by decide)).chk ?_
  show (obs1C (cN 500 10 4 0) x).bind some = _
  rw [obs1C_in (by
    intro hh
    rcases hh with hh | hh | hh
    · omega
    · omega
    · have z : ∀ y : Int, seenAtC (cN 500 10 4 0) y = 0 := fun y => by
        unfold seenAtC cN
        repeat' split
        all_goals rfl
      rw [z] at hh
      omega)]
  rfl
theorem ex_obs3 : obsCC (cN 500 10 4 0) [3] = (zeroCV, 2) := by
  refine obsCC_none (cN_vld ex_may (by decide)).chk ?_
  show (obs1C (cN 500 10 4 0) 3).bind _ = none
  rw [obs1C_out (.inr (.inl (by decide)))]
  rfl
theorem ex_over1 : overC 2 0 = (2, 0) := by decide
theorem ex_over2 : overC 0 2 = (-2, 0) := by decide
theorem ex_over3 : overC 3 0 = (0, 2) := by decide

theorem ex_vld (x : Int) (h1 : -2 ≤ x) (h2 : x ≤ 2) : ∃ L B, VldC (stepC (cN 500 10 4 0) x) L B := by
  refine ⟨_, _, stepC_vld (cN_vld ex_may (by decide)) h1 h2 ?_⟩
  have z : ∀ y : Int, seenAtC (cN 500 10 4 0) y = 0 := fun y => by
    unfold seenAtC cN
    repeat' split
    all_goals rfl
  rw [z]
  decide

theorem ex_lev (x : Int) {A B : Nat} (hB : 0 < B) (h : factC (c0 500 10 4) x * B = A * 20000) : (stepC (cN 500 10 4 0) x).lev = limbs (timesN oneN A B) := by
  show limbs (nextC (cN 500 10 4 0) (val (limbs (levC (c0 500 10 4) 0))) x) = _
  rw [val_limbs, nextC_same (c := cN 500 10 4 0) (d := c0 500 10 4) ⟨rfl, rfl, rfl⟩]
  show limbs (timesN oneN (factC (c0 500 10 4) x) (wholeC (c0 500 10 4))) = _
  rw [show wholeC (c0 500 10 4) = 20000 from rfl]
  congr 1
  unfold timesN
  congr 1
  have e1 : oneN * factC (c0 500 10 4) x / 20000 = oneN * factC (c0 500 10 4) x * B / (20000 * B) := (Nat.mul_div_mul_right _ _ hB).symm
  have e2 : oneN * A / B = oneN * A * 20000 / (B * 20000) := (Nat.mul_div_mul_right _ _ (by decide)).symm
  rw [e1, e2, Nat.mul_assoc, Nat.mul_assoc, h, Nat.mul_comm B 20000]
theorem ex_levA : (stepC (cN 500 10 4 0) 0).lev = limbs (timesN oneN 11 10) := ex_lev 0 (by decide) (by decide)
theorem ex_levB : (stepC (cN 500 10 4 0) 2).lev = limbs (timesN oneN 3 5) := ex_lev 2 (by decide) (by decide)
theorem ex_levD : (stepC (cN 500 10 4 0) (-2)).lev = limbs (timesN oneN 8 5) := ex_lev (-2) (by decide) (by decide)
theorem ex_levC : (cN 500 10 4 0).lev = limbs oneN := rfl
theorem ex_bestB : (stepC (cN 500 10 4 0) 2).best = limbs oneN := by
  show limbs (max (val (limbs (levC (c0 500 10 4) 0))) (nextC (cN 500 10 4 0) (val (limbs (levC (c0 500 10 4) 0))) 2)) = _
  rw [val_limbs, nextC_same (c := cN 500 10 4 0) (d := c0 500 10 4) ⟨rfl, rfl, rfl⟩]
  show limbs (max oneN (timesN oneN (factC (c0 500 10 4) 2) (wholeC (c0 500 10 4)))) = _
  rw [show wholeC (c0 500 10 4) = 20000 from rfl, show factC (c0 500 10 4) 2 = 12000 by decide]
  exact congrArg limbs (by decide)

theorem lev_c0 : levC (c0 500 10 4) 0 = oneN := rfl
theorem fact_c0 : factC (c0 500 10 4) 0 = 22000 := by decide
theorem lev_c1 : levC (c0 500 10 4) 1 = oneN * 22000 / 20000 := by
  show nextC (c0 500 10 4) (levC (c0 500 10 4) 0) 0 = _
  unfold nextC
  rw [fact_c0, show wholeC (c0 500 10 4) = 20000 from rfl, lev_c0]
  decide
theorem lev_c2 : levC (c0 500 10 4) 2 = oneN * 22000 / 20000 * 22000 / 20000 := by
  show nextC (c0 500 10 4) (levC (c0 500 10 4) 1) 0 = _
  unfold nextC
  rw [fact_c0, show wholeC (c0 500 10 4) = 20000 from rfl, lev_c1]
  decide

theorem ex_v910 : (ofC 9 10).1 = ⟨false, limbs 9, limbs 10⟩ := ofC_low (n := 9) (d := 10) (by decide)
theorem ex_v11 : (ofC 1 1).1 = ⟨false, limbs 1, limbs 1⟩ := ofC_low (n := 1) (d := 1) (by decide)
theorem ex_lim910 : limC (ofC 9 10).1 = 0 := part_lim (n := 9) (d := 10) (A := 9) (B := 10) (by decide) (by decide) (by decide) (by decide) (by decide) (by decide) (by decide)
theorem ex_size : sizeCC 500 10 4 (ofC 9 10).1 = (2, 0) := by
  rw [sizeCC_ok ex_may ex_lim910, ex_v910]
  show seekC (c0 500 10 4) (val (limbs 9)) (val (limbs 10)) 4097 0 = _
  rw [val_limbs, val_limbs, seekC_no (f := 4096) (by rw [lev_c0]; decide), seekC_no (f := 4095) (by rw [lev_c1]; decide), seekC_yes (f := 4094) (by rw [lev_c2]; decide)]
  rfl

theorem ex_bestA : (stepC (cN 500 10 4 0) 0).best = limbs (levC (c0 500 10 4) 1) := by rw [cN_step ex_may]; rfl
theorem ex_risk : ∃ s : Int, s < 0 ∧ riskCC (stepC (cN 500 10 4 0) 0) = (lowV false oneN (levC (c0 500 10 4) 1), 0) ∧ cmpV (lowV false oneN (levC (c0 500 10 4) 1)) (ofC 1 1).1 = (s, 0) := by
  have v : VldC (cN 500 10 4 1) _ _ := cN_vld ex_may (by decide)
  have f1 : Frac (ofC 1 1).1 1 1 := ⟨ex_v11, part_chk (n := 1) (d := 1) (by decide) (by decide) (by decide), by decide, by decide⟩
  obtain ⟨s, e, -, h⟩ := cmp_frac (risk_frac v) f1
  refine ⟨s, ?_, ?_, e⟩
  · refine Int.not_le.1 (fun hs => absurd (h.1 hs) ?_)
    rw [lev_c1]
    decide
  · rw [cN_step ex_may]
    exact riskCC_ok v
theorem ex_chkz : chkC zeroCV = 8 := by decide
theorem ex_same : sameCV (cN 500 10 4 0) (cN 500 10 4 0) = true := sameCV_self _
theorem ex_diff : sameCV (stepC (cN 500 10 4 0) 0) (stepC (cN 500 10 4 0) 2) = false := by
  unfold sameCV
  rw [decide_eq_false (p := (stepC (cN 500 10 4 0) 0).s0 = (stepC (cN 500 10 4 0) 2).s0 ∧ _) (fun h => absurd h.2.2.1 (by decide))]
  simp

end Go.Proofs.Ytmkcdlhhbnakiaa
/- Observing one overstatement. -/
namespace Go.Proofs.Ytmkcdlhhbnakiaa
open Go.RowKit Go.Suf
set_option linter.unusedVariables false
set_option linter.unusedSimpArgs false

theorem wrap_in {z : Int} (h1 : -9223372036854775808 ≤ z) (h2 : z ≤ 9223372036854775807) : IntKind.i64.wrap z = z := by
  rw [IntKind.wrap_i64]
  omega

theorem see_fact {c : CV} (h : mayC c.bet c.ballots c.margin) {x Y : Int} (x1 : -2 ≤ x) (x2 : x ≤ 2) (hY : Y = x * c.ballots) :
    IntKind.u64.wrap (IntKind.i64.wrap (2000 * c.ballots + IntKind.i64.wrap (c.bet * IntKind.i64.wrap (c.margin - IntKind.i64.wrap Y)))) = (factC c x : Int) := by
  have fr := fact_range h x1 x2
  obtain ⟨⟨b1, b2⟩, ⟨n1, n2⟩, m1, m2⟩ := h
  rw [hY, wrap_in (z := x * c.ballots) (by omega) (by omega), wrap_in (z := c.margin - x * c.ballots) (by omega) (by omega), wrap_in (z := c.bet * (c.margin - x * c.ballots)) (by omega) (by omega)]
  unfold factZ at fr
  rw [wrap_in (by omega) (by omega)]
  unfold factC factZ
  simp only [IntKind.wrap, IntKind.bits, IntKind.signed]
  simp
  omega

theorem nextC_lt {q : CV} {L : Nat} {x : Int} : nextC q L x < pw 96 := Nat.lt_of_le_of_lt (Nat.min_le_right _ _) most_pw

theorem see_whole {c : CV} (h : mayC c.bet c.ballots c.margin) : IntKind.u64.wrap (2000 * c.ballots) = (wholeC c : Int) := by
  have := h.2.1
  unfold wholeC
  simp only [IntKind.wrap, IntKind.bits, IntKind.signed]
  simp
  omega

theorem fact_bd {c : CV} (h : mayC c.bet c.ballots c.margin) {x : Int} (x1 : -2 ≤ x) (x2 : x ≤ 2) : factC c x < 18446744073709551616 ∧ wholeC c < 18446744073709551616 := by
  have fr := fact_range h x1 x2
  have := h.2.1
  unfold factC wholeC
  omega

/-- What see leaves: the audit lies in block k, laid since wb. -/
def RetSee (wb : World) (k : Nat) (q : CV) (x : Int) : Ending → World → Prop := fun e w' =>
  (obs1C q x = none ∧ e = .returned (.bool false) ∧ Below wb.heap.size wb w') ∨
  ∃ a n c b m d, obs1C q x = some (stepC q x) ∧ e = .returned (.bool true) ∧ PRow 66 wb w' k (cmC (stepC q x) a n c b m d) ∧ Rd .u32 w' a n c (stepC q x).lev ∧ Rd .u32 w' b m d (stepC q x).best

end Go.Proofs.Ytmkcdlhhbnakiaa
