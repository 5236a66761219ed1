/- The numbers of the chapter's examples. No program in sight. -/
import Derived.Test.YtkomdiblopdfiaaPolO
namespace Go.Proofs.Ytkomdiblopdfiaa
open Go.RowKit Go.Suf
set_option linter.unusedVariables false
set_option linter.unusedSimpArgs false

theorem lev0 : levN 500 0 = 18446744073709551616 := rfl
theorem lev1 : levN 500 1 = 27670116110564327424 := by decide
theorem lev2 : levN 500 2 = 41505174165846491136 := by decide

theorem ex_new : newC 500 = (qN 500 0, 0) := new_qN (by decide)
theorem ex_new0 : newC 0 = (zeroP, 2) := new_not (by decide)
theorem ex_new1000 : newC 1000 = (zeroP, 2) := new_not (by decide)
theorem ex_b : (1 : Int) ≤ 500 ∧ (500 : Int) ≤ 999 := by decide
theorem ex_obs2 : obsC (qN 500 0) [2] = (qN 500 1, 0) := qN_obs ex_b (by decide)

/-- The state after 2 and 0. -/
def pB : PV := ⟨500, 1, 0, 1, [0, 3221225472], [0, 2147483648, 1]⟩

theorem limbs_lev1 : limbs 27670116110564327424 = [0, 2147483648, 1] := limbs_val (xs := [0, 2147483648, 1]) (by intro x hx; simp at hx; omega) (by unfold canon; decide)
theorem limbs_levB : limbs 13835058055282163712 = [0, 3221225472] := limbs_val (xs := [0, 3221225472]) (by intro x hx; simp at hx; omega) (by unfold canon; decide)

theorem ex_step : step (qN 500 1) 0 = pB := by
  show (⟨500, 0 + 1, 0, 1, limbs (timesN (val (limbs (levN 500 1))) (factN 500 0) 1000), limbs (max (val (limbs (levN 500 1))) (timesN (val (limbs (levN 500 1))) (factN 500 0) 1000))⟩ : PV) = pB
  rw [val_limbs, lev1, show timesN 27670116110564327424 (factN 500 0) 1000 = 13835058055282163712 by decide, show max 27670116110564327424 13835058055282163712 = 27670116110564327424 by decide, limbs_lev1, limbs_levB]
  rfl

theorem ex_obs0 : obsC (qN 500 1) [0] = (pB, 0) := by
  refine obsC_some (qN_vld ex_b (by decide)).chk ?_
  show (obs1 (qN 500 1) 0).bind some = _
  rw [obs1_in (by
    intro hh
    rcases hh with hh | hh | hh
    · exact absurd hh (by decide)
    · exact absurd hh (by decide)
    · have : (1000000 : Int) ≤ 0 := hh
      omega), ex_step]
  rfl

theorem ex_obs3 : obsC (qN 500 0) [3] = (zeroP, 2) := by
  refine obsC_none (qN_vld ex_b (by decide)).chk ?_
  show (obs1 (qN 500 0) 3).bind _ = none
  rw [obs1_out (.inr (.inl (by decide)))]
  rfl

theorem pB_pw : PW pB := ⟨by show wide64 500; unfold wide64; omega, by show wide64 1; unfold wide64; omega, by show wide64 0; unfold wide64; omega, by show wide64 1; unfold wide64; omega⟩
theorem zeroP_pw : PW zeroP := ⟨by show wide64 0; unfold wide64; omega, by show wide64 0; unfold wide64; omega, by show wide64 0; unfold wide64; omega, by show wide64 0; unfold wide64; omega⟩

/-! ### parts -/

theorem ofC_low {n d : Nat} (hd : d ≠ 0) : (ofC (n : Int) (d : Int)).1 = ⟨false, limbs (n / n.gcd d), limbs (d / n.gcd d)⟩ := by
  rw [ofC, if_neg (by omega)]
  show ofQ _ = _
  rw [← of_low (by omega), decide_eq_false (by omega), decide_eq_false (by omega), Int.natAbs_natCast, Int.natAbs_natCast]
  rfl

theorem ofQ_get {q : Rat} {g : Bool} {A B : Nat} (h : ofQ q = ⟨g, limbs A, limbs B⟩) : q.num.natAbs = A ∧ q.den = B := by
  unfold ofQ at h
  injection h with h1 h2 h3
  have h2 := congrArg val h2
  have h3 := congrArg val h3
  rw [val_limbs, val_limbs] at h2 h3
  exact ⟨h2, h3⟩

theorem part_chk {n d : Nat} (hd : d ≠ 0) (h1 : n < 4294967296) (h2 : d < 4294967296) : chkV (ofC (n : Int) (d : Int)).1 = 0 := by
  have h := ofC_low (n := n) hd
  have h' := h
  rw [ofC, if_neg (by omega)] at h'
  have h3 := ofQ_get h'
  rw [show (ofC (n : Int) (d : Int)).1 = ofQ ((n : Int) / (d : Int) : Rat) by rw [ofC, if_neg (by omega)]]
  have p1 : (4294967296 : Nat) ≤ pw 96 := by
    have := pw_le (show 1 ≤ 96 by decide)
    exact Nat.le_trans (by decide) this
  refine chkV_ofQ ⟨?_, ?_⟩
  · rw [h3.1]
    exact Nat.lt_of_le_of_lt (Nat.div_le_self _ _) (Nat.lt_of_lt_of_le h1 p1)
  · rw [h3.2]
    exact Nat.lt_of_le_of_lt (Nat.div_le_self _ _) (Nat.lt_of_lt_of_le h2 p1)

theorem part_lim {n d : Nat} {A B : Nat} (hd : d ≠ 0) (h1 : n < 4294967296) (h2 : d < 4294967296) (hA : n / n.gcd d = A) (hB : d / n.gcd d = B) (ha : 0 < A) (hl : A ≤ B) : limC (ofC (n : Int) (d : Int)).1 = 0 := by
  have hc := part_chk hd h1 h2
  have p1 : (4294967296 : Nat) ≤ pw 2 := by decide
  have p2 : (4294967296 : Nat) ≤ pw 96 := Nat.le_trans p1 (pw_le (by decide))
  have a1 : A < 4294967296 := by rw [← hA]; exact Nat.lt_of_le_of_lt (Nat.div_le_self _ _) h1
  have b1 : B < 4294967296 := by rw [← hB]; exact Nat.lt_of_le_of_lt (Nat.div_le_self _ _) h2
  rw [ofC_low hd, hA, hB] at *
  refine limC_ok hc ⟨rfl, ?_, limbs_len_le (Nat.lt_of_lt_of_le a1 p1), limbs_len_le (Nat.lt_of_lt_of_le b1 p1), ?_⟩
  · intro h
    have := limbs_len_zero.1 h
    omega
  · show leC (limbs A) (limbs B) = true
    rw [leC_ok (Nat.lt_of_lt_of_le a1 p2) (Nat.lt_of_lt_of_le b1 p2)]
    exact decide_eq_true hl

theorem part_not {n d : Nat} {A B : Nat} (hd : d ≠ 0) (h1 : n < 4294967296) (h2 : d < 4294967296) (hA : n / n.gcd d = A) (hB : d / n.gcd d = B) (ha : ¬ (0 < A ∧ A ≤ B)) : limC (ofC (n : Int) (d : Int)).1 = 2 := by
  have hc := part_chk hd h1 h2
  have p1 : (4294967296 : Nat) ≤ pw 2 := by decide
  have p2 : (4294967296 : Nat) ≤ pw 96 := Nat.le_trans p1 (pw_le (by decide))
  have a1 : A < 4294967296 := by rw [← hA]; exact Nat.lt_of_le_of_lt (Nat.div_le_self _ _) h1
  have b1 : B < 4294967296 := by rw [← hB]; exact Nat.lt_of_le_of_lt (Nat.div_le_self _ _) h2
  rw [ofC_low hd, hA, hB] at *
  refine limC_arg hc (fun h => ha ⟨?_, ?_⟩)
  · have : (limbs A).length ≠ 0 := h.2.1
    rcases Nat.eq_zero_or_pos A with e | e
    · exact absurd (limbs_len_zero.2 e) this
    · exact e
  · have : leC (limbs A) (limbs B) = true := h.2.2.2.2
    rw [leC_ok (Nat.lt_of_lt_of_le a1 p2) (Nat.lt_of_lt_of_le b1 p2)] at this
    exact of_decide_eq_true this

theorem ex_lim12 : limC (ofC 1 2).1 = 0 := part_lim (n := 1) (d := 2) (A := 1) (B := 2) (by decide) (by decide) (by decide) (by decide) (by decide) (by decide) (by decide)
theorem ex_lim11 : limC (ofC 1 1).1 = 0 := part_lim (n := 1) (d := 1) (A := 1) (B := 1) (by decide) (by decide) (by decide) (by decide) (by decide) (by decide) (by decide)
theorem ex_lim11000 : limC (ofC 1 1000).1 = 0 := part_lim (n := 1) (d := 1000) (A := 1) (B := 1000) (by decide) (by decide) (by decide) (by decide) (by decide) (by decide) (by decide)
theorem ex_lim01 : limC (ofC 0 1).1 = 2 := part_not (n := 0) (d := 1) (A := 0) (B := 1) (by decide) (by decide) (by decide) (by decide) (by decide) (by decide)
theorem ex_lim32 : limC (ofC 3 2).1 = 2 := part_not (n := 3) (d := 2) (A := 3) (B := 2) (by decide) (by decide) (by decide) (by decide) (by decide) (by decide)
theorem ex_v12 : (ofC 1 2).1 = ⟨false, limbs 1, limbs 2⟩ := ofC_low (n := 1) (d := 2) (by decide)
theorem ex_v11 : (ofC 1 1).1 = ⟨false, limbs 1, limbs 1⟩ := ofC_low (n := 1) (d := 1) (by decide)
theorem ex_v11000 : (ofC 1 1000).1 = ⟨false, limbs 1, limbs 1000⟩ := ofC_low (n := 1) (d := 1000) (by decide)
theorem ex_v23 : (ofC 2 3).1 = ⟨false, limbs 2, limbs 3⟩ := ofC_low (n := 2) (d := 3) (by decide)

theorem ex_limz : limC zeroV = 8 := limC_bad (by unfold chkV; rw [if_neg (fun h => h.2.1 rfl)]; decide)

/-! ### sizes -/

theorem size_of {bet : Int} {x : QV} {A B : Nat} (hx : x = ⟨false, limbs A, limbs B⟩) (hb : betOk bet = true) (hl : limC x = 0) : sizeC bet x = seekN bet A B 4097 0 := by
  rw [sizeC_ok hb hl, hx]
  show seekN bet (val (limbs A)) (val (limbs B)) 4097 0 = _
  rw [val_limbs, val_limbs]

theorem ex_size12 : sizeC 500 (ofC 1 2).1 = (2, 0) := by
  rw [size_of ex_v12 (by decide) ex_lim12, seek_no (f := 4096) (by decide), seek_no (f := 4095) (by rw [lev1]; decide), seek_yes (f := 4094) (by rw [lev2]; decide)]
  rfl

theorem ex_size11 : sizeC 500 (ofC 1 1).1 = (0, 0) := by
  rw [size_of ex_v11 (by decide) ex_lim11, seek_yes (f := 4096) (by decide)]
  rfl

theorem lev_bound (n : Nat) : levN 1 n * 1000 ^ n ≤ oneN * 1001 ^ n := by
  induction n with
  | zero => exact Nat.le_refl _
  | succ n ih =>
    have h1 : levN 1 (n + 1) * 1000 ≤ levN 1 n * 1001 := by
      show min (levN 1 n * 1001 / 1000) mostN * 1000 ≤ _
      refine Nat.le_trans (Nat.mul_le_mul_right _ (Nat.min_le_left _ _)) (Nat.div_mul_le_self _ _)
    calc levN 1 (n + 1) * 1000 ^ (n + 1) = (levN 1 (n + 1) * 1000) * 1000 ^ n := by rw [Nat.pow_succ, Nat.mul_comm (1000 ^ n) 1000, Nat.mul_assoc]
      _ ≤ (levN 1 n * 1001) * 1000 ^ n := Nat.mul_le_mul_right _ h1
      _ = (levN 1 n * 1000 ^ n) * 1001 := by rw [Nat.mul_assoc, Nat.mul_comm 1001, ← Nat.mul_assoc]
      _ ≤ (oneN * 1001 ^ n) * 1001 := Nat.mul_le_mul_right _ ih
      _ = oneN * 1001 ^ (n + 1) := by rw [Nat.pow_succ, Nat.mul_assoc]

theorem lev_mono {n m : Nat} (h : n ≤ m) : levN 1 n ≤ levN 1 m := by
  induction m with
  | zero => obtain rfl : n = 0 := by omega
            exact Nat.le_refl _
  | succ m ih =>
    by_cases hm : n ≤ m
    · exact Nat.le_trans (ih hm) (levN_up (by decide) m)
    · obtain rfl : n = m + 1 := by omega
      exact Nat.le_refl _

theorem pow_far : Nat.blt (1001 ^ 4096) (1000 * 1000 ^ 4096) = true := by kernel_rfl

theorem lev_not {k : Nat} (h : k ≤ 4096) : ¬ sureN (levN 1 k) 1 1000 = true := by
  intro hs
  have h1 : oneN * 1000 ≤ levN 1 k * 1 := of_decide_eq_true hs
  have h2 := lev_mono h
  have h3 := lev_bound 4096
  have h4 : 1001 ^ 4096 < 1000 * 1000 ^ 4096 := of_eq_true (by rw [← Nat.blt_eq]; exact eq_true pow_far)
  generalize levN 1 4096 = L at *
  generalize 1001 ^ 4096 = P at *
  generalize 1000 ^ 4096 = Q at *
  have h5 : oneN * 1000 ≤ L := by omega
  have h6 : oneN * 1000 * Q ≤ L * Q := Nat.mul_le_mul_right _ h5
  have h7 : oneN * P < oneN * (1000 * Q) := Nat.mul_lt_mul_of_pos_left h4 (by decide)
  rw [Nat.mul_assoc] at h6
  omega

theorem seek_none {bet : Int} {N D : Nat} : ∀ (f k : Nat), (∀ j, k ≤ j → j < k + f → ¬ sureN (levN bet j) N D = true) → seekN bet N D f k = (0, 6)
  | 0, _, _ => rfl
  | f + 1, k, h => by
    rw [seek_no (h k (Nat.le_refl _) (by omega))]
    exact seek_none f (k + 1) (fun j h1 h2 => h j (by omega) (by omega))

theorem ex_size1 : sizeC 1 (ofC 1 1000).1 = (0, 6) := by
  rw [size_of ex_v11000 (by decide) ex_lim11000]
  exact seek_none 4097 0 (fun j _ hj => lev_not (by omega))

/-! ### confirmed, risk, sameness -/

theorem ex_conf11 : confC (qN 500 0) (ofC 1 1).1 = (true, 0) := by
  rw [confC_ok (qN_vld ex_b (by decide)).chk ex_lim11, ex_v11]
  show (sureC (limbs (levN 500 0)) (limbs 1) (limbs 1), (0 : Int)) = _
  rw [sureC_ok (levN_le _ _) (by decide) (by decide)]
  decide

theorem ex_conf12 : confC (qN 500 0) (ofC 1 2).1 = (false, 0) := by
  rw [confC_ok (qN_vld ex_b (by decide)).chk ex_lim12, ex_v12]
  show (sureC (limbs (levN 500 0)) (limbs 1) (limbs 2), (0 : Int)) = _
  rw [sureC_ok (levN_le _ _) (by decide) (by decide)]
  decide

theorem ex_risk : riskC (qN 500 1) = ((ofC 2 3).1, 0) := by
  rw [riskC_ok (qN_vld ex_b (by decide)), lev1, ex_v23]
  rfl

theorem ex_sameq (x : QV) : sameV x x = true := by unfold sameV; simp [sameN]
theorem ex_chkz : chkP zeroP = 8 := by decide
theorem ex_same : samePV (qN 500 0) (qN 500 0) = true := samePV_self _
theorem ex_diff : samePV (qN 500 1) pB = false := by
  unfold samePV
  rw [decide_eq_false (p := (qN 500 1).s0 = pB.s0 ∧ _) (fun h => absurd h.1 (by decide))]
  simp
theorem ex_lev0 : sameN (qN 500 0).lev [0, 0, 1] = true := by rw [← one_limbs]; exact sameN_true rfl
theorem ex_lev1 : sameN (qN 500 1).lev [0, 2147483648, 1] = true := by
  show sameN (limbs (levN 500 1)) _ = true
  rw [lev1, limbs_lev1]
  exact sameN_true rfl
theorem ex_levB : sameN pB.lev [0, 3221225472] = true := sameN_true rfl
theorem ex_best : sameN pB.best (qN 500 1).lev = true := by
  show sameN _ (limbs (levN 500 1)) = true
  rw [lev1, limbs_lev1]
  exact sameN_true rfl

end Go.Proofs.Ytkomdiblopdfiaa
