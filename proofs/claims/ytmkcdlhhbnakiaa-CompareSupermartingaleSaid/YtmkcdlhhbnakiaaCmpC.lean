/- The next level in the answer. -/
import Derived.Test.YtmkcdlhhbnakiaaCmpPlain
import Derived.Test.YtmkcdlhhbnakiaaPolPlain
import Derived.Test.YtmkcdlhhbnakiaaPolF
import Derived.Deep.RegionHeld3
import Derived.Laws.EntriesVeiled
namespace Go.Proofs.Ytmkcdlhhbnakiaa
open Go.RowKit Go.Suf
set_option linter.unusedVariables false
set_option linter.unusedSimpArgs false

theorem fact_code (c : CV) (x : Int) : 2000 * c.ballots + c.bet * c.margin - c.bet * x * c.ballots = factZ c x := by
  unfold factZ
  rw [Int.mul_sub, Int.mul_assoc]
  omega

theorem prod_range {b y B Y : Int} (hb : 0 ≤ b) (hB : b ≤ B) (h1 : -Y ≤ y) (h2 : y ≤ Y) : -(B * Y) ≤ b * y ∧ b * y ≤ B * Y := by
  have hY : 0 ≤ Y := by omega
  have k1 : b * y ≤ b * Y := Int.mul_le_mul_of_nonneg_left h2 hb
  have k2 : b * Y ≤ B * Y := Int.mul_le_mul_of_nonneg_right hB hY
  have k3 : b * (-Y) ≤ b * y := Int.mul_le_mul_of_nonneg_left h1 hb
  rw [Int.mul_neg] at k3
  omega

set_option maxRecDepth 100000 in
set_option maxHeartbeats 1000000 in
theorem refNext_any (w : World) {q : CV} {a b al : Option Addr} {n c m d nl cl L : Nat} (hm : mayC q.bet q.ballots q.margin) {x : Int} (x1 : -2 ≤ x) (x2 : x ≤ 2) (h : Rd .u32 w al nl cl (limbs L)) (hL : L ≤ mostN) :
    Calls Try.prog 57 #[cmV q a n c b m d, .slice al nl cl, .int .i64 x] w (RetL1 w (limbs (nextC q L x))) := by
  have L1 := Has.new w (cmC q a n c b m d) 25
  have k0 := L1.cell 0 _ rfl
  have k1 := L1.cell 1 _ rfl
  have k2 := L1.cell 2 _ rfl
  have fr := fact_range hm x1 x2
  have fc := fact_code q x
  have hw := fact_whole hm
  obtain ⟨⟨b1, b2⟩, ⟨n1, n2⟩, m1, m2⟩ := hm
  have p1 := prod_range (show 0 ≤ q.bet by omega) b2 (show -1000000 ≤ q.margin by omega) (show q.margin ≤ 1000000 by omega)
  have p2 := prod_range (show 0 ≤ q.bet by omega) b2 x1 x2
  have p3 := prod_range (show 0 ≤ q.ballots by omega) n2 (show -2000 ≤ q.bet * x by omega) (show q.bet * x ≤ 2000 by omega)
  rw [Int.mul_comm q.ballots] at p3
  have w1 : wrap64 (2000 * q.ballots) = 2000 * q.ballots := by simp only [wrap64]; omega
  have w2 : wrap64 (q.bet * q.margin) = q.bet * q.margin := by simp only [wrap64]; omega
  have w3 : wrap64 (q.bet * x) = q.bet * x := by simp only [wrap64]; omega
  have w4 : wrap64 (q.bet * x * q.ballots) = q.bet * x * q.ballots := by simp only [wrap64]; omega
  have w5 : wrap64 (2000 * q.ballots + q.bet * q.margin) = 2000 * q.ballots + q.bet * q.margin := by simp only [wrap64]; omega
  have w6 : wrap64 (2000 * q.ballots + q.bet * q.margin - q.bet * x * q.ballots) = factZ q x := by rw [fc]; simp only [wrap64]; omega
  have c1 : IntKind.u64.wrap (factZ q x) = (factC q x : Int) := by
    simp only [IntKind.wrap, IntKind.bits, IntKind.signed, factC]
    simp
    omega
  have c2 : IntKind.u64.wrap (2000 * q.ballots) = (wholeC q : Int) := by
    simp only [IntKind.wrap, IntKind.bits, IntKind.signed, wholeC]
    simp
    omega
  have NB := Lib.hid (show factC q x < 18446744073709551616 ∧ 0 < wholeC q ∧ wholeC q < 18446744073709551616 by
    refine ⟨?_, hw.2, ?_⟩
    · unfold factC; omega
    · unfold wholeC; omega)
  have cc := refPolTimes_any _ (h.below L1.below) hL (factC q x) (wholeC q) NB.out.1 NB.out.2.1 NB.out.2.2
  clear fr fc hw b1 b2 n1 n2 m1 m2 p1 p2 p3 x1 x2
  go_enter Try.func57, Try.ntmps57
  go_wp2_with fail
  refine cc.mono ?_
  rintro e1 w1 ⟨a1, n1, c1, rfl, y1, hb⟩
  clear cc
  go_wp2_with fail
  go_ret
  exact ⟨a1, n1, c1, rfl, y1, L1.below.trans (hb.mono L1.below.size)⟩

end Go.Proofs.Ytmkcdlhhbnakiaa
/- What the laws about comparison audits say of the pure answers. No program in sight. -/
namespace Go.Proofs.Ytmkcdlhhbnakiaa
open Go.RowKit Go.Suf
set_option linter.unusedVariables false
set_option linter.unusedSimpArgs false

theorem obs1C_out {q : CV} {v : Int} (h : v < -2 ∨ 2 < v ∨ 1000000 ≤ seenAtC q v) : obs1C q v = none := by unfold obs1C; rw [if_pos h]
theorem obs1C_in {q : CV} {v : Int} (h : ¬ (v < -2 ∨ 2 < v ∨ 1000000 ≤ seenAtC q v)) : obs1C q v = some (stepC q v) := by unfold obs1C; rw [if_neg h]
theorem obsCC_bad {c : CV} {vs : List Int} (h : chkC c ≠ 0) : obsCC c vs = (zeroCV, 8) := by unfold obsCC; rw [if_neg h]
theorem obsCC_none {c : CV} {vs : List Int} (h : chkC c = 0) (h2 : obsNC c vs = none) : obsCC c vs = (zeroCV, 2) := by unfold obsCC; rw [if_pos h, h2]
theorem obsCC_some {c q : CV} {vs : List Int} (h : chkC c = 0) (h2 : obsNC c vs = some q) : obsCC c vs = (q, 0) := by unfold obsCC; rw [if_pos h, h2]

/-- The sum of the counts. -/
def sumC (c : CV) : Int := c.s0 + c.s1 + c.s2 + c.s3 + c.s4

theorem sumC_step {c : CV} {x : Int} (h1 : -2 ≤ x) (h2 : x ≤ 2) : sumC (stepC c x) = sumC c + 1 := by
  have hx : x = -2 ∨ x = -1 ∨ x = 0 ∨ x = 1 ∨ x = 2 := by omega
  rcases hx with rfl | rfl | rfl | rfl | rfl
  · show (c.s0 + 1) + c.s1 + c.s2 + c.s3 + c.s4 = c.s0 + c.s1 + c.s2 + c.s3 + c.s4 + 1
    omega
  · show c.s0 + (c.s1 + 1) + c.s2 + c.s3 + c.s4 = c.s0 + c.s1 + c.s2 + c.s3 + c.s4 + 1
    omega
  · show c.s0 + c.s1 + (c.s2 + 1) + c.s3 + c.s4 = c.s0 + c.s1 + c.s2 + c.s3 + c.s4 + 1
    omega
  · show c.s0 + c.s1 + c.s2 + (c.s3 + 1) + c.s4 = c.s0 + c.s1 + c.s2 + c.s3 + c.s4 + 1
    omega
  · show c.s0 + c.s1 + c.s2 + c.s3 + (c.s4 + 1) = c.s0 + c.s1 + c.s2 + c.s3 + c.s4 + 1
    omega

theorem obsNC_vld {vs : List Int} : ∀ {c q : CV} {L B : Nat}, VldC c L B → obsNC c vs = some q →
    ∃ L' B', VldC q L' B' ∧ B ≤ B' ∧ (q.bet = c.bet ∧ q.ballots = c.ballots ∧ q.margin = c.margin) ∧ sumC q = sumC c + (vs.length : Int) := by
  induction vs with
  | nil =>
    intro c q L B v h
    obtain rfl : c = q := by injection h
    exact ⟨L, B, v, Nat.le_refl _, ⟨rfl, rfl, rfl⟩, by simp⟩
  | cons x xs ih =>
    intro c q L B v h
    have h' : (obs1C c x).bind (fun q => obsNC q xs) = some q := h
    by_cases hx : x < -2 ∨ 2 < x ∨ 1000000 ≤ seenAtC c x
    · rw [obs1C_out hx] at h'
      simp at h'
    · rw [obs1C_in hx] at h'
      have v2 := stepC_vld v (x := x) (by omega) (by omega) (by omega)
      obtain ⟨L', B', v3, hb, he, hs⟩ := ih v2 h'
      refine ⟨L', B', v3, Nat.le_trans (Nat.le_max_left _ _) hb, he, ?_⟩
      rw [hs, sumC_step (by omega) (by omega)]
      simp only [List.length_cons, Int.natCast_succ]
      omega

theorem obsCC_ways {c : CV} {L B : Nat} (v : VldC c L B) (vs : List Int) :
    (obsNC c vs = none ∧ obsCC c vs = (zeroCV, 2)) ∨ ∃ q L' B', obsNC c vs = some q ∧ obsCC c vs = (q, 0) ∧ VldC q L' B' ∧ B ≤ B' ∧ (q.bet = c.bet ∧ q.ballots = c.ballots ∧ q.margin = c.margin) ∧ sumC q = sumC c + (vs.length : Int) := by
  cases h : obsNC c vs with
  | none => exact .inl ⟨rfl, obsCC_none v.chk h⟩
  | some q =>
    obtain ⟨L', B', v', h1, h2, h3⟩ := obsNC_vld v h
    exact .inr ⟨q, L', B', rfl, obsCC_some v.chk h, v', h1, h2, h3⟩

theorem obsNC_fail {c : CV} {vs : List Int} {k : Nat} (h : obsNC c (vs.take k) = none) : obsNC c vs = none := by
  rw [← List.take_append_drop k vs, obsNC_append, h]
  rfl

theorem obsCC_two {c q : CV} {L B : Nat} (v : VldC c L B) {vs : List Int} {k : Nat} (h : obsNC c (vs.take k) = some q) {L' B' : Nat} (v' : VldC q L' B') : obsCC q (vs.drop k) = obsCC c vs := by
  have e : obsNC c vs = obsNC q (vs.drop k) := by
    conv => lhs; rw [← List.take_append_drop k vs]
    rw [obsNC_append, h]
    rfl
  unfold obsCC
  rw [if_pos v.chk, if_pos v'.chk, e]

theorem seekC_yes {c : CV} {N D f k : Nat} (h : sureN (levC c k) N D = true) : seekC c N D (f + 1) k = ((k : Int), 0) := by
  show (if sureN (levC c k) N D = true then _ else _) = _
  rw [if_pos h]
theorem seekC_no {c : CV} {N D f k : Nat} (h : ¬ sureN (levC c k) N D = true) : seekC c N D (f + 1) k = seekC c N D f (k + 1) := by
  show (if sureN (levC c k) N D = true then _ else _) = _
  rw [if_neg h]

theorem seekC_spec {c : CV} {N D : Nat} : ∀ (f k : Nat), (seekC c N D f k = (0, 6) ∧ ∀ j, k ≤ j → j < k + f → ¬ sureN (levC c j) N D = true) ∨
    ∃ j, k ≤ j ∧ j < k + f ∧ seekC c N D f k = ((j : Int), 0) ∧ sureN (levC c j) N D = true ∧ ∀ i, k ≤ i → i < j → ¬ sureN (levC c i) N D = true
  | 0, k => .inl ⟨rfl, fun j h1 h2 => by omega⟩
  | f + 1, k => by
    by_cases h : sureN (levC c k) N D = true
    · exact .inr ⟨k, Nat.le_refl _, by omega, seekC_yes h, h, fun i h1 h2 => by omega⟩
    · rw [seekC_no h]
      rcases seekC_spec f (k + 1) with ⟨e, ha⟩ | ⟨j, h1, h2, e, hs, ha⟩
      · refine .inl ⟨e, fun j h1 h2 => ?_⟩
        by_cases hj : j = k
        · rw [hj]; exact h
        · exact ha j (by omega) (by omega)
      · refine .inr ⟨j, by omega, by omega, e, hs, fun i h3 h4 => ?_⟩
        by_cases hj : i = k
        · rw [hj]; exact h
        · exact ha i (by omega) h4

/-- The state after k observations of 0. -/
def cN (bet ballots margin : Int) (k : Nat) : CV := ⟨bet, ballots, margin, 0, 0, (k : Int), 0, 0, limbs (levC ⟨bet, ballots, margin, 0, 0, 0, 0, 0, [0, 0, 1], [0, 0, 1]⟩ k), limbs (levC ⟨bet, ballots, margin, 0, 0, 0, 0, 0, [0, 0, 1], [0, 0, 1]⟩ k)⟩

/-- The initial state. -/
def c0 (bet ballots margin : Int) : CV := ⟨bet, ballots, margin, 0, 0, 0, 0, 0, [0, 0, 1], [0, 0, 1]⟩

theorem nextC_same {c d : CV} (h : c.bet = d.bet ∧ c.ballots = d.ballots ∧ c.margin = d.margin) (L : Nat) (x : Int) : nextC c L x = nextC d L x := by
  unfold nextC factC factZ wholeC
  rw [h.1, h.2.1, h.2.2]

theorem levC_lo {c : CV} (h : mayC c.bet c.ballots c.margin) : ∀ k, oneN ≤ levC c k
  | 0 => Nat.le_refl _
  | k + 1 => Nat.le_trans (levC_lo h k) (levC_up h k)

theorem cN_vld {b n m : Int} (h : mayC b n m) {k : Nat} (hk : k ≤ 1000000) : VldC (cN b n m k) (levC (c0 b n m) k) (levC (c0 b n m) k) :=
  ⟨h, by show inS 0; decide, by show inS 0; decide, by show inS (k : Int); unfold inS; omega, by show inS 0; decide, by show inS 0; decide, rfl, rfl, Nat.le_refl _, levC_lo (c := c0 b n m) h k, levC_le _ k⟩

theorem cN_step {b n m : Int} (h : mayC b n m) (k : Nat) : stepC (cN b n m k) 0 = cN b n m (k + 1) := by
  have u := levC_up (c := c0 b n m) h k
  have e : nextC (cN b n m k) (levC (c0 b n m) k) 0 = levC (c0 b n m) (k + 1) := nextC_same (d := c0 b n m) ⟨rfl, rfl, rfl⟩ _ _
  show (⟨b, n, m, 0, 0, (k : Int) + 1, 0, 0, limbs (nextC (cN b n m k) (val (limbs (levC (c0 b n m) k))) 0), limbs (max (val (limbs (levC (c0 b n m) k))) (nextC (cN b n m k) (val (limbs (levC (c0 b n m) k))) 0))⟩ : CV) = ⟨b, n, m, 0, 0, ((k + 1 : Nat) : Int), 0, 0, limbs (levC (c0 b n m) (k + 1)), limbs (levC (c0 b n m) (k + 1))⟩
  rw [val_limbs, e, Nat.max_eq_right u, Int.natCast_succ]

theorem cN_obs {b n m : Int} (h : mayC b n m) {k : Nat} (hk : k < 1000000) : obs1C (cN b n m k) 0 = some (cN b n m (k + 1)) := by
  rw [obs1C_in (by
    intro hh
    rcases hh with hh | hh | hh
    · exact absurd hh (by decide)
    · exact absurd hh (by decide)
    · have : (1000000 : Int) ≤ (k : Int) := hh
      omega), cN_step h]

theorem cN_many {b n m : Int} (h : mayC b n m) : ∀ (j k : Nat), k + j ≤ 1000000 → obsNC (cN b n m k) (List.replicate j 0) = some (cN b n m (k + j))
  | 0, k, _ => rfl
  | j + 1, k, hk => by
    show (obs1C (cN b n m k) 0).bind (fun q => obsNC q (List.replicate j 0)) = _
    rw [cN_obs h (by omega)]
    show obsNC (cN b n m (k + 1)) (List.replicate j 0) = _
    rw [cN_many h j (k + 1) (by omega), Nat.add_right_comm, Nat.add_assoc]

theorem newCC_yes {b n m : Int} (h : mayC b n m) : newCC b n m = (cN b n m 0, 0) := by
  unfold newCC
  rw [if_pos h, ← one_limbs]
  rfl
theorem newCC_no {b n m : Int} (h : ¬ mayC b n m) : newCC b n m = (zeroCV, 2) := by unfold newCC; rw [if_neg h]

/-- A larger margin leads to higher levels. -/
theorem levC_margin {b n m m' : Int} (h : mayC b n m) (h' : mayC b n m') (hm : m ≤ m') : ∀ k, levC (c0 b n m) k ≤ levC (c0 b n m') k
  | 0 => Nat.le_refl _
  | k + 1 => by
    have ih := levC_margin h h' hm k
    show timesN (levC (c0 b n m) k) (factC (c0 b n m) 0) (wholeC (c0 b n m)) ≤ timesN (levC (c0 b n m') k) (factC (c0 b n m') 0) (wholeC (c0 b n m'))
    have hw : wholeC (c0 b n m) = wholeC (c0 b n m') := rfl
    have hf : factC (c0 b n m) 0 ≤ factC (c0 b n m') 0 := by
      show (2000 * n + b * (m - 0 * n)).toNat ≤ (2000 * n + b * (m' - 0 * n)).toNat
      rw [Int.zero_mul, Int.sub_zero, Int.sub_zero]
      have := Int.mul_le_mul_of_nonneg_left hm (show 0 ≤ b by have := h.1.1; omega)
      omega
    unfold timesN
    rw [hw]
    have := Nat.div_le_div_right (c := wholeC (c0 b n m')) (Nat.mul_le_mul ih hf)
    omega

theorem sure_lev {B B' n d : Nat} (h : B ≤ B') (hs : sureN B n d = true) : sureN B' n d = true := by
  have h1 : oneN * d ≤ B * n := of_decide_eq_true hs
  exact decide_eq_true (Nat.le_trans h1 (Nat.mul_le_mul_right _ h))

/-! ### the stage's theorem -/

theorem nextC_up {c : CV} {L : Nat} (x : Int) : nextC c L x * wholeC c ≤ L * factC c x := by
  unfold nextC timesN
  exact Nat.le_trans (Nat.mul_le_mul_right _ (Nat.min_le_left _ _)) (Nat.div_mul_le_self _ _)

theorem nextC_mono {c : CV} (h : mayC c.bet c.ballots c.margin) {L : Nat} {x y : Int} (hxy : y ≤ x) : nextC c L x ≤ nextC c L y := by
  unfold nextC timesN
  have hf : factC c x ≤ factC c y := by
    unfold factC factZ
    obtain ⟨⟨b1, b2⟩, ⟨n1, n2⟩, m1, m2⟩ := h
    have k1 : y * c.ballots ≤ x * c.ballots := Int.mul_le_mul_of_nonneg_right hxy (by omega)
    have k2 := Int.mul_le_mul_of_nonneg_left (show c.margin - x * c.ballots ≤ c.margin - y * c.ballots by omega) (show 0 ≤ c.bet by omega)
    omega
  have := Nat.div_le_div_right (c := wholeC c) (Nat.mul_le_mul_left L hf)
  omega

theorem fact_mul (c : CV) (x t : Int) : factZ c x * t = 2000 * (c.ballots * t) + c.bet * (c.margin * t) - x * (c.bet * (c.ballots * t)) := by
  unfold factZ
  rw [Int.add_mul, Int.mul_assoc, Int.mul_sub, Int.sub_mul, Int.mul_assoc, Int.mul_assoc]
  have e : c.bet * (x * c.ballots * t) = x * (c.bet * (c.ballots * t)) := by
    rw [Int.mul_assoc, Int.mul_left_comm]
  rw [e]
  omega

/-- The supermartingale: where all the overstatements together reach the margin, the sum is at most the fair one. -/
theorem super_cmp {c : CV} (h : mayC c.bet c.ballots c.margin) {L : Nat} {x4 x3 x2 x1 x0 : Nat} (ht : (x4 : Int) + x3 + x2 + x1 + x0 = c.ballots) (ho : c.margin ≤ 2 * (x4 : Int) + x3 - x1 - 2 * x0) :
    nextC c L 2 * x4 + nextC c L 1 * x3 + nextC c L 0 * x2 + nextC c L (-1) * x1 + nextC c L (-2) * x0 ≤ L * (x4 + x3 + x2 + x1 + x0) := by
  have hw := (fact_whole h).2
  have u4 := Nat.mul_le_mul_right x4 (nextC_up (c := c) (L := L) 2)
  have u3 := Nat.mul_le_mul_right x3 (nextC_up (c := c) (L := L) 1)
  have u2 := Nat.mul_le_mul_right x2 (nextC_up (c := c) (L := L) 0)
  have u1 := Nat.mul_le_mul_right x1 (nextC_up (c := c) (L := L) (-1))
  have u0 := Nat.mul_le_mul_right x0 (nextC_up (c := c) (L := L) (-2))
  have f : ∀ x : Int, -2 ≤ x → x ≤ 2 → (factC c x : Int) = factZ c x := fun x a b => by
    have := fact_range h a b
    unfold factC
    omega
  have key : factC c 2 * x4 + factC c 1 * x3 + factC c 0 * x2 + factC c (-1) * x1 + factC c (-2) * x0 ≤ wholeC c * (x4 + x3 + x2 + x1 + x0) := by
    have hW : (wholeC c : Int) = 2000 * c.ballots := by
      have := h.2.1.1
      unfold wholeC
      omega
    have hz : ((factC c 2 * x4 + factC c 1 * x3 + factC c 0 * x2 + factC c (-1) * x1 + factC c (-2) * x0 : Nat) : Int) ≤ ((wholeC c * (x4 + x3 + x2 + x1 + x0) : Nat) : Int) := by
      simp only [Int.natCast_add, Int.natCast_mul]
      rw [f 2 (by decide) (by decide), f 1 (by decide) (by decide), f 0 (by decide) (by decide), f (-1) (by decide) (by decide), f (-2) (by decide) (by decide), hW]
      simp only [fact_mul]
      rw [ht, Int.mul_assoc]
      have hn : c.ballots * c.ballots = c.ballots * x4 + c.ballots * x3 + c.ballots * x2 + c.ballots * x1 + c.ballots * x0 := by
        conv => lhs; rhs; rw [← ht]
        simp only [Int.mul_add]
      have hb : c.bet * (c.margin * c.ballots) = c.bet * (c.margin * x4) + c.bet * (c.margin * x3) + c.bet * (c.margin * x2) + c.bet * (c.margin * x1) + c.bet * (c.margin * x0) := by
        conv => lhs; rhs; rhs; rw [← ht]
        simp only [Int.mul_add]
      have k1 : c.margin * c.ballots ≤ (2 * (x4 : Int) + x3 - x1 - 2 * x0) * c.ballots := Int.mul_le_mul_of_nonneg_right ho (by have := h.2.1.1; omega)
      have k2 := Int.mul_le_mul_of_nonneg_left k1 (show 0 ≤ c.bet by have := h.1.1; omega)
      have k3 : c.bet * ((2 * (x4 : Int) + x3 - x1 - 2 * x0) * c.ballots) = 2 * (c.bet * (c.ballots * x4)) + c.bet * (c.ballots * x3) - c.bet * (c.ballots * x1) - 2 * (c.bet * (c.ballots * x0)) := by
        rw [Int.mul_comm _ c.ballots]
        simp only [Int.mul_add, Int.mul_sub, Int.mul_left_comm]
      rw [hn]
      omega
    exact Int.ofNat_le.1 hz
  refine Nat.le_of_mul_le_mul_right (c := wholeC c) ?_ hw
  have t1 : (nextC c L 2 * x4 + nextC c L 1 * x3 + nextC c L 0 * x2 + nextC c L (-1) * x1 + nextC c L (-2) * x0) * wholeC c = nextC c L 2 * wholeC c * x4 + nextC c L 1 * wholeC c * x3 + nextC c L 0 * wholeC c * x2 + nextC c L (-1) * wholeC c * x1 + nextC c L (-2) * wholeC c * x0 := by
    simp only [Nat.add_mul, Nat.mul_right_comm]
  have t2 : L * (x4 + x3 + x2 + x1 + x0) * wholeC c = L * (wholeC c * (x4 + x3 + x2 + x1 + x0)) := by rw [Nat.mul_assoc, Nat.mul_comm (x4 + x3 + x2 + x1 + x0)]
  have t3 : L * (factC c 2 * x4 + factC c 1 * x3 + factC c 0 * x2 + factC c (-1) * x1 + factC c (-2) * x0) = L * factC c 2 * x4 + L * factC c 1 * x3 + L * factC c 0 * x2 + L * factC c (-1) * x1 + L * factC c (-2) * x0 := by
    simp only [Nat.mul_add, Nat.mul_assoc]
  have k := Nat.mul_le_mul_left L key
  rw [t3] at k
  rw [t1, t2]
  omega

end Go.Proofs.Ytmkcdlhhbnakiaa
/- Observing: the state in a block of the call's own, one value after another. No program's walk here. -/
namespace Go.Proofs.Ytmkcdlhhbnakiaa
open Go.RowKit Go.Suf
set_option linter.unusedVariables false
set_option linter.unusedSimpArgs false

theorem PRow.set {t : TypeId} {w w1 : World} {k : Nat} {cs : Array Value} (h : PRow t w w1 k cs) (i : Nat) (v : Value) : PRow t w (w1.setCell ⟨k, i, none⟩ v) k (cs.setIfInBounds i v) :=
  ⟨h.below.setCell h.lo v, heap_setCell_same w1 k i cs t v h.row, h.lo, by have := h.lt; simpa [World.setCell] using this⟩

theorem PRow.other {t : TypeId} {w w1 : World} {k : Nat} {cs : Array Value} (h : PRow t w w1 k cs) {p : Addr} (hp : k ≠ p.block) (hl : w.heap.size ≤ p.block) (v : Value) : PRow t w (w1.setCell p v) k cs :=
  ⟨h.below.setCell hl v, by rw [Below.heap_setCell _ _ _ _ hp]; exact h.row, h.lo, by have := h.lt; simpa [World.setCell] using this⟩

theorem PRow.free {t : TypeId} {w w1 : World} {k : Nat} {cs : Array Value} (h : PRow t w w1 k cs) (i : Nat) : w1.frozen? ⟨k, i, none⟩ = false := frozen_of_row w1 k i _ t h.row

/-- What reads as numbers reads on where a cell of a state is stored. -/
theorem rd_setcell {w : World} {a : Option Addr} {n c k i : Nat} {xs : List Nat} (h : Rd .u32 w a n c xs) {cs : Array Value} {t : TypeId} {f : Nat × Nat} (hr : w.heap[k]? = some (.cells cs t f)) (hno : ∀ (i : Nat) (z : Int), cs[i]? ≠ some (.int .u32 z)) (v : Value) :
    Rd .u32 (w.setCell ⟨k, i, none⟩ v) a n c xs := by
  refine ⟨h.len, ⟨h.sl.le, h.sl.max, h.sl.nil, fun j u hv => ?_, h.sl.one⟩, h.bd⟩
  obtain ⟨b, off, e, hw⟩ := h.sl.cell j u hv
  refine ⟨b, off, e, ?_⟩
  by_cases hk : b = k
  · exfalso
    subst hk
    have hi : j < n := by
      have := h.len
      have h2 : j < (nums .u32 xs).length := by
        rcases Nat.lt_or_ge j (nums .u32 xs).length with h3 | h3
        · exact h3
        · rw [List.getElem?_eq_none h3] at hv
          simp at hv
      simp [nums] at h2
      omega
    obtain ⟨b', off', e', hw', _⟩ := h.cell j hi
    rw [e] at e'
    obtain ⟨rfl, rfl⟩ : b = b' ∧ off = off' := by
      injection e' with e'
      injection e' with e1 e2
      exact ⟨e1, e2⟩
    simp only [World.cell?, hr] at hw'
    exact hno _ _ hw'
  · rw [← hw]
    simp only [World.cell?, Below.heap_setCell _ _ _ _ (show b ≠ (⟨k, i, none⟩ : Addr).block from hk)]

theorem obsN_snoc {p q : PV} {vs : List Int} {k : Nat} (h : obsN p (vs.take k) = some q) (hk : k < vs.length) : obsN p (vs.take (k + 1)) = obs1 q (ith vs k) := by
  rw [List.take_add_one, List.getElem?_eq_getElem hk, obsN_append, h]
  show (obs1 q vs[k]).bind some = _
  rw [ith, List.getD, List.getElem?_eq_getElem hk]
  show (obs1 q vs[k]).bind some = obs1 q vs[k]
  cases obs1 q vs[k] <;> rfl

theorem obsN_fail {p : PV} {vs : List Int} {k : Nat} (h : obsN p (vs.take k) = none) : obsN p vs = none := by
  rw [← List.take_append_drop k vs, obsN_append, h]
  rfl

theorem obsC_bad {p : PV} {vs : List Int} (h : chkP p ≠ 0) : obsC p vs = (zeroP, 8) := by unfold obsC; rw [if_neg h]
theorem obsC_none {p : PV} {vs : List Int} (h : chkP p = 0) (h2 : obsN p vs = none) : obsC p vs = (zeroP, 2) := by unfold obsC; rw [if_pos h, h2]
theorem obsC_some {p q : PV} {vs : List Int} (h : chkP p = 0) (h2 : obsN p vs = some q) : obsC p vs = (q, 0) := by unfold obsC; rw [if_pos h, h2]

theorem obs1_out {q : PV} {v : Int} (h : v < 0 ∨ 2 < v ∨ 1000000 ≤ seenAt q v) : obs1 q v = none := by unfold obs1; rw [if_pos h]
theorem obs1_in {q : PV} {v : Int} (h : ¬ (v < 0 ∨ 2 < v ∨ 1000000 ≤ seenAt q v)) : obs1 q v = some (step q v) := by unfold obs1; rw [if_neg h]

/-- The new level of a state. -/
def newL (q : PV) (v : Int) (L : Nat) : Nat := timesN L (factN q.bet v) 1000

theorem newL_le (q : PV) (v : Int) (L : Nat) : newL q v L ≤ mostN := Nat.min_le_right _ _

theorem step_up {q : PV} {L B : Nat} {v : Int} (h : Vld q L B) (hb : B ≤ newL q v L) : step q v = ⟨(bump q v).bet, (bump q v).s0, (bump q v).s1, (bump q v).s2, limbs (newL q v L), limbs (newL q v L)⟩ := by
  unfold step bump newL at *
  simp only [h.lev, h.best, val_limbs, Nat.max_eq_right hb]

theorem step_keep {q : PV} {L B : Nat} {v : Int} (h : Vld q L B) (hb : newL q v L ≤ B) : step q v = ⟨(bump q v).bet, (bump q v).s0, (bump q v).s1, (bump q v).s2, limbs (newL q v L), limbs B⟩ := by
  unfold step bump newL at *
  simp only [h.lev, h.best, val_limbs, Nat.max_eq_left hb]

end Go.Proofs.Ytmkcdlhhbnakiaa
/- Observe in the document's answer. -/
namespace Go.Proofs.Ytmkcdlhhbnakiaa
open Go.RowKit Go.Suf
set_option linter.unusedVariables false
set_option linter.unusedSimpArgs false

theorem fac_down {b : Int} (h1 : 1 ≤ b) (h2 : b ≤ 999) : IntKind.u64.wrap (wrap64 (1000 + wrap64 (-b))) = 1000 + -b := by
  simp only [IntKind.wrap, IntKind.bits, IntKind.signed, wrap64]
  simp
  omega
theorem fac_up {b : Int} (h1 : 1 ≤ b) (h2 : b ≤ 999) : IntKind.u64.wrap (wrap64 (1000 + wrap64 b)) = 1000 + b := by
  simp only [IntKind.wrap, IntKind.bits, IntKind.signed, wrap64]
  simp
  omega

end Go.Proofs.Ytmkcdlhhbnakiaa
/- Observing, the program's side: the factor's closure; where ways meet again. -/
namespace Go.Proofs.Ytmkcdlhhbnakiaa
open Go.RowKit Go.Suf
set_option linter.unusedVariables false
set_option linter.unusedSimpArgs false

/-- Ways that meet again behind a piece of code: what is known of them all, and then the rest. -/
def Met (R : Act → World → Prop) : Exit → Act → World → Prop
  | .normal, a, w => R a w
  | _, _, _ => False

theorem wp_meet {P : Program} {c : Code} {Q : Exit → Act → World → Prop} {a : Act} {w : World} (R : Act → Act → World → Prop)
    (h1 : c.wp P (Met (R a)) a w) (h2 : ∀ a' w', R a a' w' → Q .normal a' w') : c.wp P Q a w :=
  Code.wp_mono (fun e a' w' h => by cases e <;> first | exact h2 _ _ h | exact h.elim) h1

theorem fac_down64 {b : Int} (h1 : 1 ≤ b) (h2 : b ≤ 999) : wrap64 (1000 + wrap64 (-b)) = 1000 + -b := by
  simp only [wrap64]
  omega
theorem fac_up64 {b : Int} (h1 : 1 ≤ b) (h2 : b ≤ 999) : wrap64 (1000 + wrap64 b) = 1000 + b := by
  simp only [wrap64]
  omega

theorem PRow.rebase {t : TypeId} {w1 w2 w3 : World} {k : Nat} {cs : Array Value} (h : PRow t w2 w3 k cs) (hb : Below w1.heap.size w1 w3) (hl : w1.heap.size ≤ w2.heap.size) : PRow t w1 w3 k cs :=
  ⟨hb, h.row, Nat.le_trans hl h.lo, h.lt⟩

theorem PRow.put {t : TypeId} {w w1 : World} {k : Nat} {cs : Array Value} (h : PRow t w w1 k cs) (cs' : Array Value) : PRow t w (w1.setRow k cs') k cs' :=
  ⟨below_row h.below h.lo _, setRow_heap _ _ _ _ _ _ h.row, h.lo, by rw [setRow_size]; exact h.lt⟩

end Go.Proofs.Ytmkcdlhhbnakiaa
/- Observe of polling. -/
namespace Go.Proofs.Ytmkcdlhhbnakiaa
open Go.RowKit Go.Suf
set_option linter.unusedVariables false
set_option linter.unusedSimpArgs false

theorem op_store_whole {P : Program} {o : Oper} {a : Act} {w : World} {K : Act → World → Prop} {Q : Exit → Act → World → Prop} (t : TypeId) (x y : Operand) (ho : o.op = .store t x y) {m : Nat} (A : AT P t m)
    {b : Nat} (cur vs : Array Value) (e : TypeId) (hg : w.heap[b]? = some (.cells cur e (0, 0))) (hx : a.eval x = .pointer (some ⟨b, 0, none⟩)) (hy : a.eval y = .agg vs) (hm : vs.size = m) (hcur : cur.size = m) (h1 : ∀ u ∈ vs.toList, u.oneCell' = true)
    (h : K (a.put o.dst undef) (w.setRow b vs)) : o.wp P a w K Q := by
  have hst := run_storeCells_at P b 0 e vs.toList 0 cur w hg (by simp; omega) h1
  simp only [Nat.add_zero, List.take_zero, List.nil_append, Array.length_toList] at hst
  rw [List.drop_eq_nil_of_le (by simp; omega), List.append_nil, Array.toArray_toList] at hst
  unfold Oper.wp execOp
  simp only [ho, hx, hy, Instr.storeAt, Instr.sureAddr, Sem.run_bind, Sem.run_pure, Result.andThen_ok, storeVar, A.sizeOf, Value.cells, hm]
  simp only [ne_eq, not_true_eq_false, if_false, hst]
  exact h

theorem keep_six {w1 w2 w3 : World} {x : Nat} {u0 u1 u2 u3 u4 u5 : Value} (h : Below w1.heap.size w1 w2 ∧ w2.cell? ⟨x, 0, none⟩ = some u0 ∧ w2.cell? ⟨x, 1, none⟩ = some u1 ∧ w2.cell? ⟨x, 2, none⟩ = some u2 ∧ w2.cell? ⟨x, 3, none⟩ = some u3 ∧ w2.cell? ⟨x, 4, none⟩ = some u4 ∧ w2.cell? ⟨x, 5, none⟩ = some u5)
    (hb : Below w2.heap.size w2 w3) (hx : x < w1.heap.size) : Below w1.heap.size w1 w3 ∧ w3.cell? ⟨x, 0, none⟩ = some u0 ∧ w3.cell? ⟨x, 1, none⟩ = some u1 ∧ w3.cell? ⟨x, 2, none⟩ = some u2 ∧ w3.cell? ⟨x, 3, none⟩ = some u3 ∧ w3.cell? ⟨x, 4, none⟩ = some u4 ∧ w3.cell? ⟨x, 5, none⟩ = some u5 := by
  obtain ⟨h0, h1, h2, h3, h4, h5, h6⟩ := h
  have := h0.size
  exact ⟨h0.trans (hb.mono h0.size), cell_later hb h1 (by omega), cell_later hb h2 (by omega), cell_later hb h3 (by omega), cell_later hb h4 (by omega), cell_later hb h5 (by omega), cell_later hb h6 (by omega)⟩

theorem six_row {w1 w2 : World} {x g : Nat} {u0 u1 u2 u3 u4 u5 : Value} {cs : Array Value} (h : Below w1.heap.size w1 w2 ∧ w2.cell? ⟨x, 0, none⟩ = some u0 ∧ w2.cell? ⟨x, 1, none⟩ = some u1 ∧ w2.cell? ⟨x, 2, none⟩ = some u2 ∧ w2.cell? ⟨x, 3, none⟩ = some u3 ∧ w2.cell? ⟨x, 4, none⟩ = some u4 ∧ w2.cell? ⟨x, 5, none⟩ = some u5)
    (hg : w1.heap.size ≤ g) (hx : x ≠ g) : Below w1.heap.size w1 (w2.setRow g cs) ∧ (w2.setRow g cs).cell? ⟨x, 0, none⟩ = some u0 ∧ (w2.setRow g cs).cell? ⟨x, 1, none⟩ = some u1 ∧ (w2.setRow g cs).cell? ⟨x, 2, none⟩ = some u2 ∧ (w2.setRow g cs).cell? ⟨x, 3, none⟩ = some u3 ∧ (w2.setRow g cs).cell? ⟨x, 4, none⟩ = some u4 ∧ (w2.setRow g cs).cell? ⟨x, 5, none⟩ = some u5 := by
  obtain ⟨h0, h1, h2, h3, h4, h5, h6⟩ := h
  simp only [World.cell?, setRow_other _ _ _ _ hx] at *
  exact ⟨below_row h0 hg cs, h1, h2, h3, h4, h5, h6⟩

theorem six_drew {w1 w2 : World} {x : Nat} {u0 u1 u2 u3 u4 u5 : Value} (h : Below w1.heap.size w1 w2 ∧ w2.cell? ⟨x, 0, none⟩ = some u0 ∧ w2.cell? ⟨x, 1, none⟩ = some u1 ∧ w2.cell? ⟨x, 2, none⟩ = some u2 ∧ w2.cell? ⟨x, 3, none⟩ = some u3 ∧ w2.cell? ⟨x, 4, none⟩ = some u4 ∧ w2.cell? ⟨x, 5, none⟩ = some u5) :
    Below w1.heap.size w1 w2.drew ∧ w2.drew.cell? ⟨x, 0, none⟩ = some u0 ∧ w2.drew.cell? ⟨x, 1, none⟩ = some u1 ∧ w2.drew.cell? ⟨x, 2, none⟩ = some u2 ∧ w2.drew.cell? ⟨x, 3, none⟩ = some u3 ∧ w2.drew.cell? ⟨x, 4, none⟩ = some u4 ∧ w2.drew.cell? ⟨x, 5, none⟩ = some u5 := by
  obtain ⟨h0, h1, h2, h3, h4, h5, h6⟩ := h
  simp only [World.cell?_drew]
  exact ⟨h0.drew, h1, h2, h3, h4, h5, h6⟩

end Go.Proofs.Ytmkcdlhhbnakiaa
