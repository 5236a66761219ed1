/- What each law of rational numbers asks of the operations, in plain Lean. No program in sight. -/
import Derived.Test.YtdaajeklnhbhjaaDoorRatU
import Derived.Test.YtdaajeklnhbhjaaDoorRatK
namespace Go.Proofs.YtdaajeklnhbhjaaDoor
open Go.RowKit Go.Suf
set_option linter.unusedVariables false
set_option linter.unusedSimpArgs false

theorem cmpR_anti (p q : Rat) : cmpR q p = -cmpR p q := by
  unfold cmpR
  by_cases h : p < q
  · have h2 : ¬ q < p := by grind
    rw [if_neg h2, if_pos h, if_pos h]
    rfl
  · rw [if_neg h, if_neg h]
    split
    · rfl
    · rfl
theorem cmpR_iff {p q r s : Rat} (h1 : p < q ↔ r < s) (h2 : q < p ↔ s < r) : cmpR p q = cmpR r s := by
  unfold cmpR
  simp only [h1, h2]
theorem cmpR_add (p q z : Rat) : cmpR (p + z) (q + z) = cmpR p q := cmpR_iff (by grind) (by grind)
theorem cmpR_neg (p q : Rat) : cmpR (-p) (-q) = -cmpR p q := by rw [← cmpR_anti]; exact cmpR_iff (by grind) (by grind)
theorem cmpR_sub (p q : Rat) : cmpR (p - q) 0 = cmpR p q := cmpR_iff (by grind) (by grind)
theorem cmpR_zero (p q : Rat) : cmpR p q = 0 ↔ p = q := by
  unfold cmpR
  by_cases h : p < q
  · rw [if_pos h]
    constructor
    · intro e; exact absurd e (by decide)
    · rintro rfl; exact absurd h Rat.lt_irrefl
  · rw [if_neg h]
    by_cases h2 : q < p
    · rw [if_pos h2]
      constructor
      · intro e; exact absurd e (by decide)
      · rintro rfl; exact absurd h2 Rat.lt_irrefl
    · rw [if_neg h2]
      constructor
      · intro _; grind
      · intro _; rfl
theorem cmpR_lt (p q : Rat) : cmpR p q < 0 ↔ p < q := by
  unfold cmpR
  by_cases h : p < q
  · rw [if_pos h]; simp [h]
  · rw [if_neg h]
    split <;> simp [h]
theorem cmpR_gt (p q : Rat) : 0 < cmpR p q ↔ q < p := by
  have := cmpR_anti p q
  rw [← cmpR_lt q p]
  omega
theorem cmpR_bd (p q : Rat) : -1 ≤ cmpR p q ∧ cmpR p q ≤ 1 := by
  unfold cmpR
  split
  · decide
  · split <;> decide

theorem field_law {x y z : QV} (sx : small32 x.num ∧ small32 x.den) (sy : small32 y.num ∧ small32 y.den) (sz : small32 z.num ∧ small32 z.den) (hx : okV x) (hy : okV y) (hz : okV z) :
    ∃ xy yz a p r c u v, addV x y = (xy, 0) ∧ addV y x = (xy, 0) ∧ addV y z = (yz, 0) ∧ addV xy z = (a, 0) ∧ addV x yz = (a, 0) ∧ mulV x y = (p, 0) ∧ mulV y x = (p, 0) ∧ mulV y z = (r, 0) ∧ mulV p z = (c, 0) ∧ mulV x r = (c, 0) ∧ mulV xy z = (u, 0) ∧ mulV x z = (v, 0) ∧ addV v r = (u, 0) ∧ chkV u = 0 := by
  obtain ⟨p, rfl, bx⟩ := okV_get sx.1 sx.2 hx
  obtain ⟨q, rfl, by'⟩ := okV_get sy.1 sy.2 hy
  obtain ⟨r, rfl, bz⟩ := okV_get sz.1 sz.2 hz
  have b1 := (add_in (k := 13) bx by' (by decide) (by decide)).2
  have b2 := (add_in (k := 13) by' bz (by decide) (by decide)).2
  have m1 := (mul_in bx by' rfl (by decide)).2
  have m2 := (mul_in by' bz rfl (by decide)).2
  have m3 := (mul_in bx bz rfl (by decide)).2
  refine ⟨ofQ (p + q), ofQ (q + r), ofQ (p + q + r), ofQ (p * q), ofQ (q * r), ofQ (p * q * r), ofQ ((p + q) * r), ofQ (p * r), ?_, ?_, ?_, ?_, ?_, ?_, ?_, ?_, ?_, ?_, ?_, ?_, ?_, ?_⟩
  · exact addV_in (k := 13) bx by' (by decide) (by decide)
  · rw [Rat.add_comm p q]; exact addV_in (k := 13) by' bx (by decide) (by decide)
  · exact addV_in (k := 13) by' bz (by decide) (by decide)
  · exact addV_in (k := 20) b1 bz (by decide) (by decide)
  · rw [Rat.add_assoc p q r]; exact addV_in (k := 20) bx b2 (by decide) (by decide)
  · exact mulV_in bx by' rfl (by decide)
  · rw [Rat.mul_comm p q]; exact mulV_in by' bx rfl (by decide)
  · exact mulV_in by' bz rfl (by decide)
  · exact mulV_in m1 bz rfl (by decide)
  · rw [Rat.mul_assoc p q r]; exact mulV_in bx m2 rfl (by decide)
  · exact mulV_in b1 bz rfl (by decide)
  · exact mulV_in bx bz rfl (by decide)
  · rw [Rat.add_mul p q r]; exact addV_in (k := 25) m3 m2 (by decide) (by decide)
  · exact (mul_in b1 bz rfl (by decide)).2.chk (by decide)

theorem ofQ_zero_len {q : Rat} : (ofQ q).num.length = 0 ↔ q = 0 := by
  unfold ofQ
  rw [← Rat.num_eq_zero]
  show (limbs q.num.natAbs).length = 0 ↔ _
  rw [limbs_len_zero]
  omega
theorem one_of : (ofC 1 1).1 = ofQ 1 := whole_of 1
theorem nil_of : (ofC 0 1).1 = ofQ 0 := whole_of 0

theorem back_law {x y : QV} (sx : small32 x.num ∧ small32 x.den) (sy : small32 y.num ∧ small32 y.den) (hx : okV x) (hy : okV y) :
    ∃ s n p, addV x y = (s, 0) ∧ subV s y = (x, 0) ∧ subV x x = ((ofC 0 1).1, 0) ∧ negC y = (n, 0) ∧ addV s n = (x, 0) ∧ mulV x y = (p, 0) ∧
      (y.num.length = 0 → divV p y = (zeroV, 40) ∧ p = (ofC 0 1).1) ∧ (y.num.length ≠ 0 → divV p y = (x, 0) ∧ divV y y = ((ofC 1 1).1, 0)) := by
  obtain ⟨p, rfl, bx⟩ := okV_get sx.1 sx.2 hx
  obtain ⟨q, rfl, by'⟩ := okV_get sy.1 sy.2 hy
  have b1 := (add_in (k := 13) bx by' (by decide) (by decide)).2
  have m1 := (mul_in bx by' rfl (by decide)).2
  refine ⟨ofQ (p + q), ofQ (-q), ofQ (p * q), addV_in (k := 13) bx by' (by decide) (by decide), ?_, ?_, negC_in by' (by decide), ?_, mulV_in bx by' rfl (by decide), ?_, ?_⟩
  · rw [subV_in (k := 20) b1 by' (by decide) (by decide), Rat.add_sub_cancel]
  · rw [subV_in (k := 13) bx bx (by decide) (by decide), Rat.sub_self, nil_of]
  · rw [addV_in (k := 20) b1 by'.neg (by decide) (by decide), show p + q + -q = p by grind]
  · intro h
    obtain rfl := ofQ_zero_len.1 h
    rw [Rat.mul_zero] at *
    exact ⟨divV_zero m1 (by decide), nil_of.symm⟩
  · intro h
    have h0 : q ≠ 0 := fun e => h (ofQ_zero_len.2 e)
    refine ⟨?_, ?_⟩
    · rw [divV_in m1 by' h0 rfl (by decide), Rat.mul_div_cancel h0]
    · rw [divV_in by' by' h0 rfl (by decide), show q / q = 1 by grind, one_of]

theorem order_law {x y z : QV} (sx : small32 x.num ∧ small32 x.den) (sy : small32 y.num ∧ small32 y.den) (sz : small32 z.num ∧ small32 z.den) (hx : okV x) (hy : okV y) (hz : okV z) :
    ∃ (c d : Int) (xz yz a b l : QV), cmpV x y = (c, 0) ∧ cmpV y x = (d, 0) ∧ addV x z = (xz, 0) ∧ addV y z = (yz, 0) ∧ cmpV xz yz = (c, 0) ∧ sameV x y = decide (c = 0) ∧ negC x = (a, 0) ∧ negC y = (b, 0) ∧ cmpV a b = (d, 0) ∧ subV x y = (l, 0) ∧ cmpV l (ofC 0 1).1 = (c, 0) ∧ d = -c ∧ -1 ≤ c ∧ c ≤ 1 := by
  obtain ⟨p, rfl, bx⟩ := okV_get sx.1 sx.2 hx
  obtain ⟨q, rfl, by'⟩ := okV_get sy.1 sy.2 hy
  obtain ⟨r, rfl, bz⟩ := okV_get sz.1 sz.2 hz
  have b1 := (add_in (k := 13) bx bz (by decide) (by decide)).2
  have b2 := (add_in (k := 13) by' bz (by decide) (by decide)).2
  have b3 := sub_in (k := 13) bx by' (by decide) (by decide)
  have h0 : inB 1 (0 : Rat) := ⟨by decide, by decide⟩
  have bd := cmpR_bd p q
  refine ⟨cmpR p q, -cmpR p q, ofQ (p + r), ofQ (q + r), ofQ (-p), ofQ (-q), ofQ (p - q), cmpV_in bx by' (by decide), ?_, addV_in (k := 13) bx bz (by decide) (by decide), addV_in (k := 13) by' bz (by decide) (by decide), ?_, ?_, negC_in bx (by decide), negC_in by' (by decide), ?_, subV_in (k := 13) bx by' (by decide) (by decide), ?_, rfl, bd.1, bd.2⟩
  · rw [cmpV_in by' bx (by decide), cmpR_anti]
  · rw [cmpV_in b1 b2 (by decide), cmpR_add]
  · rw [sameV_ofQ]
    exact decide_eq_decide.2 (cmpR_zero p q).symm
  · rw [cmpV_in bx.neg by'.neg (by decide), cmpR_neg]
  · rw [nil_of, cmpV_in b3 h0 (by decide), cmpR_sub]

theorem flQ_floor (q : Rat) : flQ q = q.floor := by rw [Rat.floor_def]; rfl

theorem whole_law {n : Int} (h1 : -9223372036854775808 ≤ n) (h2 : n < 9223372036854775808) : floorV (ofC n 1).1 = (n, 0) := by
  rw [whole_of, floorV_in (whole_in h1 (by omega)) (by decide)]
  exact floor_in (by rw [flQ_floor, Rat.floor_intCast]) h1 h2

theorem floor_law {x : QV} (sx : small32 x.num ∧ small32 x.den) (hx : okV x) :
    ∃ (lo hi : Int) (P : QV), cmpV x (ofC (-9223372036854775808) 1).1 = (lo, 0) ∧ addV (ofC 9223372036854775807 1).1 (ofC 1 1).1 = (P, 0) ∧ cmpV x P = (hi, 0) ∧
      ((lo < 0 ∨ 0 ≤ hi) → floorV x = (0, 30)) ∧
      (¬ (lo < 0 ∨ 0 ≤ hi) → ∃ (k a b : Int) (N : QV), floorV x = (k, 0) ∧ -9223372036854775808 ≤ k ∧ k < 9223372036854775808 ∧ cmpV (ofC k 1).1 x = (a, 0) ∧ addV (ofC k 1).1 (ofC 1 1).1 = (N, 0) ∧ cmpV N x = (b, 0) ∧ a ≤ 0 ∧ 0 < b) := by
  obtain ⟨p, rfl, bx⟩ := okV_get sx.1 sx.2 hx
  have one : inB 2 (1 : Rat) := whole_in (n := 1) (by decide) (by decide)
  have up : addV (ofC 9223372036854775807 1).1 (ofC 1 1).1 = (ofQ ((9223372036854775808 : Int) : Rat), 0) := by
    rw [whole_of, one_of, addV_in (k := 5) (whole_in (by decide) (by decide)) one (by decide) (by decide), show (((9223372036854775807 : Int) : Rat) + 1) = ((9223372036854775808 : Int) : Rat) from (Rat.intCast_add 9223372036854775807 1).symm]
  refine ⟨cmpR p ((-9223372036854775808 : Int) : Rat), cmpR p ((9223372036854775808 : Int) : Rat), ofQ ((9223372036854775808 : Int) : Rat), ?_, up, ?_, ?_, ?_⟩
  · rw [whole_of, cmpV_in bx (whole_in (by decide) (by decide)) (by decide)]
  · rw [cmpV_in bx (whole_in (by decide) (by decide)) (by decide)]
  · intro h
    rw [floorV_in bx (by decide)]
    refine floor_out rfl ?_
    rw [flQ_floor]
    rintro ⟨h1, h2⟩
    rcases h with h | h
    · have := (cmpR_lt _ _).1 h
      have := Rat.floor_lt_iff.2 this
      omega
    · have := Rat.floor_lt_iff.1 h2
      have := (cmpR_lt _ _).2 this
      omega
  · intro h
    have h1 : -9223372036854775808 ≤ p.floor := by
      apply Decidable.byContradiction
      intro hh
      exact h (.inl ((cmpR_lt _ _).2 (Rat.floor_lt_iff.1 (by omega))))
    have h2 : p.floor < 9223372036854775808 := by
      apply Decidable.byContradiction
      intro hh
      apply h
      right
      have : ¬ p < ((9223372036854775808 : Int) : Rat) := fun h3 => hh (Rat.floor_lt_iff.2 h3)
      have h4 := mt (cmpR_lt _ _).1 this
      omega
    have bk := whole_in (n := p.floor) h1 (by omega)
    have bs := (add_in (k := 5) bk one (by decide) (by decide)).2
    refine ⟨p.floor, cmpR (p.floor : Rat) p, cmpR ((p.floor : Rat) + 1) p, ofQ ((p.floor : Rat) + 1), ?_, h1, h2, ?_, ?_, ?_, ?_, ?_⟩
    · rw [floorV_in bx (by decide)]
      exact floor_in (flQ_floor p) h1 h2
    · rw [whole_of, cmpV_in bk bx (by decide)]
    · rw [whole_of, one_of, addV_in (k := 5) bk one (by decide) (by decide)]
    · exact cmpV_in bs bx (by decide)
    · have : ¬ 0 < cmpR (p.floor : Rat) p := by
        rw [cmpR_gt]
        have := Rat.floor_le p
        grind
      omega
    · rw [cmpR_gt]
      have := Rat.lt_floor_add_one p
      rw [Rat.intCast_add] at this
      exact this

theorem of_in {n d : Int} (h0 : d ≠ 0) (hn : n.natAbs ≤ 9223372036854775808) (hd : d.natAbs ≤ 9223372036854775808) : inB 2 ((n : Rat) / (d : Rat)) := by
  have e := of_low (n := n) h0
  unfold lowV ofQ at e
  injection e with e1 e2 e3
  have p : pw 2 = 18446744073709551616 := by decide
  refine ⟨?_, ?_⟩
  · rw [← limbs_inj e2, p]
    exact Nat.lt_of_le_of_lt (Nat.div_le_self _ _) (by omega)
  · rw [← limbs_inj e3, p]
    exact Nat.lt_of_le_of_lt (Nat.div_le_self _ _) (by omega)

theorem of_law {n d : Int} (h0 : d ≠ 0) (n1 : -9223372036854775808 ≤ n) (n2 : n < 9223372036854775808) (d1 : -9223372036854775808 ≤ d) (d2 : d < 9223372036854775808) :
    ∃ X, ofC n d = (X, 0) ∧ mulV X (ofC d 1).1 = ((ofC n 1).1, 0) ∧ chkV X = 0 ∧ ∀ k : Int, k ≠ 0 → ofC (n * k) (d * k) = (X, 0) := by
  have b := of_in (n := n) h0 (by omega) (by omega)
  have hd : (d : Rat) ≠ 0 := fun h => h0 (Rat.intCast_inj.1 h)
  refine ⟨ofQ ((n : Rat) / (d : Rat)), by rw [ofC, if_neg h0], ?_, b.chk (by decide), ?_⟩
  · rw [whole_of, whole_of, mulV_in b (whole_in d1 (by omega)) rfl (by decide), Rat.div_mul_cancel hd]
  · intro k hk
    rw [ofC, if_neg (Int.mul_ne_zero h0 hk), ← Rat.divInt_eq_div, Rat.divInt_mul_right hk, Rat.divInt_eq_div]
theorem of_nil (n : Int) : ofC n 0 = (zeroV, 40) := by rw [ofC, if_pos rfl]

end Go.Proofs.YtdaajeklnhbhjaaDoor
/- Rational numbers: Mul. Printed by gen_ratm.py. -/
namespace Go.Proofs.YtdaajeklnhbhjaaDoor
open Go.RowKit Go.Suf
set_option linter.unusedVariables false
set_option linter.unusedSimpArgs false

set_option maxRecDepth 100000 in
set_option maxHeartbeats 1000000 in
theorem ratMul_any (w : World) {g1 g2 : Bool} {a b a' b' : Option Addr} {n m c d n' m' c' d' : Nat} {xs ys xs' ys' : List Nat}
    (h1 : Rd .u32 w a n c xs) (h2 : Rd .u32 w b m d ys) (h3 : Rd .u32 w a' n' c' xs') (h4 : Rd .u32 w b' m' d' ys') :
    Calls Tryd.prog 6 #[ratV g1 a n c b m d, ratV g2 a' n' c' b' m' d'] w (RetQE w (mulV ⟨g1, xs, ys⟩ ⟨g2, xs', ys'⟩)) := by
  obtain ⟨r, hr⟩ : ∃ r, r = mulV ⟨g1, xs, ys⟩ ⟨g2, xs', ys'⟩ := ⟨_, rfl⟩
  rw [← hr]
  have hr' : r = if chkV ⟨g1, xs, ys⟩ = 0 ∧ chkV ⟨g2, xs', ys'⟩ = 0 then mulQ (toQ ⟨g1, xs, ys⟩) (toQ ⟨g2, xs', ys'⟩) else (zeroV, 8) := hr
  have HR := Lib.hid hr'
  clear hr hr'
  obtain ⟨L1, L2, L3, L4⟩ := laid_four w #[.bool g1, .slice a n c, .slice b m d] #[.bool g2, .slice a' n' c', .slice b' m' d'] #[.bool false, .slice none 0 0, .slice none 0 0] #[.bool g1, .slice a n c, .slice b m d, .bool g2, .slice a' n' c', .slice b' m' d']
  have k0 := L1.cell 0 _ rfl
  have k1 := L1.cell 1 _ rfl
  have k2 := L1.cell 2 _ rfl
  have k3 := L2.cell 0 _ rfl
  have k4 := L2.cell 1 _ rfl
  have k5 := L2.cell 2 _ rfl
  have p0 := L4.cell 0 _ rfl
  have p1 := L4.cell 1 _ rfl
  have p2 := L4.cell 2 _ rfl
  have p3 := L4.cell 3 _ rfl
  have p4 := L4.cell 4 _ rfl
  have p5 := L4.cell 5 _ rfl
  go_enter Tryd.func6, Tryd.ntmps6
  go_wp2_with first | refine wpList_store_new rfl 49 _ _ rfl atPair _ _ _ rfl rfl rfl rfl (pair_one _ _ _ _ _ _ _ _ _ _ _ _ _ _) ?_
  have cc := does_product _ (mulQ (toQ ⟨g1, xs, ys⟩) (toQ ⟨g2, xs', ys'⟩)) (h1.below L4.below) (h2.below L4.below) (h3.below L4.below) (h4.below L4.below) (by
    intro c1 c2 w' hw
    obtain ⟨p, e1, f1⟩ := chkV_get (x := ⟨g1, xs, ys⟩) h1.bd h2.bd c1
    obtain ⟨q, e2, f2⟩ := chkV_get (x := ⟨g2, xs', ys'⟩) h3.bd h4.bd c2
    rw [e1, e2, toQ_ofQ, toQ_ofQ, ← prodV_eq]
    unfold ofQ at e1 e2
    injection e1 with e1 e3 e4
    injection e2 with e2 e5 e6
    subst e1 e3 e4 e2 e5 e6
    have hB := L4.below.trans (hw.mono L4.below.size)
    exact product_any w' _ _ (h1.below hB) (h2.below hB) (h3.below hB) (h4.below hB) f1.1 f1.2 f2.1 f2.2 p.den_nz q.den_nz)
  rw [← HR.out] at cc
  refine cc.mono ?_
  rintro e2 w3 ⟨ap, np, cp, aq, nq, cq, rfl, hp, hq, hb⟩
  clear cc
  have R3 := L3.later hb
  have row := R3.row
  have HB := Lib.hid (fun cs => below_row R3.below R3.lo cs)
  have fin := Lib.hid (fun cs => (⟨rd_rowset hp row (rat_noint _ _ _ _ _ _ _) cs, rd_rowset hq row (rat_noint _ _ _ _ _ _ _) cs⟩ : _ ∧ _))
  clear hb k0 k1 k2 k3 k4 k5 p0 p1 p2 p3 p4 p5
  go_wp2_with (refine wpList_store_whole rfl 24 _ _ rfl atRat _ _ _ row rfl rfl rfl rfl (rat_one _ _ _ _ _ _ _) ?_)
  refine bodyPost_ret (results_cell_two rfl _ _ _ _ _ _ _ rfl (setRow_heap _ _ _ _ _ _ row) Tryd.underlying24 rfl (by kernel_rfl) _ rfl) rfl ?_
  exact ⟨ap, np, cp, aq, nq, cq, rfl, (fin.out _).1, (fin.out _).2, HB.out _⟩

end Go.Proofs.YtdaajeklnhbhjaaDoor
