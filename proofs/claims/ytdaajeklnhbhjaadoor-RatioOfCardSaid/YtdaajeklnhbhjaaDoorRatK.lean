/- Rational numbers: size, Of, Whole, side. Printed by gen_ratk.py. -/
import Derived.Test.YtdaajeklnhbhjaaDoorRatD
import Derived.Deep.RegionHeld3
namespace Go.Proofs.YtdaajeklnhbhjaaDoor
open Go.RowKit Go.Suf
set_option linter.unusedVariables false
set_option linter.unusedSimpArgs false

set_option maxHeartbeats 1000000 in
theorem ratSize_any (w : World) (n : Int) (h1 : -9223372036854775808 ≤ n) (h2 : n < 9223372036854775808) :
    Calls Tryd.prog 11 #[.int .i64 n] w fun e w' => e = .returned (.int .u64 (n.natAbs : Nat)) ∧ w = w' := by
  obtain ⟨k, hk⟩ : ∃ k, k = n.natAbs := ⟨_, rfl⟩
  rw [← hk]
  by_cases h : n < 0
  · have d : decide (n < 0) = true := decide_eq_true h
    obtain ⟨u, hu⟩ : ∃ u, u = n + 1 := ⟨_, rfl⟩
    obtain ⟨v, hv⟩ : ∃ v, v = -u := ⟨_, rfl⟩
    have e1 : IntKind.i64.wrap (n + 1) = u := by rw [wrap_i64 (by omega) (by omega), hu]
    have e2 : IntKind.i64.wrap (-u) = v := by rw [wrap_i64 (by omega) (by omega), hv]
    have e3 : IntKind.u64.wrap v = v := wrap_u64 (by omega) (by omega)
    have e4 : IntKind.u64.wrap (v + 1) = (k : Int) := by rw [wrap_u64 (by omega) (by omega)]; omega
    clear hu hv hk
    go_enter Tryd.func11, Tryd.ntmps11
    go_wp2_with fail
    go_ret
    exact ⟨rfl, rfl⟩
  · have d : decide (n < 0) = false := decide_eq_false h
    have e3 : IntKind.u64.wrap n = (k : Int) := by rw [wrap_u64 (by omega) (by omega)]; omega
    clear hk
    go_enter Tryd.func11, Tryd.ntmps11
    go_wp2_with fail
    go_ret
    exact ⟨rfl, rfl⟩

set_option maxRecDepth 100000 in
set_option maxHeartbeats 1000000 in
theorem ratOf_any (w : World) (n d : Int) (h1 : -9223372036854775808 ≤ n) (h2 : n < 9223372036854775808) (h3 : -9223372036854775808 ≤ d) (h4 : d < 9223372036854775808) :
    Calls Tryd.prog 4 #[.int .i64 n, .int .i64 d] w (RetQE w (ofC n d)) := by
  obtain ⟨r, hr⟩ : ∃ r, r = ofC n d := ⟨_, rfl⟩
  rw [← hr]
  have R0 := Row.new w #[.bool false, .slice none 0 0, .slice none 0 0]
  by_cases hd : d = 0
  · have hres := Lib.hid (show r = (zeroV, 40) by rw [hr, ofC, if_pos hd])
    have row := R0.row
    subst hd
    clear hr
    go_enter Tryd.func4, Tryd.ntmps4
    go_wp2_with (refine wpList_store_whole rfl 24 _ _ rfl atRat _ _ _ row rfl rfl rfl rfl (rat_one _ _ _ _ _ _ _) ?_)
    refine bodyPost_ret (results_cell_two rfl _ _ _ _ _ _ _ rfl (setRow_heap _ _ _ _ _ _ row) Tryd.underlying24 rfl (by kernel_rfl) _ rfl) rfl ?_
    refine ⟨none, 0, 0, none, 0, 0, by rw [hres.out]; rfl, ?_, ?_, below_row R0.below R0.lo _⟩
    · rw [hres.out]; exact Rd.nil _ _
    · rw [hres.out]; exact Rd.nil _ _
  · obtain ⟨x, hx⟩ : ∃ x, x = ofQ ((n : Rat) / (d : Rat)) := ⟨_, rfl⟩
    have hres := Lib.hid (show r = (x, 0) by rw [hr, ofC, if_neg hd, hx])
    have HX := Lib.hid (show x = lowV (decide (n < 0) != decide (d < 0)) n.natAbs d.natAbs by rw [hx, of_low hd])
    have d0 : (d == 0) = false := by rw [beq_eq_false_iff_ne]; exact hd
    have l1 : n.natAbs < 18446744073709551616 := by omega
    have l2 : d.natAbs < 18446744073709551616 := by omega
    have hz := Lib.hid (show d.natAbs ≠ 0 by omega)
    have HN := Lib.hid (show -9223372036854775808 ≤ n ∧ n < 9223372036854775808 from ⟨h1, h2⟩)
    have HD := Lib.hid (show -9223372036854775808 ≤ d ∧ d < 9223372036854775808 from ⟨h3, h4⟩)
    obtain ⟨bn, hbn⟩ : ∃ bn, bn = decide (n < 0) := ⟨_, rfl⟩
    obtain ⟨bd, hbd⟩ : ∃ bd, bd = decide (d < 0) := ⟨_, rfl⟩
    have dn : decide (n < 0) = bn := hbn.symm
    have dd : decide (d < 0) = bd := hbd.symm
    rw [dn, dd] at HX
    clear hr hd hx h1 h2 h3 h4 hbn hbd
    go_enter Tryd.func4, Tryd.ntmps4
    go_wp2_with fail
    refine (ratSize_any _ n HN.out.1 HN.out.2).mono ?_
    rintro e1 w1 ⟨rfl, rfl⟩
    go_wp2_with fail
    refine (Of_any _ n.natAbs l1).mono ?_
    rintro e1 w1 ⟨ax, nx, cx, rfl, hx, hb⟩
    have R1 := R0.later hb
    clear hb
    go_wp2_with fail
    refine (ratSize_any _ d HD.out.1 HD.out.2).mono ?_
    rintro e1 w2 ⟨rfl, rfl⟩
    go_wp2_with fail
    refine (Of_any _ d.natAbs l2).mono ?_
    rintro e1 w2 ⟨ay, ny, cy, rfl, hy, hb⟩
    have R2 := R1.later hb
    have hx := hx.below hb
    clear hb
    go_wp2_with fail
    have cc := lowest_any _ (bn != bd) hx hy (lt_pw96 l1) (lt_pw96 l2) hz.out
    rw [← HX.out] at cc
    refine cc.mono ?_
    rintro e2 w3 ⟨ap, np, cp, aq, nq, cq, rfl, hp, hq, hb⟩
    clear cc
    have R3 := R2.later hb
    have row := R3.row
    have HB := Lib.hid (fun cs => below_row R3.below R3.lo cs)
    have fin := Lib.hid (fun cs => (⟨rd_rowset hp row (rat_noint _ _ _ _ _ _ _) cs, rd_rowset hq row (rat_noint _ _ _ _ _ _ _) cs⟩ : _ ∧ _))
    clear hb hx hy
    go_wp2_with (refine wpList_store_whole rfl 24 _ _ rfl atRat _ _ _ row rfl rfl rfl rfl (rat_one _ _ _ _ _ _ _) ?_)
    refine bodyPost_ret (results_cell_two rfl _ _ _ _ _ _ _ rfl (setRow_heap _ _ _ _ _ _ row) Tryd.underlying24 rfl (by kernel_rfl) _ rfl) rfl ?_
    refine ⟨ap, np, cp, aq, nq, cq, by rw [hres.out]; rfl, ?_, ?_, HB.out _⟩
    · rw [hres.out]; exact (fin.out _).1
    · rw [hres.out]; exact (fin.out _).2

theorem ofC_whole (n : Int) : (ofC n 1).1 = ⟨decide (n < 0), limbs n.natAbs, limbs 1⟩ := by
  rw [ofC, if_neg (by decide)]
  show ofQ ((n : Rat) / ((1 : Int) : Rat)) = _
  rw [← of_low (by decide), show decide ((1 : Int) < 0) = false from rfl]
  unfold lowV
  simp only [Int.natAbs_one, Nat.gcd_one_right, Nat.div_one]
  have e : ((decide (n < 0) != false) && decide (0 < n.natAbs)) = decide (n < 0) := by
    by_cases h : n < 0
    · have h2 : 0 < n.natAbs := by omega
      simp [h, h2]
    · simp [h]
  rw [e]

set_option maxRecDepth 100000 in
set_option maxHeartbeats 1000000 in
theorem whole_any (w : World) (n : Int) (h1 : -9223372036854775808 ≤ n) (h2 : n < 9223372036854775808) :
    Calls Tryd.prog 22 #[.int .i64 n] w (RetQ w (ofC n 1).1) := by
  obtain ⟨r, hr⟩ : ∃ r, r = (ofC n 1).1 := ⟨_, rfl⟩
  rw [← hr]
  obtain ⟨bn, hbn⟩ : ∃ bn, bn = decide (n < 0) := ⟨_, rfl⟩
  have hres := Lib.hid (show r = ⟨bn, limbs n.natAbs, limbs 1⟩ by rw [hr, ofC_whole, hbn])
  have dn : decide (n < 0) = bn := hbn.symm
  have R0 := Row.new w #[.bool false, .slice none 0 0, .slice none 0 0]
  have HN := Lib.hid (show -9223372036854775808 ≤ n ∧ n < 9223372036854775808 from ⟨h1, h2⟩)
  have l1 : n.natAbs < 18446744073709551616 := by omega
  clear hr hbn h1 h2
  go_enter Tryd.func22, Tryd.ntmps22
  go_wp2_with fail
  refine (ratSize_any _ n HN.out.1 HN.out.2).mono ?_
  rintro e1 w1 ⟨rfl, rfl⟩
  go_wp2_with fail
  refine (Of_any _ n.natAbs l1).mono ?_
  rintro e1 w1 ⟨ax, nx, cx, rfl, hx, hb⟩
  have R1 := R0.later hb
  clear hb
  go_wp2_with fail
  refine (ratOne_any _).mono ?_
  rintro e1 w2 ⟨rfl, rfl⟩
  have hA := below_al w1 (.cells #[.int .u32 1] 47)
  have R2 := R1.later hA
  have hx := hx.below hA
  have hy := lit_one w1
  have row := R2.row
  have HB := Lib.hid (fun cs => below_row R2.below R2.lo cs)
  have fin := Lib.hid (fun cs => (⟨rd_rowset hx row (rat_noint _ _ _ _ _ _ _) cs, rd_rowset hy row (rat_noint _ _ _ _ _ _ _) cs⟩ : _ ∧ _))
  clear hA hx hy
  go_wp2_with (refine wpList_store_whole rfl 24 _ _ rfl atRat _ _ _ row rfl rfl rfl rfl (rat_one _ _ _ _ _ _ _) ?_)
  refine bodyPost_ret (results_cell_row rfl _ _ _ _ _ _ _ rfl (setRow_heap _ _ _ _ _ _ row) Tryd.underlying24 rfl (by kernel_rfl)) rfl ?_
  refine ⟨_, _, _, _, _, _, by rw [hres.out], ?_, ?_, HB.out _⟩
  · rw [hres.out]; exact (fin.out _).1
  · rw [hres.out]; exact (fin.out _).2

set_option maxHeartbeats 1000000 in
theorem ratSide_any (w : World) {neg : Bool} {a b : Option Addr} {n m c d : Nat} {xs ys : List Nat} (h : Rd .u32 w a n c xs) (h' : Rd .u32 w b m d ys) :
    Calls Tryd.prog 41 #[ratV neg a n c b m d] w (RetIB w (sideV ⟨neg, xs, ys⟩)) := by
  have B0 := Box.new w neg a n c b m d
  have c0 := B0.at0
  have c1 := B0.at1
  obtain ⟨r, hr⟩ : ∃ r, r = sideV ⟨neg, xs, ys⟩ := ⟨_, rfl⟩
  rw [← hr]
  have hn := h.len
  by_cases h0 : n = 0
  · have e := Lib.hid (show r = 0 by rw [hr, sideV, if_pos (by rw [hn]; exact h0)])
    subst h0
    clear hr hn
    go_enter Tryd.func41, Tryd.ntmps41
    go_wp2_with fail
    go_ret
    exact ⟨by rw [e.out]; rfl, B0.below⟩
  · have hn0 : ((n : Int) == 0) = false := by rw [beq_eq_false_iff_ne]; omega
    have e := Lib.hid (show r = if neg = true then -1 else 1 by rw [hr, sideV, if_neg (by rw [hn]; exact h0)])
    clear hr hn h0
    cases neg
    all_goals
      go_enter Tryd.func41, Tryd.ntmps41
      go_wp2_with fail
      go_ret
      exact ⟨by rw [e.out]; rfl, B0.below⟩

end Go.Proofs.YtdaajeklnhbhjaaDoor
/- Rational numbers in the document's answer: both, Long, Cmp. -/
namespace Go.Proofs.YtdaajeklnhbhjaaDoor
open Go.RowKit Go.Suf
set_option linter.unusedVariables false
set_option linter.unusedSimpArgs false

def bothOk (x y : QV) : Bool := decide (chkV x = 0 ∧ chkV y = 0)

/-- Whether a number is too long for the answer. -/
def longV (x : QV) : Bool := longB x.num || longB x.den || decide (200 < x.num.length) || decide (200 < x.den.length)

end Go.Proofs.YtdaajeklnhbhjaaDoor
/- Cmp in the document's answer. -/
namespace Go.Proofs.YtdaajeklnhbhjaaDoor
open Go.RowKit Go.Suf
set_option linter.unusedVariables false
set_option linter.unusedSimpArgs false

def RetIEB (w : World) (r : Int × Int) : Ending → World → Prop := fun e w' => e = .returned (.tuple #[.int .i64 r.1, .int .i64 r.2]) ∧ Below w.heap.size w w'

theorem keep_two {w1 w2 w3 : World} {x y : Nat} {u0 u1 u2 v0 v1 v2 : Value} (h : Below w1.heap.size w1 w2 ∧ w2.cell? ⟨x, 0, none⟩ = some u0 ∧ w2.cell? ⟨x, 1, none⟩ = some u1 ∧ w2.cell? ⟨x, 2, none⟩ = some u2 ∧ w2.cell? ⟨y, 0, none⟩ = some v0 ∧ w2.cell? ⟨y, 1, none⟩ = some v1 ∧ w2.cell? ⟨y, 2, none⟩ = some v2)
    (hb : Below w2.heap.size w2 w3) (hx : x < w1.heap.size) (hy : y < w1.heap.size) : Below w1.heap.size w1 w3 ∧ w3.cell? ⟨x, 0, none⟩ = some u0 ∧ w3.cell? ⟨x, 1, none⟩ = some u1 ∧ w3.cell? ⟨x, 2, none⟩ = some u2 ∧ w3.cell? ⟨y, 0, none⟩ = some v0 ∧ w3.cell? ⟨y, 1, none⟩ = some v1 ∧ w3.cell? ⟨y, 2, none⟩ = some v2 := by
  obtain ⟨h0, h1, h2, h3, h4, h5, h6⟩ := h
  have := h0.size
  exact ⟨h0.trans (hb.mono h0.size), cell_later hb h1 (by omega), cell_later hb h2 (by omega), cell_later hb h3 (by omega), cell_later hb h4 (by omega), cell_later hb h5 (by omega), cell_later hb h6 (by omega)⟩

theorem two_drew {w1 w2 : World} {x y : Nat} {u0 u1 u2 v0 v1 v2 : Value} (h : Below w1.heap.size w1 w2 ∧ w2.cell? ⟨x, 0, none⟩ = some u0 ∧ w2.cell? ⟨x, 1, none⟩ = some u1 ∧ w2.cell? ⟨x, 2, none⟩ = some u2 ∧ w2.cell? ⟨y, 0, none⟩ = some v0 ∧ w2.cell? ⟨y, 1, none⟩ = some v1 ∧ w2.cell? ⟨y, 2, none⟩ = some v2) :
    Below w1.heap.size w1 w2.drew ∧ w2.drew.cell? ⟨x, 0, none⟩ = some u0 ∧ w2.drew.cell? ⟨x, 1, none⟩ = some u1 ∧ w2.drew.cell? ⟨x, 2, none⟩ = some u2 ∧ w2.drew.cell? ⟨y, 0, none⟩ = some v0 ∧ w2.drew.cell? ⟨y, 1, none⟩ = some v1 ∧ w2.drew.cell? ⟨y, 2, none⟩ = some v2 := by
  obtain ⟨h0, h1, h2, h3, h4, h5, h6⟩ := h
  simp only [World.cell?_drew]
  exact ⟨h0.drew, h1, h2, h3, h4, h5, h6⟩

/-- The four ways of a comparison of valid numbers. -/
theorem cmp_ways (p q : Rat) : (sideQ p < sideQ q ∧ cmpQ p q = (-1, 0)) ∨ (sideQ q < sideQ p ∧ cmpQ p q = (1, 0)) ∨ (sideQ p = 0 ∧ sideQ q = 0 ∧ cmpQ p q = (0, 0)) ∨ (sideQ p = sideQ q ∧ sideQ p ≠ 0) := by
  rcases sideQ_three p with hp | hp | hp <;> rcases sideQ_three q with hq | hq | hq
  · exact .inr (.inr (.inr ⟨by rw [hp, hq], by rw [hp]; decide⟩))
  · refine .inl ⟨by rw [hp, hq]; decide, ?_⟩
    rw [cmpQ, if_neg (by rw [hp, hq]; simp), cmpR_side (.inl (by rw [hp, hq]; decide)), hp, hq]; rfl
  · refine .inl ⟨by rw [hp, hq]; decide, ?_⟩
    rw [cmpQ, if_neg (by rw [hp, hq]; simp), cmpR_side (.inl (by rw [hp, hq]; decide)), hp, hq]; rfl
  · refine .inr (.inl ⟨by rw [hp, hq]; decide, ?_⟩)
    rw [cmpQ, if_neg (by rw [hp, hq]; simp), cmpR_side (.inl (by rw [hp, hq]; decide)), hp, hq]; rfl
  · refine .inr (.inr (.inl ⟨hp, hq, ?_⟩))
    rw [cmpQ, if_neg (by rw [hp]; simp), cmpR_side (.inr hp), hp, hq]; rfl
  · refine .inl ⟨by rw [hp, hq]; decide, ?_⟩
    rw [cmpQ, if_neg (by rw [hp, hq]; simp), cmpR_side (.inl (by rw [hp, hq]; decide)), hp, hq]; rfl
  · refine .inr (.inl ⟨by rw [hp, hq]; decide, ?_⟩)
    rw [cmpQ, if_neg (by rw [hp, hq]; simp), cmpR_side (.inl (by rw [hp, hq]; decide)), hp, hq]; rfl
  · refine .inr (.inl ⟨by rw [hp, hq]; decide, ?_⟩)
    rw [cmpQ, if_neg (by rw [hp, hq]; simp), cmpR_side (.inl (by rw [hp, hq]; decide)), hp, hq]; rfl
  · exact .inr (.inr (.inr ⟨by rw [hp, hq], by rw [hp]; decide⟩))

theorem cmp_far {p q : Rat} (h : sideQ p = sideQ q ∧ sideQ p ≠ 0) (hf : ¬ (p.num.natAbs * q.den < pw 96 ∧ q.num.natAbs * p.den < pw 96)) : cmpQ p q = (0, 30) := by
  rw [cmpQ, if_pos ⟨h.1, h.2, hf⟩]

theorem cmp_near {p q : Rat} (h : sideQ p = sideQ q) (hf : p.num.natAbs * q.den < pw 96 ∧ q.num.natAbs * p.den < pw 96) : cmpQ p q = (sideQ p * cmpN (p.num.natAbs * q.den) (q.num.natAbs * p.den), 0) := by
  rw [cmpQ, if_neg (fun h => h.2.2 hf), cmpR_cross h]

theorem side_wrap {s c : Int} (h : s = -1 ∨ s = 0 ∨ s = 1) (h2 : c = -1 ∨ c = 0 ∨ c = 1) : wrap64 (s * c) = s * c := by
  rcases h with rfl | rfl | rfl <;> rcases h2 with rfl | rfl | rfl <;> simp [wrap64]

theorem cmpN_three (a b : Nat) : cmpN a b = -1 ∨ cmpN a b = 0 ∨ cmpN a b = 1 := by
  unfold cmpN
  split
  · simp
  · split <;> simp

end Go.Proofs.YtdaajeklnhbhjaaDoor
/- Rows of any type, and writing to them. No condition. Printed by gen_prow.py. -/
namespace Go.Proofs.YtdaajeklnhbhjaaDoor
open Go.RowKit Go.Suf
set_option linter.unusedVariables false
set_option linter.unusedSimpArgs false

/-- The block k, laid since w, holds the cells of a value of type t. -/
structure PRow (t : TypeId) (w w1 : World) (k : Nat) (cs : Array Value) : Prop where
  below : Below w.heap.size w w1
  row : w1.heap[k]? = some (.cells cs t (0, 0))
  lo : w.heap.size ≤ k
  lt : k < w1.heap.size

theorem PRow.new (t : TypeId) (w : World) (cs : Array Value) : PRow t w (w.alloc (.cells cs t)) w.heap.size cs :=
  ⟨(Below.refl _ _).alloc (Nat.le_refl _) _, heap_alloc_new w _, Nat.le_refl _, by rw [World.size_alloc]; omega⟩

theorem PRow.later {t : TypeId} {w w1 w2 : World} {k : Nat} {cs : Array Value} (h : PRow t w w1 k cs) (hb : Below w1.heap.size w1 w2) : PRow t w w2 k cs :=
  ⟨h.below.trans (hb.mono h.below.size), by rw [hb.block k h.lt]; exact h.row, h.lo, Nat.lt_of_lt_of_le h.lt hb.size⟩

theorem PRow.cell {t : TypeId} {w w1 : World} {k : Nat} {cs : Array Value} (h : PRow t w w1 k cs) (i : Nat) (v : Value) (hv : cs[i]? = some v) : w1.cell? ⟨k, i, none⟩ = some v := by
  simp only [World.cell?, h.row, hv]
  rfl

theorem PRow.set {t : TypeId} {w w1 : World} {k : Nat} {cs : Array Value} (h : PRow t w w1 k cs) (i : Nat) (v : Value) : PRow t w (w1.setCell ⟨k, i, none⟩ v) k (cs.setIfInBounds i v) :=
  ⟨h.below.setCell h.lo v, heap_setCell_same w1 k i cs t v h.row, h.lo, by have := h.lt; simpa [World.setCell] using this⟩

theorem PRow.other {t : TypeId} {w w1 : World} {k : Nat} {cs : Array Value} (h : PRow t w w1 k cs) {p : Addr} (hp : k ≠ p.block) (hl : w.heap.size ≤ p.block) (v : Value) : PRow t w (w1.setCell p v) k cs :=
  ⟨h.below.setCell hl v, by rw [Below.heap_setCell _ _ _ _ hp]; exact h.row, h.lo, by have := h.lt; simpa [World.setCell] using this⟩

theorem PRow.free {t : TypeId} {w w1 : World} {k : Nat} {cs : Array Value} (h : PRow t w w1 k cs) (i : Nat) : w1.frozen? ⟨k, i, none⟩ = false := frozen_of_row w1 k i _ t h.row

/-- What reads as numbers reads on where a cell of a state is stored. -/
theorem rd_setcell {w : World} {a : Option Addr} {n c k i : Nat} {xs : List Nat} (h : Rd .u32 w a n c xs) {cs : Array Value} {t : TypeId} {f : Nat × Nat} (hr : w.heap[k]? = some (.cells cs t f)) (hno : ∀ (i : Nat) (z : Int), cs[i]? ≠ some (.int .u32 z)) (v : Value) :
    Rd .u32 (w.setCell ⟨k, i, none⟩ v) a n c xs := by
  refine ⟨h.len, ⟨h.sl.le, h.sl.max, h.sl.nil, fun j u hv => ?_, h.sl.one⟩, h.bd⟩
  obtain ⟨b, off, e, hw⟩ := h.sl.cell j u hv
  refine ⟨b, off, e, ?_⟩
  by_cases hk : b = k
  · exfalso
    subst hk
    have hi : j < n := by
      have := h.len
      have h2 : j < (nums .u32 xs).length := by
        rcases Nat.lt_or_ge j (nums .u32 xs).length with h3 | h3
        · exact h3
        · rw [List.getElem?_eq_none h3] at hv
          simp at hv
      simp [nums] at h2
      omega
    obtain ⟨b', off', e', hw', _⟩ := h.cell j hi
    rw [e] at e'
    obtain ⟨rfl, rfl⟩ : b = b' ∧ off = off' := by
      injection e' with e'
      injection e' with e1 e2
      exact ⟨e1, e2⟩
    simp only [World.cell?, hr] at hw'
    exact hno _ _ hw'
  · rw [← hw]
    simp only [World.cell?, Below.heap_setCell _ _ _ _ (show b ≠ (⟨k, i, none⟩ : Addr).block from hk)]

theorem PRow.rebase {t : TypeId} {w1 w2 w3 : World} {k : Nat} {cs : Array Value} (h : PRow t w2 w3 k cs) (hb : Below w1.heap.size w1 w3) (hl : w1.heap.size ≤ w2.heap.size) : PRow t w1 w3 k cs :=
  ⟨hb, h.row, Nat.le_trans hl h.lo, h.lt⟩

theorem PRow.put {t : TypeId} {w w1 : World} {k : Nat} {cs : Array Value} (h : PRow t w w1 k cs) (cs' : Array Value) : PRow t w (w1.setRow k cs') k cs' :=
  ⟨below_row h.below h.lo _, setRow_heap _ _ _ _ _ _ h.row, h.lo, by rw [setRow_size]; exact h.lt⟩

theorem op_store_whole {P : Program} {o : Oper} {a : Act} {w : World} {K : Act → World → Prop} {Q : Exit → Act → World → Prop} (t : TypeId) (x y : Operand) (ho : o.op = .store t x y) {m : Nat} (A : AT P t m)
    {b : Nat} (cur vs : Array Value) (e : TypeId) (hg : w.heap[b]? = some (.cells cur e (0, 0))) (hx : a.eval x = .pointer (some ⟨b, 0, none⟩)) (hy : a.eval y = .agg vs) (hm : vs.size = m) (hcur : cur.size = m) (h1 : ∀ u ∈ vs.toList, u.oneCell' = true)
    (h : K (a.put o.dst undef) (w.setRow b vs)) : o.wp P a w K Q := by
  have hst := run_storeCells_at P b 0 e vs.toList 0 cur w hg (by simp; omega) h1
  simp only [Nat.add_zero, List.take_zero, List.nil_append, Array.length_toList] at hst
  rw [List.drop_eq_nil_of_le (by simp; omega), List.append_nil, Array.toArray_toList] at hst
  unfold Oper.wp execOp
  simp only [ho, hx, hy, Instr.storeAt, Instr.sureAddr, Sem.run_bind, Sem.run_pure, Result.andThen_ok, storeVar, A.sizeOf, Value.cells, hm]
  simp only [ne_eq, not_true_eq_false, if_false, hst]
  exact h

theorem cell_row {w : World} {k i g : Nat} {v : Value} {cs : Array Value} (h : w.cell? ⟨k, i, none⟩ = some v) (hne : k ≠ g) : (w.setRow g cs).cell? ⟨k, i, none⟩ = some v := by
  simp only [World.cell?, setRow_other _ _ _ _ hne] at *
  exact h

end Go.Proofs.YtdaajeklnhbhjaaDoor
