/- Rational numbers: sum, difference, Add, Sub. No condition. Printed by gen_ratp.py. -/
import Derived.Test.YtdaajeklnhbhjaaDoorRatO
import Derived.Test.YtdaajeklnhbhjaaDoorRatL
namespace Go.Proofs.YtdaajeklnhbhjaaDoor
open Go.RowKit Go.Suf
set_option linter.unusedVariables false
set_option linter.unusedSimpArgs false

/-- The sum of two pairs of numbers. -/
def sumV (g1 g2 : Bool) (N1 D1 N2 D2 : Nat) : QV × Int :=
  if N1 * D2 < pw 96 ∧ N2 * D1 < pw 96 ∧ D1 * D2 < pw 96 then
    (if g1 = g2 then (if N1 * D2 + N2 * D1 < pw 96 then (lowV g1 (N1 * D2 + N2 * D1) (D1 * D2), 0) else (zeroV, 30))
     else if N1 * D2 < N2 * D1 then (lowV g2 (N2 * D1 - N1 * D2) (D1 * D2), 0) else (lowV g1 (N1 * D2 - N2 * D1) (D1 * D2), 0))
  else (zeroV, 30)

theorem sumV_eq (p q : Rat) : sumV (decide (p.num < 0)) (decide (q.num < 0)) p.num.natAbs p.den q.num.natAbs q.den = addQ p q := by
  unfold sumV addQ
  by_cases h1 : p.num.natAbs * q.den < pw 96
  · by_cases h2 : q.num.natAbs * p.den < pw 96
    · by_cases h3 : p.den * q.den < pw 96
      · rw [if_pos ⟨h1, h2, h3⟩]
        by_cases hs : decide (p.num < 0) = decide (q.num < 0)
        · rw [if_pos hs]
          by_cases h4 : p.num.natAbs * q.den + q.num.natAbs * p.den < pw 96
          · rw [if_pos h4, if_pos ⟨h1, h2, h3, fun _ => h4⟩, add_same hs]
          · rw [if_neg h4, if_neg (fun h => h4 (h.2.2.2 hs))]
        · have hall : p.num.natAbs * q.den < pw 96 ∧ q.num.natAbs * p.den < pw 96 ∧ p.den * q.den < pw 96 ∧ (decide (p.num < 0) = decide (q.num < 0) → p.num.natAbs * q.den + q.num.natAbs * p.den < pw 96) := ⟨h1, h2, h3, fun h => absurd h hs⟩
          rw [if_neg hs, if_pos hall]
          by_cases h5 : p.num.natAbs * q.den < q.num.natAbs * p.den
          · rw [if_pos h5, add_less hs (Nat.le_of_lt h5)]
          · rw [if_neg h5, add_more hs (Nat.le_of_not_lt h5)]
      · rw [if_neg (fun h => h3 h.2.2), if_neg (fun h => h3 h.2.2.1)]
    · rw [if_neg (fun h => h2 h.2.1), if_neg (fun h => h2 h.2.1)]
  · rw [if_neg (fun h => h1 h.1), if_neg (fun h => h1 h.1)]

set_option maxRecDepth 100000 in
set_option maxHeartbeats 4000000 in
theorem sum_any (w : World) (g1 g2 : Bool) {a b a' b' : Option Addr} {n m c d n' m' c' d' : Nat} {N1 D1 N2 D2 : Nat}
    (h1 : Rd .u32 w a n c (limbs N1)) (h2 : Rd .u32 w b m d (limbs D1)) (h3 : Rd .u32 w a' n' c' (limbs N2)) (h4 : Rd .u32 w b' m' d' (limbs D2))
    (l1 : N1 < pw 96) (l2 : D1 < pw 96) (l3 : N2 < pw 96) (l4 : D2 < pw 96) (z1 : D1 ≠ 0) (z2 : D2 ≠ 0) :
    Calls Tryd.prog 32 #[pairV g1 a n c b m d g2 a' n' c' b' m' d'] w (RetQE w (sumV g1 g2 N1 D1 N2 D2)) := by
  obtain ⟨r, hr⟩ : ∃ r, r = sumV g1 g2 N1 D1 N2 D2 := ⟨_, rfl⟩
  rw [← hr]
  have H0 := Has.new w #[.bool g1, .slice a n c, .slice b m d, .bool g2, .slice a' n' c', .slice b' m' d'] 49
  have R0 := Row.second w (.cells #[.bool g1, .slice a n c, .slice b m d, .bool g2, .slice a' n' c', .slice b' m' d'] 49) #[.bool false, .slice none 0 0, .slice none 0 0]
  have H1 := H0.later R0.below
  have r1 := h1.below H1.below
  have r2 := h2.below H1.below
  have r3 := h3.below H1.below
  have r4 := h4.below H1.below
  have k0 := H1.cell 0 _ rfl
  have k1 := H1.cell 1 _ rfl
  have k2 := H1.cell 2 _ rfl
  have k3 := H1.cell 3 _ rfl
  have k4 := H1.cell 4 _ rfl
  have k5 := H1.cell 5 _ rfl
  have hz := Lib.hid (Nat.mul_ne_zero z1 z2)
  by_cases e1 : N1 * D2 < pw 96
  case neg =>
    have hres := Lib.hid (show r = (zeroV, 30) by rw [hr, sumV, if_neg (fun h => e1 h.1)])
    have CV := Lib.hid (show crossV (N1 * D2) (N2 * D1) = ([], [], 30) by rw [crossV, if_neg e1])
    clear hr e1 z1 z2
    go_enter Tryd.func32, Tryd.ntmps32
    go_wp2_with fail
    have cc := crossed_any _ g1 g2 r1 r2 r3 r4 l1 l2 l3 l4
    rw [CV.out] at cc
    refine cc.mono ?_
    rintro e2 w1 ⟨ax, nx, cx, ay, ny, cy, rfl, hx, hy, hb⟩
    clear cc
    have R1 := R0.later hb
    have H2 := H1.later hb
    have r2 := r2.below hb
    have r4 := r4.below hb
    have k2 := H2.cell 2 _ rfl
    have k5 := H2.cell 5 _ rfl
    clear hb k0 k1 k3 k4 r1 r3
    have row := R1.row
    have x0 := R1.cell 0 _ rfl
    have x1 := R1.cell 1 _ rfl
    have x2 := R1.cell 2 _ rfl
    go_wp2_with first | refine wpList_store_whole rfl 24 _ _ rfl atRat _ _ _ row rfl rfl rfl rfl (rat_one _ _ _ _ _ _ _) ?_
    refine bodyPost_ret (results_cell_two rfl _ _ _ _ _ _ _ rfl (setRow_heap _ _ _ _ _ _ row) Tryd.underlying24 rfl (by kernel_rfl) _ rfl) rfl ?_
    refine ⟨none, 0, 0, none, 0, 0, by rw [hres.out]; rfl, ?_, ?_, H0.below.trans ((below_row R1.below R1.lo _).mono (by rw [World.size_alloc]; omega))⟩
    · rw [hres.out]; exact Rd.nil _ _
    · rw [hres.out]; exact Rd.nil _ _

  by_cases e2 : N2 * D1 < pw 96
  case neg =>
    have hres := Lib.hid (show r = (zeroV, 30) by rw [hr, sumV, if_neg (fun h => e2 h.2.1)])
    have CV := Lib.hid (show crossV (N1 * D2) (N2 * D1) = (limbs (N1 * D2), [], 30) by rw [crossV, if_pos e1, if_neg e2])
    clear hr e1 e2 z1 z2
    go_enter Tryd.func32, Tryd.ntmps32
    go_wp2_with fail
    have cc := crossed_any _ g1 g2 r1 r2 r3 r4 l1 l2 l3 l4
    rw [CV.out] at cc
    refine cc.mono ?_
    rintro e2 w1 ⟨ax, nx, cx, ay, ny, cy, rfl, hx, hy, hb⟩
    clear cc
    have R1 := R0.later hb
    have H2 := H1.later hb
    have r2 := r2.below hb
    have r4 := r4.below hb
    have k2 := H2.cell 2 _ rfl
    have k5 := H2.cell 5 _ rfl
    clear hb k0 k1 k3 k4 r1 r3
    have row := R1.row
    have x0 := R1.cell 0 _ rfl
    have x1 := R1.cell 1 _ rfl
    have x2 := R1.cell 2 _ rfl
    go_wp2_with first | refine wpList_store_whole rfl 24 _ _ rfl atRat _ _ _ row rfl rfl rfl rfl (rat_one _ _ _ _ _ _ _) ?_
    refine bodyPost_ret (results_cell_two rfl _ _ _ _ _ _ _ rfl (setRow_heap _ _ _ _ _ _ row) Tryd.underlying24 rfl (by kernel_rfl) _ rfl) rfl ?_
    refine ⟨none, 0, 0, none, 0, 0, by rw [hres.out]; rfl, ?_, ?_, H0.below.trans ((below_row R1.below R1.lo _).mono (by rw [World.size_alloc]; omega))⟩
    · rw [hres.out]; exact Rd.nil _ _
    · rw [hres.out]; exact Rd.nil _ _

  have CV := Lib.hid (show crossV (N1 * D2) (N2 * D1) = (limbs (N1 * D2), limbs (N2 * D1), 0) by rw [crossV, if_pos e1, if_pos e2])
  by_cases e3 : D1 * D2 < pw 96
  case neg =>
    have hres := Lib.hid (show r = (zeroV, 30) by rw [hr, sumV, if_neg (fun h => e3 h.2.2)])
    have E3 := Lib.hid e3
    clear hr e1 e2 e3 z1 z2
    go_enter Tryd.func32, Tryd.ntmps32
    go_wp2_with fail
    have cc := crossed_any _ g1 g2 r1 r2 r3 r4 l1 l2 l3 l4
    rw [CV.out] at cc
    refine cc.mono ?_
    rintro e2 w1 ⟨ax, nx, cx, ay, ny, cy, rfl, hx, hy, hb⟩
    clear cc
    have R1 := R0.later hb
    have H2 := H1.later hb
    have r2 := r2.below hb
    have r4 := r4.below hb
    have k2 := H2.cell 2 _ rfl
    have k5 := H2.cell 5 _ rfl
    clear hb k0 k1 k3 k4 r1 r3
    go_wp2_with fail
    have cc := Mul_any _ r2 r4
    rw [mul_limbs l2 l4, fit_great E3.out] at cc
    refine cc.mono ?_
    rintro e2 w2 ⟨ad, nd, cd, rfl, hd, hb⟩
    clear cc
    have R2 := R1.later hb
    have H3 := H2.later hb
    have hx := hx.below hb
    have hy := hy.below hb
    clear hb k2 k5 r2 r4
    have row := R2.row
    have x0 := R2.cell 0 _ rfl
    have x1 := R2.cell 1 _ rfl
    have x2 := R2.cell 2 _ rfl
    go_wp2_with first | refine wpList_store_whole rfl 24 _ _ rfl atRat _ _ _ row rfl rfl rfl rfl (rat_one _ _ _ _ _ _ _) ?_
    refine bodyPost_ret (results_cell_two rfl _ _ _ _ _ _ _ rfl (setRow_heap _ _ _ _ _ _ row) Tryd.underlying24 rfl (by kernel_rfl) _ rfl) rfl ?_
    refine ⟨none, 0, 0, none, 0, 0, by rw [hres.out]; rfl, ?_, ?_, H0.below.trans ((below_row R2.below R2.lo _).mono (by rw [World.size_alloc]; omega))⟩
    · rw [hres.out]; exact Rd.nil _ _
    · rw [hres.out]; exact Rd.nil _ _

  have E1 := Lib.hid e1
  have E2 := Lib.hid e2
  have E3 := Lib.hid e3
  obtain ⟨s, hs⟩ : ∃ s, s = cmpN (N1 * D2) (N2 * D1) := ⟨_, rfl⟩
  have CM := Lib.hid (show cmpC (limbs (N1 * D2)) (limbs (N2 * D1)) = (s, 0) by rw [cmp_ok e1 e2, hs])
  by_cases hg : g1 = g2
  case pos =>
    have dg : (g1 == g2) = true := by rw [hg]; exact beq_self_eq_true _
    have HG := Lib.hid hg
    by_cases e4 : N1 * D2 + N2 * D1 < pw 96
    case neg =>
      have hres := Lib.hid (show r = (zeroV, 30) by rw [hr, sumV, if_pos ⟨e1, e2, e3⟩, if_pos hg, if_neg e4])
      have E4 := Lib.hid e4
      clear hr e1 e2 e3 e4 z1 z2 hs hg
      go_enter Tryd.func32, Tryd.ntmps32
      go_wp2_with fail
      have cc := crossed_any _ g1 g2 r1 r2 r3 r4 l1 l2 l3 l4
      rw [CV.out] at cc
      refine cc.mono ?_
      rintro e2 w1 ⟨ax, nx, cx, ay, ny, cy, rfl, hx, hy, hb⟩
      clear cc
      have R1 := R0.later hb
      have H2 := H1.later hb
      have r2 := r2.below hb
      have r4 := r4.below hb
      have k2 := H2.cell 2 _ rfl
      have k5 := H2.cell 5 _ rfl
      clear hb k0 k1 k3 k4 r1 r3
      go_wp2_with fail
      have cc := Mul_any _ r2 r4
      rw [mul_limbs l2 l4, fit_limbs E3.out] at cc
      refine cc.mono ?_
      rintro e2 w2 ⟨ad, nd, cd, rfl, hd, hb⟩
      clear cc
      have R2 := R1.later hb
      have H3 := H2.later hb
      have hx := hx.below hb
      have hy := hy.below hb
      clear hb k2 k5 r2 r4
      go_wp2_with fail
      have cc := Cmp_any _ hx hy
      rw [CM.out] at cc
      refine cc.mono ?_
      rintro e2 w3 ⟨rfl, nq, rfl⟩
      clear cc
      have hb := below_drewN (Below.refl w2.heap.size w2) nq
      have R3 := R2.later hb
      have H4 := H3.later hb
      have hx := hx.below hb
      have hy := hy.below hb
      have hd := hd.below hb
      clear hb
      generalize w2.drewN nq = w3 at *
      have hb := below_al w3 (.cells #[] 47)
      have R4 := R3.later hb
      have H5 := H4.later hb
      have hx := hx.below hb
      have hy := hy.below hb
      have hd := hd.below hb
      have k0 := H4.cell 0 _ rfl
      have j0 := H5.cell 0 _ rfl
      have j3 := H5.cell 3 _ rfl
      clear hb
      go_wp2_with fail
      have cc := Add_any _ hx hy
      rw [add_limbs E1.out E2.out, fit_great E4.out] at cc
      refine cc.mono ?_
      rintro e2 w5 ⟨an, nn, cn, rfl, hn, hb⟩
      clear cc
      have R5 := R4.later hb
      have hd := hd.below hb
      clear hb k0 j0 j3
      have row := R5.row
      have x0 := R5.cell 0 _ rfl
      have x1 := R5.cell 1 _ rfl
      have x2 := R5.cell 2 _ rfl
      go_wp2_with first | refine wpList_store_whole rfl 24 _ _ rfl atRat _ _ _ row rfl rfl rfl rfl (rat_one _ _ _ _ _ _ _) ?_
      refine bodyPost_ret (results_cell_two rfl _ _ _ _ _ _ _ rfl (setRow_heap _ _ _ _ _ _ row) Tryd.underlying24 rfl (by kernel_rfl) _ rfl) rfl ?_
      refine ⟨none, 0, 0, none, 0, 0, by rw [hres.out]; rfl, ?_, ?_, H0.below.trans ((below_row R5.below R5.lo _).mono (by rw [World.size_alloc]; omega))⟩
      · rw [hres.out]; exact Rd.nil _ _
      · rw [hres.out]; exact Rd.nil _ _

    have E4 := Lib.hid e4
    obtain ⟨x, hx⟩ : ∃ x, x = lowV g1 (N1 * D2 + N2 * D1) (D1 * D2) := ⟨_, rfl⟩
    have hres := Lib.hid (show r = (x, 0) by rw [hr, sumV, if_pos ⟨e1, e2, e3⟩, if_pos hg, if_pos e4, hx])
    have HX := Lib.hid hx
    clear hx
    clear hr e1 e2 e3 e4 z1 z2 hs hg
    go_enter Tryd.func32, Tryd.ntmps32
    go_wp2_with fail
    have cc := crossed_any _ g1 g2 r1 r2 r3 r4 l1 l2 l3 l4
    rw [CV.out] at cc
    refine cc.mono ?_
    rintro e2 w1 ⟨ax, nx, cx, ay, ny, cy, rfl, hx, hy, hb⟩
    clear cc
    have R1 := R0.later hb
    have H2 := H1.later hb
    have r2 := r2.below hb
    have r4 := r4.below hb
    have k2 := H2.cell 2 _ rfl
    have k5 := H2.cell 5 _ rfl
    clear hb k0 k1 k3 k4 r1 r3
    go_wp2_with fail
    have cc := Mul_any _ r2 r4
    rw [mul_limbs l2 l4, fit_limbs E3.out] at cc
    refine cc.mono ?_
    rintro e2 w2 ⟨ad, nd, cd, rfl, hd, hb⟩
    clear cc
    have R2 := R1.later hb
    have H3 := H2.later hb
    have hx := hx.below hb
    have hy := hy.below hb
    clear hb k2 k5 r2 r4
    go_wp2_with fail
    have cc := Cmp_any _ hx hy
    rw [CM.out] at cc
    refine cc.mono ?_
    rintro e2 w3 ⟨rfl, nq, rfl⟩
    clear cc
    have hb := below_drewN (Below.refl w2.heap.size w2) nq
    have R3 := R2.later hb
    have H4 := H3.later hb
    have hx := hx.below hb
    have hy := hy.below hb
    have hd := hd.below hb
    clear hb
    generalize w2.drewN nq = w3 at *
    have hb := below_al w3 (.cells #[] 47)
    have R4 := R3.later hb
    have H5 := H4.later hb
    have hx := hx.below hb
    have hy := hy.below hb
    have hd := hd.below hb
    have k0 := H4.cell 0 _ rfl
    have j0 := H5.cell 0 _ rfl
    have j3 := H5.cell 3 _ rfl
    clear hb
    go_wp2_with fail
    have cc := Add_any _ hx hy
    rw [add_limbs E1.out E2.out, fit_limbs E4.out] at cc
    refine cc.mono ?_
    rintro e2 w5 ⟨an, nn, cn, rfl, hn, hb⟩
    clear cc
    have R5 := R4.later hb
    have hd := hd.below hb
    clear hb k0 j0 j3
    go_wp2_with fail
    have cc := lowest_any _ g1 hn hd E4.out E3.out hz.out
    rw [← HX.out] at cc
    refine cc.mono ?_
    rintro e2 w6 ⟨ap, np, cp, aq, nq, cq, rfl, hp, hq, hb⟩
    clear cc
    have R6 := R5.later hb
    have row := R6.row
    have HB := Lib.hid (fun cs => H0.below.trans ((below_row R6.below R6.lo cs).mono (by rw [World.size_alloc]; omega)))
    have fin := Lib.hid (fun cs => (⟨rd_rowset hp row (rat_noint _ _ _ _ _ _ _) cs, rd_rowset hq row (rat_noint _ _ _ _ _ _ _) cs⟩ : _ ∧ _))
    clear hb hp hq
    go_wp2_with (refine wpList_store_whole rfl 24 _ _ rfl atRat _ _ _ row rfl rfl rfl rfl (rat_one _ _ _ _ _ _ _) ?_)
    refine bodyPost_ret (results_cell_two rfl _ _ _ _ _ _ _ rfl (setRow_heap _ _ _ _ _ _ row) Tryd.underlying24 rfl (by kernel_rfl) _ rfl) rfl ?_
    refine ⟨ap, np, cp, aq, nq, cq, by rw [hres.out]; rfl, ?_, ?_, HB.out _⟩
    · rw [hres.out]; exact (fin.out _).1
    · rw [hres.out]; exact (fin.out _).2

  have dg : (g1 == g2) = false := beq_eq_false_iff_ne.2 hg
  by_cases e5 : N1 * D2 < N2 * D1
  case pos =>
    have ds : decide (s < 0) = true := by rw [hs, cmpN, if_pos e5]; rfl
    have E5 := Lib.hid e5
    have E6 := Lib.hid (show N2 * D1 - N1 * D2 < pw 96 from Nat.lt_of_le_of_lt (Nat.sub_le _ _) e2)
    obtain ⟨x, hx⟩ : ∃ x, x = lowV g2 (N2 * D1 - N1 * D2) (D1 * D2) := ⟨_, rfl⟩
    have hres := Lib.hid (show r = (x, 0) by rw [hr, sumV, if_pos ⟨e1, e2, e3⟩, if_neg hg, if_pos e5, hx])
    have HX := Lib.hid hx
    clear hx
    clear hr e1 e2 e3 e5 z1 z2 hs hg
    go_enter Tryd.func32, Tryd.ntmps32
    go_wp2_with fail
    have cc := crossed_any _ g1 g2 r1 r2 r3 r4 l1 l2 l3 l4
    rw [CV.out] at cc
    refine cc.mono ?_
    rintro e2 w1 ⟨ax, nx, cx, ay, ny, cy, rfl, hx, hy, hb⟩
    clear cc
    have R1 := R0.later hb
    have H2 := H1.later hb
    have r2 := r2.below hb
    have r4 := r4.below hb
    have k2 := H2.cell 2 _ rfl
    have k5 := H2.cell 5 _ rfl
    clear hb k0 k1 k3 k4 r1 r3
    go_wp2_with fail
    have cc := Mul_any _ r2 r4
    rw [mul_limbs l2 l4, fit_limbs E3.out] at cc
    refine cc.mono ?_
    rintro e2 w2 ⟨ad, nd, cd, rfl, hd, hb⟩
    clear cc
    have R2 := R1.later hb
    have H3 := H2.later hb
    have hx := hx.below hb
    have hy := hy.below hb
    clear hb k2 k5 r2 r4
    go_wp2_with fail
    have cc := Cmp_any _ hx hy
    rw [CM.out] at cc
    refine cc.mono ?_
    rintro e2 w3 ⟨rfl, nq, rfl⟩
    clear cc
    have hb := below_drewN (Below.refl w2.heap.size w2) nq
    have R3 := R2.later hb
    have H4 := H3.later hb
    have hx := hx.below hb
    have hy := hy.below hb
    have hd := hd.below hb
    clear hb
    generalize w2.drewN nq = w3 at *
    have hb := below_al w3 (.cells #[] 47)
    have R4 := R3.later hb
    have H5 := H4.later hb
    have hx := hx.below hb
    have hy := hy.below hb
    have hd := hd.below hb
    have k0 := H4.cell 0 _ rfl
    have j0 := H5.cell 0 _ rfl
    have j3 := H5.cell 3 _ rfl
    clear hb
    go_wp2_with fail
    have hb := (Below.refl (w3.alloc (.cells #[] 47)).heap.size (w3.alloc (.cells #[] 47))).drew
    have R4 := R4.later hb
    have H5 := H5.later hb
    have hx := hx.below hb
    have hy := hy.below hb
    have hd := hd.below hb
    clear hb
    refine wp_region_held_drew (S := (fun w' => w'.cell? ⟨w.heap.size, 3, none⟩ = some (.bool g2))) (by kernel_rfl) ?_ (fun hHeld => ?_)
    · exact H5.cell 3 _ rfl
    generalize World.drew (w3.alloc (.cells #[] 47)) = w4 at *
    refine wpAnyH_take (i := 2) (oi := ?oir1_2) (v := ?vr1_2) ?hir1_2 (by kernel_rfl) (by kernel_rfl) (by kernel_rfl) ?hqr1_2 ?hyr1_2 (by assumption) ?restr1_2
    case hir1_2 => simp only [List.getElem?_toArray, List.getElem?_cons_succ, List.getElem?_cons_zero]; rfl
    case hqr1_2 => exact fun _ _ _ h => h
    case hyr1_2 => (refine Or.inl ⟨by rfl, ?_⟩; intro w hSw; (try dsimp only at hSw); go_simp; all_goals with_reducible rfl)
    try simp only [Act.put, List.setIfInBounds_toArray, List.set_cons_zero, List.set_cons_succ]
    refine wpAnyH_take (i := 3) (oi := ?oir1_3) (v := ?vr1_3) ?hir1_3 (by kernel_rfl) (by kernel_rfl) (by kernel_rfl) ?hqr1_3 ?hyr1_3 (by assumption) ?restr1_3
    case hir1_3 => simp only [List.getElem?_toArray, List.getElem?_cons_succ, List.getElem?_cons_zero]; rfl
    case hqr1_3 => exact fun _ _ _ h => h
    case hyr1_3 => (refine Or.inl ⟨by rfl, ?_⟩; intro w hSw; (try dsimp only at hSw); go_simp; all_goals with_reducible rfl)
    try simp only [Act.put, List.setIfInBounds_toArray, List.set_cons_zero, List.set_cons_succ]
    refine wpAnyH_take (i := 4) (oi := ?oir1_4) (v := ?vr1_4) ?hir1_4 (by kernel_rfl) (by kernel_rfl) (by kernel_rfl) ?hqr1_4 ?hyr1_4 (by assumption) ?restr1_4
    case hir1_4 => simp only [List.getElem?_toArray, List.getElem?_cons_succ, List.getElem?_cons_zero]; rfl
    case hqr1_4 => exact fun _ _ _ h => h
    case hyr1_4 => (refine Or.inl ⟨by rfl, ?_⟩; intro w hSw; (try dsimp only at hSw); go_simp; all_goals with_reducible rfl)
    try simp only [Act.put, List.setIfInBounds_toArray, List.set_cons_zero, List.set_cons_succ]
    refine wpAnyH_take (i := 0) (oi := ?oir1_0) (v := ?vr1_0) ?hir1_0 (by kernel_rfl) (by kernel_rfl) (by kernel_rfl) ?hqr1_0 ?hyr1_0 (by assumption) ?restr1_0
    case hir1_0 => simp only [List.getElem?_toArray, List.getElem?_cons_succ, List.getElem?_cons_zero]; rfl
    case hqr1_0 => exact fun _ _ _ h => h
    case hyr1_0 => (refine Or.inl ⟨by rfl, ?_⟩; intro w hSw; (try dsimp only at hSw); go_simp; all_goals with_reducible rfl)
    try simp only [Act.put, List.setIfInBounds_toArray, List.set_cons_zero, List.set_cons_succ]
    refine wpAnyH_take (i := 1) (oi := ?oir1_1) (v := ?vr1_1) ?hir1_1 (by kernel_rfl) (by kernel_rfl) (by kernel_rfl) ?hqr1_1 ?hyr1_1 (by assumption) ?restr1_1
    case hir1_1 => simp only [List.getElem?_toArray, List.getElem?_cons_succ, List.getElem?_cons_zero]; rfl
    case hqr1_1 => exact fun _ _ _ h => h
    case hyr1_1 => (refine Or.inl ⟨by rfl, ?_⟩; intro w hSw; (try dsimp only at hSw); go_simp; all_goals with_reducible rfl)
    try simp only [Act.put, List.setIfInBounds_toArray, List.set_cons_zero, List.set_cons_succ]
    refine wpAnyH_take (i := 5) (oi := ?oir1_5) (v := ?vr1_5) ?hir1_5 (by kernel_rfl) (by kernel_rfl) (by kernel_rfl) ?hqr1_5 ?hyr1_5 (by assumption) ?restr1_5
    case hir1_5 => simp only [List.getElem?_toArray, List.getElem?_cons_succ, List.getElem?_cons_zero]; rfl
    case hqr1_5 => exact fun _ _ _ h => h
    case hyr1_5 => (refine Or.inl ⟨by rfl, ?_⟩; intro w hSw; (try dsimp only at hSw); go_simp; all_goals with_reducible rfl)
    try simp only [Act.put, List.setIfInBounds_toArray, List.set_cons_zero, List.set_cons_succ]
    refine wpAnyH_take (i := 6) (oi := ?oir1_6) (v := ?vr1_6) ?hir1_6 (by kernel_rfl) (by kernel_rfl) (by kernel_rfl) ?hqr1_6 ?hyr1_6 (by assumption) ?restr1_6
    case hir1_6 => simp only [List.getElem?_toArray, List.getElem?_cons_succ, List.getElem?_cons_zero]; rfl
    case hqr1_6 => exact fun _ _ _ h => h
    case hyr1_6 => (refine Or.inl ⟨by rfl, ?_⟩; intro w hSw; (try dsimp only at hSw); go_simp; all_goals with_reducible rfl)
    try simp only [Act.put, List.setIfInBounds_toArray, List.set_cons_zero, List.set_cons_succ]
    refine wpAnyH_take (i := 7) (oi := ?oir1_7) (v := ?vr1_7) ?hir1_7 (by kernel_rfl) (by kernel_rfl) (by kernel_rfl) ?hqr1_7 ?hyr1_7 (by assumption) ?restr1_7
    case hir1_7 => simp only [List.getElem?_toArray, List.getElem?_cons_succ, List.getElem?_cons_zero]; rfl
    case hqr1_7 => exact fun _ _ _ h => h
    case hyr1_7 => (refine Or.inl ⟨by rfl, ?_⟩; intro w hSw; (try dsimp only at hSw); go_simp; all_goals with_reducible rfl)
    try simp only [Act.put, List.setIfInBounds_toArray, List.set_cons_zero, List.set_cons_succ]
    refine wpAnyH_done (by kernel_rfl) ?_ _
    clear hHeld
    go_wp2_with fail
    have cc := Sub_any _ hy hx
    rw [sub_ok E2.out (Nat.le_of_lt E5.out)] at cc
    refine cc.mono ?_
    rintro e2 w5 ⟨an, nn, cn, rfl, hn, hb⟩
    clear cc
    have R5 := R4.later hb
    have hd := hd.below hb
    clear hb k0 j0 j3
    go_wp2_with fail
    have cc := lowest_any _ g2 hn hd E6.out E3.out hz.out
    rw [← HX.out] at cc
    refine cc.mono ?_
    rintro e2 w6 ⟨ap, np, cp, aq, nq, cq, rfl, hp, hq, hb⟩
    clear cc
    have R6 := R5.later hb
    have row := R6.row
    have HB := Lib.hid (fun cs => H0.below.trans ((below_row R6.below R6.lo cs).mono (by rw [World.size_alloc]; omega)))
    have fin := Lib.hid (fun cs => (⟨rd_rowset hp row (rat_noint _ _ _ _ _ _ _) cs, rd_rowset hq row (rat_noint _ _ _ _ _ _ _) cs⟩ : _ ∧ _))
    clear hb hp hq
    go_wp2_with (refine wpList_store_whole rfl 24 _ _ rfl atRat _ _ _ row rfl rfl rfl rfl (rat_one _ _ _ _ _ _ _) ?_)
    refine bodyPost_ret (results_cell_two rfl _ _ _ _ _ _ _ rfl (setRow_heap _ _ _ _ _ _ row) Tryd.underlying24 rfl (by kernel_rfl) _ rfl) rfl ?_
    refine ⟨ap, np, cp, aq, nq, cq, by rw [hres.out]; rfl, ?_, ?_, HB.out _⟩
    · rw [hres.out]; exact (fin.out _).1
    · rw [hres.out]; exact (fin.out _).2

  have ds : decide (s < 0) = false := by
    rw [hs, cmpN, if_neg e5]
    split <;> rfl
  have E5 := Lib.hid (Nat.le_of_not_lt e5)
  have E6 := Lib.hid (show N1 * D2 - N2 * D1 < pw 96 from Nat.lt_of_le_of_lt (Nat.sub_le _ _) e1)
  obtain ⟨x, hx⟩ : ∃ x, x = lowV g1 (N1 * D2 - N2 * D1) (D1 * D2) := ⟨_, rfl⟩
  have hres := Lib.hid (show r = (x, 0) by rw [hr, sumV, if_pos ⟨e1, e2, e3⟩, if_neg hg, if_neg e5, hx])
  have HX := Lib.hid hx
  clear hx
  clear hr e1 e2 e3 e5 z1 z2 hs hg
  go_enter Tryd.func32, Tryd.ntmps32
  go_wp2_with fail
  have cc := crossed_any _ g1 g2 r1 r2 r3 r4 l1 l2 l3 l4
  rw [CV.out] at cc
  refine cc.mono ?_
  rintro e2 w1 ⟨ax, nx, cx, ay, ny, cy, rfl, hx, hy, hb⟩
  clear cc
  have R1 := R0.later hb
  have H2 := H1.later hb
  have r2 := r2.below hb
  have r4 := r4.below hb
  have k2 := H2.cell 2 _ rfl
  have k5 := H2.cell 5 _ rfl
  clear hb k0 k1 k3 k4 r1 r3
  go_wp2_with fail
  have cc := Mul_any _ r2 r4
  rw [mul_limbs l2 l4, fit_limbs E3.out] at cc
  refine cc.mono ?_
  rintro e2 w2 ⟨ad, nd, cd, rfl, hd, hb⟩
  clear cc
  have R2 := R1.later hb
  have H3 := H2.later hb
  have hx := hx.below hb
  have hy := hy.below hb
  clear hb k2 k5 r2 r4
  go_wp2_with fail
  have cc := Cmp_any _ hx hy
  rw [CM.out] at cc
  refine cc.mono ?_
  rintro e2 w3 ⟨rfl, nq, rfl⟩
  clear cc
  have hb := below_drewN (Below.refl w2.heap.size w2) nq
  have R3 := R2.later hb
  have H4 := H3.later hb
  have hx := hx.below hb
  have hy := hy.below hb
  have hd := hd.below hb
  clear hb
  generalize w2.drewN nq = w3 at *
  have hb := below_al w3 (.cells #[] 47)
  have R4 := R3.later hb
  have H5 := H4.later hb
  have hx := hx.below hb
  have hy := hy.below hb
  have hd := hd.below hb
  have k0 := H4.cell 0 _ rfl
  have j0 := H5.cell 0 _ rfl
  have j3 := H5.cell 3 _ rfl
  clear hb
  go_wp2_with fail
  have cc := Sub_any _ hx hy
  rw [sub_ok E1.out E5.out] at cc
  refine cc.mono ?_
  rintro e2 w5 ⟨an, nn, cn, rfl, hn, hb⟩
  clear cc
  have R5 := R4.later hb
  have hd := hd.below hb
  clear hb k0 j0 j3
  go_wp2_with fail
  have cc := lowest_any _ g1 hn hd E6.out E3.out hz.out
  rw [← HX.out] at cc
  refine cc.mono ?_
  rintro e2 w6 ⟨ap, np, cp, aq, nq, cq, rfl, hp, hq, hb⟩
  clear cc
  have R6 := R5.later hb
  have row := R6.row
  have HB := Lib.hid (fun cs => H0.below.trans ((below_row R6.below R6.lo cs).mono (by rw [World.size_alloc]; omega)))
  have fin := Lib.hid (fun cs => (⟨rd_rowset hp row (rat_noint _ _ _ _ _ _ _) cs, rd_rowset hq row (rat_noint _ _ _ _ _ _ _) cs⟩ : _ ∧ _))
  clear hb hp hq
  go_wp2_with (refine wpList_store_whole rfl 24 _ _ rfl atRat _ _ _ row rfl rfl rfl rfl (rat_one _ _ _ _ _ _ _) ?_)
  refine bodyPost_ret (results_cell_two rfl _ _ _ _ _ _ _ rfl (setRow_heap _ _ _ _ _ _ row) Tryd.underlying24 rfl (by kernel_rfl) _ rfl) rfl ?_
  refine ⟨ap, np, cp, aq, nq, cq, by rw [hres.out]; rfl, ?_, ?_, HB.out _⟩
  · rw [hres.out]; exact (fin.out _).1
  · rw [hres.out]; exact (fin.out _).2

theorem turn_limbs (g : Bool) (N D : Nat) : turnV ⟨g, limbs N, limbs D⟩ = ⟨!g && decide (0 < N), limbs N, limbs D⟩ := by
  unfold turnV
  have e : decide (0 < (limbs N).length) = decide (0 < N) := by
    have h := limbs_len_zero (A := N)
    exact decide_eq_decide.2 ⟨fun h2 => by omega, fun h2 => by omega⟩
  show (⟨!g && decide (0 < (limbs N).length), limbs N, limbs D⟩ : QV) = _
  rw [e]

theorem diffV_eq (p q : Rat) : sumV (decide (p.num < 0)) (!decide (q.num < 0) && decide (0 < q.num.natAbs)) p.num.natAbs p.den q.num.natAbs q.den = addQ p (-q) := by
  have e := congrArg QV.neg (ofQ_neg q)
  rw [← sumV_eq, Rat.neg_num, Int.natAbs_neg, Rat.neg_den, ← Rat.neg_num]
  rw [show decide ((-q).num < 0) = (!decide (q.num < 0) && decide (0 < q.num.natAbs)) from e]

set_option maxRecDepth 100000 in
set_option maxHeartbeats 4000000 in
theorem difference_any (w : World) (g1 g2 : Bool) {a b a' b' : Option Addr} {n m c d n' m' c' d' : Nat} {N1 D1 N2 D2 : Nat}
    (h1 : Rd .u32 w a n c (limbs N1)) (h2 : Rd .u32 w b m d (limbs D1)) (h3 : Rd .u32 w a' n' c' (limbs N2)) (h4 : Rd .u32 w b' m' d' (limbs D2))
    (l1 : N1 < pw 96) (l2 : D1 < pw 96) (l3 : N2 < pw 96) (l4 : D2 < pw 96) (z1 : D1 ≠ 0) (z2 : D2 ≠ 0) :
    Calls Tryd.prog 33 #[pairV g1 a n c b m d g2 a' n' c' b' m' d'] w (RetQE w (sumV g1 (!g2 && decide (0 < N2)) N1 D1 N2 D2)) := by
  obtain ⟨r, hr⟩ : ∃ r, r = sumV g1 (!g2 && decide (0 < N2)) N1 D1 N2 D2 := ⟨_, rfl⟩
  rw [← hr]
  have HR := Lib.hid hr
  have H0 := Has.new w #[.bool g1, .slice a n c, .slice b m d, .bool g2, .slice a' n' c', .slice b' m' d'] 49
  have R0 := Row.second w (.cells #[.bool g1, .slice a n c, .slice b m d, .bool g2, .slice a' n' c', .slice b' m' d'] 49) #[.bool false, .slice none 0 0, .slice none 0 0]
  have H1 := H0.later R0.below
  have r1 := h1.below H1.below
  have r2 := h2.below H1.below
  have r3 := h3.below H1.below
  have r4 := h4.below H1.below
  have n96 : n' ≤ 96 := by rw [← h3.len]; exact limbs_len_le l3
  have m96 : m' ≤ 96 := by rw [← h4.len]; exact limbs_len_le l4
  have k0 := H1.cell 0 _ rfl
  have k1 := H1.cell 1 _ rfl
  have k2 := H1.cell 2 _ rfl
  have k3 := H1.cell 3 _ rfl
  have k4 := H1.cell 4 _ rfl
  have k5 := H1.cell 5 _ rfl
  clear hr
  go_enter Tryd.func33, Tryd.ntmps33
  go_wp2_with fail
  clear k0 k1 k2 k3 k4 k5 r1 r2 r3 r4
  have hb := (Below.refl ((w.alloc (.cells #[.bool g1, .slice a n c, .slice b m d, .bool g2, .slice a' n' c', .slice b' m' d'] 49)).alloc (.cells #[.bool false, .slice none 0 0, .slice none 0 0] 24)).heap.size ((w.alloc (.cells #[.bool g1, .slice a n c, .slice b m d, .bool g2, .slice a' n' c', .slice b' m' d'] 49)).alloc (.cells #[.bool false, .slice none 0 0, .slice none 0 0] 24))).drew
  have R0 := R0.later hb
  have H1 := H1.later hb
  clear hb 
  refine wp_region_held_drew (S := (fun w' => w'.cell? ⟨w.heap.size, 0, none⟩ = some (.bool g1) ∧ w'.cell? ⟨w.heap.size, 1, none⟩ = some (.slice a n c) ∧ w'.cell? ⟨w.heap.size, 2, none⟩ = some (.slice b m d) ∧ w'.cell? ⟨w.heap.size, 3, none⟩ = some (.bool g2) ∧ w'.cell? ⟨w.heap.size, 4, none⟩ = some (.slice a' n' c') ∧ w'.cell? ⟨w.heap.size, 5, none⟩ = some (.slice b' m' d') ∧ True)) (by kernel_rfl) ?_ (fun hHeld => ?_)
  · exact ⟨H1.cell 0 _ rfl, H1.cell 1 _ rfl, H1.cell 2 _ rfl, H1.cell 3 _ rfl, H1.cell 4 _ rfl, H1.cell 5 _ rfl, trivial⟩
  generalize World.drew ((w.alloc (.cells #[.bool g1, .slice a n c, .slice b m d, .bool g2, .slice a' n' c', .slice b' m' d'] 49)).alloc (.cells #[.bool false, .slice none 0 0, .slice none 0 0] 24)) = w1 at *
  refine wpAnyH_take (i := 0) (oi := ?oir2_0) (v := ?vr2_0) ?hir2_0 (by kernel_rfl) (by kernel_rfl) (by kernel_rfl) ?hqr2_0 ?hyr2_0 (by assumption) ?restr2_0
  case hir2_0 => simp only [List.getElem?_toArray, List.getElem?_cons_succ, List.getElem?_cons_zero]; rfl
  case hqr2_0 => exact fun _ _ _ h => h
  case hyr2_0 => (refine Or.inl ⟨by rfl, ?_⟩; intro w hSw; (try dsimp only at hSw); go_simp; all_goals with_reducible rfl)
  try simp only [Act.put, List.setIfInBounds_toArray, List.set_cons_zero, List.set_cons_succ]
  refine wpAnyH_take (i := 1) (oi := ?oir2_1) (v := ?vr2_1) ?hir2_1 (by kernel_rfl) (by kernel_rfl) (by kernel_rfl) ?hqr2_1 ?hyr2_1 (by assumption) ?restr2_1
  case hir2_1 => simp only [List.getElem?_toArray, List.getElem?_cons_succ, List.getElem?_cons_zero]; rfl
  case hqr2_1 => exact fun _ _ _ h => h
  case hyr2_1 => (refine Or.inl ⟨by rfl, ?_⟩; intro w hSw; (try dsimp only at hSw); go_simp; all_goals with_reducible rfl)
  try simp only [Act.put, List.setIfInBounds_toArray, List.set_cons_zero, List.set_cons_succ]
  refine wpAnyH_take (i := 2) (oi := ?oir2_2) (v := ?vr2_2) ?hir2_2 (by kernel_rfl) (by kernel_rfl) (by kernel_rfl) ?hqr2_2 ?hyr2_2 (by assumption) ?restr2_2
  case hir2_2 => simp only [List.getElem?_toArray, List.getElem?_cons_succ, List.getElem?_cons_zero]; rfl
  case hqr2_2 => exact fun _ _ _ h => h
  case hyr2_2 => (refine Or.inl ⟨by rfl, ?_⟩; intro w hSw; (try dsimp only at hSw); go_simp; all_goals with_reducible rfl)
  try simp only [Act.put, List.setIfInBounds_toArray, List.set_cons_zero, List.set_cons_succ]
  refine wpAnyH_take (i := 3) (oi := ?oir2_3) (v := ?vr2_3) ?hir2_3 (by kernel_rfl) (by kernel_rfl) (by kernel_rfl) ?hqr2_3 ?hyr2_3 (by assumption) ?restr2_3
  case hir2_3 => simp only [List.getElem?_toArray, List.getElem?_cons_succ, List.getElem?_cons_zero]; rfl
  case hqr2_3 => exact fun _ _ _ h => h
  case hyr2_3 => (refine Or.inl ⟨by rfl, ?_⟩; intro w hSw; (try dsimp only at hSw); go_simp; all_goals with_reducible rfl)
  try simp only [Act.put, List.setIfInBounds_toArray, List.set_cons_zero, List.set_cons_succ]
  refine wpAnyH_ready (rs := [4]) (by kernel_rfl) (by simp) ?_
  refine AllReadyH.cons (o := ?or3_4) ?hor3_4 (fun K hK => ?kr3_4) AllReadyH.nil
  case hor3_4 => simp only [List.getElem?_toArray, List.getElem?_cons_succ, List.getElem?_cons_zero]; rfl
  go_simp
  have cc := turned_any w1 (g := g2) (h3.below H1.below) (h4.below H1.below) (by omega) (by omega)
  rw [turn_limbs] at cc
  refine cc.mono ?_
  rintro e2 w2 ⟨ax, nx, cx, ay, ny, cy, rfl, hx, hy, hb⟩
  clear cc
  have R1 := R0.later hb
  have H2 := H1.later hb
  clear hb
  go_wp2_with fail
  clear hHeld
  refine hK.out _ _ ?_ (fun hHeld => ?_)
  · exact ⟨H2.cell 0 _ rfl, H2.cell 1 _ rfl, H2.cell 2 _ rfl, H2.cell 3 _ rfl, H2.cell 4 _ rfl, H2.cell 5 _ rfl, trivial⟩
  clear hK K
  try simp only [Act.put, List.setIfInBounds_toArray, List.set_cons_zero, List.set_cons_succ]
  refine wpAnyH_take (i := 5) (oi := ?oir4_5) (v := ?vr4_5) ?hir4_5 (by kernel_rfl) (by kernel_rfl) (by kernel_rfl) ?hqr4_5 ?hyr4_5 (by assumption) ?restr4_5
  case hir4_5 => simp only [List.getElem?_toArray, List.getElem?_cons_succ, List.getElem?_cons_zero]; rfl
  case hqr4_5 => exact fun _ _ _ h => h
  case hyr4_5 => (refine Or.inl ⟨by rfl, ?_⟩; intro w hSw; (try dsimp only at hSw); go_simp; all_goals with_reducible rfl)
  try simp only [Act.put, List.setIfInBounds_toArray, List.set_cons_zero, List.set_cons_succ]
  refine wpAnyH_ready (rs := [6]) (by kernel_rfl) (by simp) ?_
  refine AllReadyH.cons (o := ?or5_6) ?hor5_6 (fun K hK => ?kr5_6) AllReadyH.nil
  case hor5_6 => simp only [List.getElem?_toArray, List.getElem?_cons_succ, List.getElem?_cons_zero]; rfl
  go_simp
  have cc := sum_any w2 g1 (!g2 && decide (0 < N2)) (h1.below H2.below) (h2.below H2.below) hx hy l1 l2 l3 l4 z1 z2
  rw [← HR.out] at cc
  refine cc.mono ?_
  rintro e2 w3 ⟨ap, np, cp, aq, nq, cq, rfl, hp, hq, hb⟩
  clear cc
  have R2 := R1.later hb
  have HL := H2.later hb
  clear hb
  go_wp2_with fail
  clear hHeld
  refine hK.out _ _ ?_ (fun hHeld => ?_)
  · exact ⟨HL.cell 0 _ rfl, HL.cell 1 _ rfl, HL.cell 2 _ rfl, HL.cell 3 _ rfl, HL.cell 4 _ rfl, HL.cell 5 _ rfl, trivial⟩
  clear hK K
  try simp only [Act.put, List.setIfInBounds_toArray, List.set_cons_zero, List.set_cons_succ]
  refine wpAnyH_take (i := 7) (oi := ?oir6_7) (v := ?vr6_7) ?hir6_7 (by kernel_rfl) (by kernel_rfl) (by kernel_rfl) ?hqr6_7 ?hyr6_7 (by assumption) ?restr6_7
  case hir6_7 => simp only [List.getElem?_toArray, List.getElem?_cons_succ, List.getElem?_cons_zero]; rfl
  case hqr6_7 => exact fun _ _ _ h => h
  case hyr6_7 => (refine Or.inl ⟨by rfl, ?_⟩; intro w hSw; (try dsimp only at hSw); go_simp; all_goals with_reducible rfl)
  try simp only [Act.put, List.setIfInBounds_toArray, List.set_cons_zero, List.set_cons_succ]
  refine wpAnyH_take (i := 8) (oi := ?oir6_8) (v := ?vr6_8) ?hir6_8 (by kernel_rfl) (by kernel_rfl) (by kernel_rfl) ?hqr6_8 ?hyr6_8 (by assumption) ?restr6_8
  case hir6_8 => simp only [List.getElem?_toArray, List.getElem?_cons_succ, List.getElem?_cons_zero]; rfl
  case hqr6_8 => exact fun _ _ _ h => h
  case hyr6_8 => (refine Or.inl ⟨by rfl, ?_⟩; intro w hSw; (try dsimp only at hSw); go_simp; all_goals with_reducible rfl)
  try simp only [Act.put, List.setIfInBounds_toArray, List.set_cons_zero, List.set_cons_succ]
  have row := R2.row
  have HB := Lib.hid (fun cs => H0.below.trans ((below_row R2.below R2.lo cs).mono (by rw [World.size_alloc]; omega)))
  have fin := Lib.hid (fun cs => (⟨rd_rowset hp row (rat_noint _ _ _ _ _ _ _) cs, rd_rowset hq row (rat_noint _ _ _ _ _ _ _) cs⟩ : _ ∧ _))
  clear hp hq
  refine wpAnyH_ready (rs := [9]) (by kernel_rfl) (by simp) ?_
  refine (AllReadyH.cons (o := ?ob8_9) ?hob8_9 (fun K hK => ?kb8_9) AllReadyH.nil)
  case hob8_9 => simp only [List.getElem?_toArray, List.getElem?_cons_succ, List.getElem?_cons_zero]; rfl
  case kb8_9 =>
    rw [if_pos (by rfl)]
    refine op_store_whole 24 _ _ rfl atRat _ _ _ row rfl rfl rfl rfl (rat_one _ _ _ _ _ _ _) ?_
    refine hK.out _ _ ?_ (fun hHeld => ?_)
    · exact ⟨cell_row (HL.cell 0 _ rfl) (by omega), cell_row (HL.cell 1 _ rfl) (by omega), cell_row (HL.cell 2 _ rfl) (by omega), cell_row (HL.cell 3 _ rfl) (by omega), cell_row (HL.cell 4 _ rfl) (by omega), cell_row (HL.cell 5 _ rfl) (by omega), trivial⟩
    clear hK K
    try simp only [Act.put, List.setIfInBounds_toArray, List.set_cons_zero, List.set_cons_succ]
    refine wpAnyH_take (i := 10) (oi := ?oir7_10) (v := ?vr7_10) ?hir7_10 (by kernel_rfl) (by kernel_rfl) (by kernel_rfl) ?hqr7_10 ?hyr7_10 (by assumption) ?restr7_10
    case hir7_10 => simp only [List.getElem?_toArray, List.getElem?_cons_succ, List.getElem?_cons_zero]; rfl
    case hqr7_10 => exact fun _ _ _ h => h
    case hyr7_10 => (refine Or.inl ⟨by rfl, ?_⟩; intro w hSw; (try dsimp only at hSw); go_simp; all_goals with_reducible rfl)
    try simp only [Act.put, List.setIfInBounds_toArray, List.set_cons_zero, List.set_cons_succ]
    refine wpAnyH_done (by kernel_rfl) ?_ _
    go_wp2_with fail
    refine bodyPost_ret (results_cell_two rfl _ _ _ _ _ _ _ rfl (setRow_heap _ _ _ _ _ _ row) Tryd.underlying24 rfl (by kernel_rfl) _ rfl) rfl ?_
    exact ⟨ap, np, cp, aq, nq, cq, rfl, (fin.out _).1, (fin.out _).2, HB.out _⟩

set_option maxRecDepth 100000 in
set_option maxHeartbeats 1000000 in
theorem ratAdd_any (w : World) {g1 g2 : Bool} {a b a' b' : Option Addr} {n m c d n' m' c' d' : Nat} {xs ys xs' ys' : List Nat}
    (h1 : Rd .u32 w a n c xs) (h2 : Rd .u32 w b m d ys) (h3 : Rd .u32 w a' n' c' xs') (h4 : Rd .u32 w b' m' d' ys') :
    Calls Tryd.prog 12 #[ratV g1 a n c b m d, ratV g2 a' n' c' b' m' d'] w (RetQE w (addV ⟨g1, xs, ys⟩ ⟨g2, xs', ys'⟩)) := by
  obtain ⟨r, hr⟩ : ∃ r, r = addV ⟨g1, xs, ys⟩ ⟨g2, xs', ys'⟩ := ⟨_, rfl⟩
  rw [← hr]
  have hr' : r = if chkV ⟨g1, xs, ys⟩ = 0 ∧ chkV ⟨g2, xs', ys'⟩ = 0 then addQ (toQ ⟨g1, xs, ys⟩) (toQ ⟨g2, xs', ys'⟩) else (zeroV, 8) := hr
  have HR := Lib.hid hr'
  clear hr hr'
  obtain ⟨L1, L2, L3, L4⟩ := laid_four w #[.bool g1, .slice a n c, .slice b m d] #[.bool g2, .slice a' n' c', .slice b' m' d'] #[.bool false, .slice none 0 0, .slice none 0 0] #[.bool g1, .slice a n c, .slice b m d, .bool g2, .slice a' n' c', .slice b' m' d']
  have k0 := L1.cell 0 _ rfl
  have k1 := L1.cell 1 _ rfl
  have k2 := L1.cell 2 _ rfl
  have k3 := L2.cell 0 _ rfl
  have k4 := L2.cell 1 _ rfl
  have k5 := L2.cell 2 _ rfl
  have p0 := L4.cell 0 _ rfl
  have p1 := L4.cell 1 _ rfl
  have p2 := L4.cell 2 _ rfl
  have p3 := L4.cell 3 _ rfl
  have p4 := L4.cell 4 _ rfl
  have p5 := L4.cell 5 _ rfl
  go_enter Tryd.func12, Tryd.ntmps12
  go_wp2_with first | refine wpList_store_new rfl 49 _ _ rfl atPair _ _ _ rfl rfl rfl rfl (pair_one _ _ _ _ _ _ _ _ _ _ _ _ _ _) ?_
  have cc := does_sum _ (addQ (toQ ⟨g1, xs, ys⟩) (toQ ⟨g2, xs', ys'⟩)) (h1.below L4.below) (h2.below L4.below) (h3.below L4.below) (h4.below L4.below) (by
    intro c1 c2 w' hw
    obtain ⟨p, e1, f1⟩ := chkV_get (x := ⟨g1, xs, ys⟩) h1.bd h2.bd c1
    obtain ⟨q, e2, f2⟩ := chkV_get (x := ⟨g2, xs', ys'⟩) h3.bd h4.bd c2
    rw [e1, e2, toQ_ofQ, toQ_ofQ, ← sumV_eq]
    unfold ofQ at e1 e2
    injection e1 with e1 e3 e4
    injection e2 with e2 e5 e6
    subst e1 e3 e4 e2 e5 e6
    have hB := L4.below.trans (hw.mono L4.below.size)
    exact sum_any w' _ _ (h1.below hB) (h2.below hB) (h3.below hB) (h4.below hB) f1.1 f1.2 f2.1 f2.2 p.den_nz q.den_nz)
  rw [← HR.out] at cc
  refine cc.mono ?_
  rintro e2 w3 ⟨ap, np, cp, aq, nq, cq, rfl, hp, hq, hb⟩
  clear cc
  have R3 := L3.later hb
  have row := R3.row
  have HB := Lib.hid (fun cs => below_row R3.below R3.lo cs)
  have fin := Lib.hid (fun cs => (⟨rd_rowset hp row (rat_noint _ _ _ _ _ _ _) cs, rd_rowset hq row (rat_noint _ _ _ _ _ _ _) cs⟩ : _ ∧ _))
  clear hb k0 k1 k2 k3 k4 k5 p0 p1 p2 p3 p4 p5
  go_wp2_with (refine wpList_store_whole rfl 24 _ _ rfl atRat _ _ _ row rfl rfl rfl rfl (rat_one _ _ _ _ _ _ _) ?_)
  refine bodyPost_ret (results_cell_two rfl _ _ _ _ _ _ _ rfl (setRow_heap _ _ _ _ _ _ row) Tryd.underlying24 rfl (by kernel_rfl) _ rfl) rfl ?_
  exact ⟨ap, np, cp, aq, nq, cq, rfl, (fin.out _).1, (fin.out _).2, HB.out _⟩

set_option maxRecDepth 100000 in
set_option maxHeartbeats 1000000 in
theorem ratSub_any (w : World) {g1 g2 : Bool} {a b a' b' : Option Addr} {n m c d n' m' c' d' : Nat} {xs ys xs' ys' : List Nat}
    (h1 : Rd .u32 w a n c xs) (h2 : Rd .u32 w b m d ys) (h3 : Rd .u32 w a' n' c' xs') (h4 : Rd .u32 w b' m' d' ys') :
    Calls Tryd.prog 14 #[ratV g1 a n c b m d, ratV g2 a' n' c' b' m' d'] w (RetQE w (subV ⟨g1, xs, ys⟩ ⟨g2, xs', ys'⟩)) := by
  obtain ⟨r, hr⟩ : ∃ r, r = subV ⟨g1, xs, ys⟩ ⟨g2, xs', ys'⟩ := ⟨_, rfl⟩
  rw [← hr]
  have hr' : r = if chkV ⟨g1, xs, ys⟩ = 0 ∧ chkV ⟨g2, xs', ys'⟩ = 0 then addQ (toQ ⟨g1, xs, ys⟩) (-(toQ ⟨g2, xs', ys'⟩)) else (zeroV, 8) := hr
  have HR := Lib.hid hr'
  clear hr hr'
  obtain ⟨L1, L2, L3, L4⟩ := laid_four w #[.bool g1, .slice a n c, .slice b m d] #[.bool g2, .slice a' n' c', .slice b' m' d'] #[.bool false, .slice none 0 0, .slice none 0 0] #[.bool g1, .slice a n c, .slice b m d, .bool g2, .slice a' n' c', .slice b' m' d']
  have k0 := L1.cell 0 _ rfl
  have k1 := L1.cell 1 _ rfl
  have k2 := L1.cell 2 _ rfl
  have k3 := L2.cell 0 _ rfl
  have k4 := L2.cell 1 _ rfl
  have k5 := L2.cell 2 _ rfl
  have p0 := L4.cell 0 _ rfl
  have p1 := L4.cell 1 _ rfl
  have p2 := L4.cell 2 _ rfl
  have p3 := L4.cell 3 _ rfl
  have p4 := L4.cell 4 _ rfl
  have p5 := L4.cell 5 _ rfl
  go_enter Tryd.func14, Tryd.ntmps14
  go_wp2_with first | refine wpList_store_new rfl 49 _ _ rfl atPair _ _ _ rfl rfl rfl rfl (pair_one _ _ _ _ _ _ _ _ _ _ _ _ _ _) ?_
  have cc := does_difference _ (addQ (toQ ⟨g1, xs, ys⟩) (-(toQ ⟨g2, xs', ys'⟩))) (h1.below L4.below) (h2.below L4.below) (h3.below L4.below) (h4.below L4.below) (by
    intro c1 c2 w' hw
    obtain ⟨p, e1, f1⟩ := chkV_get (x := ⟨g1, xs, ys⟩) h1.bd h2.bd c1
    obtain ⟨q, e2, f2⟩ := chkV_get (x := ⟨g2, xs', ys'⟩) h3.bd h4.bd c2
    rw [e1, e2, toQ_ofQ, toQ_ofQ, ← diffV_eq]
    unfold ofQ at e1 e2
    injection e1 with e1 e3 e4
    injection e2 with e2 e5 e6
    subst e1 e3 e4 e2 e5 e6
    have hB := L4.below.trans (hw.mono L4.below.size)
    exact difference_any w' _ _ (h1.below hB) (h2.below hB) (h3.below hB) (h4.below hB) f1.1 f1.2 f2.1 f2.2 p.den_nz q.den_nz)
  rw [← HR.out] at cc
  refine cc.mono ?_
  rintro e2 w3 ⟨ap, np, cp, aq, nq, cq, rfl, hp, hq, hb⟩
  clear cc
  have R3 := L3.later hb
  have row := R3.row
  have HB := Lib.hid (fun cs => below_row R3.below R3.lo cs)
  have fin := Lib.hid (fun cs => (⟨rd_rowset hp row (rat_noint _ _ _ _ _ _ _) cs, rd_rowset hq row (rat_noint _ _ _ _ _ _ _) cs⟩ : _ ∧ _))
  clear hb k0 k1 k2 k3 k4 k5 p0 p1 p2 p3 p4 p5
  go_wp2_with (refine wpList_store_whole rfl 24 _ _ rfl atRat _ _ _ row rfl rfl rfl rfl (rat_one _ _ _ _ _ _ _) ?_)
  refine bodyPost_ret (results_cell_two rfl _ _ _ _ _ _ _ rfl (setRow_heap _ _ _ _ _ _ row) Tryd.underlying24 rfl (by kernel_rfl) _ rfl) rfl ?_
  exact ⟨ap, np, cp, aq, nq, cq, rfl, (fin.out _).1, (fin.out _).2, HB.out _⟩

end Go.Proofs.YtdaajeklnhbhjaaDoor
