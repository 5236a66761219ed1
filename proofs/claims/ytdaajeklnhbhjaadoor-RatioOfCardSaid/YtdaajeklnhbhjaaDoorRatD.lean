/- Quotient, the gate of the operations, and Div in the program. -/
import Derived.Test.YtdaajeklnhbhjaaDoorRatA
namespace Go.Proofs.YtdaajeklnhbhjaaDoor
open Go.RowKit Go.Suf
set_option linter.unusedVariables false
set_option linter.unusedSimpArgs false

def quoV (g1 g2 : Bool) (N1 D1 N2 D2 : Nat) : QV × Int := if N2 = 0 then (zeroV, 40) else prodV g1 g2 N1 D1 D2 N2

set_option maxHeartbeats 1000000 in
theorem quotient_any (w : World) (g1 g2 : Bool) {a b a' b' : Option Addr} {n m c d n' m' c' d' : Nat} {N1 D1 N2 D2 : Nat}
    (h1 : Rd .u32 w a n c (limbs N1)) (h2 : Rd .u32 w b m d (limbs D1)) (h3 : Rd .u32 w a' n' c' (limbs N2)) (h4 : Rd .u32 w b' m' d' (limbs D2))
    (l1 : N1 < pw 96) (l2 : D1 < pw 96) (l3 : N2 < pw 96) (l4 : D2 < pw 96) (z1 : D1 ≠ 0) (z2 : D2 ≠ 0) :
    Calls Tryd.prog 34 #[pairV g1 a n c b m d g2 a' n' c' b' m' d'] w (RetQE w (quoV g1 g2 N1 D1 N2 D2)) := by
  obtain ⟨r, hr⟩ : ∃ r, r = quoV g1 g2 N1 D1 N2 D2 := ⟨_, rfl⟩
  rw [← hr]
  have H0 := Has.new w #[.bool g1, .slice a n c, .slice b m d, .bool g2, .slice a' n' c', .slice b' m' d'] 49
  have R0 := Row.second w (.cells #[.bool g1, .slice a n c, .slice b m d, .bool g2, .slice a' n' c', .slice b' m' d'] 49) #[.bool false, .slice none 0 0, .slice none 0 0]
  have H1 := H0.later R0.below
  have hn := h3.len
  by_cases e : N2 = 0
  · have hres := Lib.hid (show r = (zeroV, 40) by rw [hr, quoV, if_pos e])
    have e0 : n' = 0 := by rw [← hn, e, limbs_zero]; rfl
    subst e0
    have k4 := H1.cell 4 _ rfl
    have row := R0.row
    have x0 := R0.cell 0 _ rfl
    have x1 := R0.cell 1 _ rfl
    have x2 := R0.cell 2 _ rfl
    clear hr e hn
    go_enter Tryd.func34, Tryd.ntmps34
    go_wp2_with first | refine wpList_store_whole rfl 24 _ _ rfl atRat _ _ _ row rfl rfl rfl rfl (rat_one _ _ _ _ _ _ _) ?_
    refine bodyPost_ret (results_cell_two rfl _ _ _ _ _ _ _ rfl (setRow_heap _ _ _ _ _ _ row) Tryd.underlying24 rfl (by kernel_rfl) _ rfl) rfl ?_
    refine ⟨none, 0, 0, none, 0, 0, by rw [hres.out]; rfl, ?_, ?_, H0.below.trans ((below_row R0.below R0.lo _).mono (by rw [World.size_alloc]; omega))⟩
    · rw [hres.out]; exact Rd.nil _ _
    · rw [hres.out]; exact Rd.nil _ _
  · have hres := Lib.hid (show r = prodV g1 g2 N1 D1 D2 N2 by rw [hr, quoV, if_neg e])
    have hn0 : ((n' : Int) == 0) = false := by
      rw [beq_eq_false_iff_ne]
      intro e1
      exact e (limbs_len_zero.1 (by omega))
    have E := Lib.hid e
    have k0 := H1.cell 0 _ rfl
    have k1 := H1.cell 1 _ rfl
    have k2 := H1.cell 2 _ rfl
    have k3 := H1.cell 3 _ rfl
    have k4 := H1.cell 4 _ rfl
    have k5 := H1.cell 5 _ rfl
    clear hr e hn
    go_enter Tryd.func34, Tryd.ntmps34
    go_wp2_with fail
    have cc := product_any _ g1 g2 (h1.below H1.below) (h2.below H1.below) (h4.below H1.below) (h3.below H1.below) l1 l2 l4 l3 z1 E.out
    rw [← hres.out] at cc
    refine cc.mono ?_
    rintro e2 w3 ⟨ap, np, cp, aq, nq, cq, rfl, hp, hq, hb⟩
    clear cc
    have R3 := R0.later hb
    have row := R3.row
    have HB := Lib.hid (fun cs => H0.below.trans ((below_row R3.below R3.lo cs).mono (by rw [World.size_alloc]; omega)))
    have fin := Lib.hid (fun cs => (⟨rd_rowset hp row (rat_noint _ _ _ _ _ _ _) cs, rd_rowset hq row (rat_noint _ _ _ _ _ _ _) cs⟩ : _ ∧ _))
    clear k0 k1 k2 k3 k4 k5 hb
    go_wp2_with (refine wpList_store_whole rfl 24 _ _ rfl atRat _ _ _ row rfl rfl rfl rfl (rat_one _ _ _ _ _ _ _) ?_)
    refine bodyPost_ret (results_cell_two rfl _ _ _ _ _ _ _ rfl (setRow_heap _ _ _ _ _ _ row) Tryd.underlying24 rfl (by kernel_rfl) _ rfl) rfl ?_
    exact ⟨ap, np, cp, aq, nq, cq, rfl, (fin.out _).1, (fin.out _).2, HB.out _⟩

set_option maxRecDepth 100000 in
set_option maxHeartbeats 1000000 in
theorem does_quotient (w : World) (r : QV × Int) {g1 g2 : Bool} {a b a' b' : Option Addr} {n m c d n' m' c' d' : Nat} {xs ys xs' ys' : List Nat}
    (h1 : Rd .u32 w a n c xs) (h2 : Rd .u32 w b m d ys) (h3 : Rd .u32 w a' n' c' xs') (h4 : Rd .u32 w b' m' d' ys')
    (hF : chkV ⟨g1, xs, ys⟩ = 0 → chkV ⟨g2, xs', ys'⟩ = 0 → ∀ w', Below w.heap.size w w' → Calls Tryd.prog 34 #[pairV g1 a n c b m d g2 a' n' c' b' m' d'] w' (RetQE w' r)) :
    Calls Tryd.prog 23 #[pairV g1 a n c b m d g2 a' n' c' b' m' d', .func (.func 34) #[pairV g1 a n c b m d g2 a' n' c' b' m' d'] #[]] w
      (RetQE w (if chkV ⟨g1, xs, ys⟩ = 0 ∧ chkV ⟨g2, xs', ys'⟩ = 0 then r else (zeroV, 8))) := by
  obtain ⟨q, hq⟩ : ∃ q, q = (if chkV ⟨g1, xs, ys⟩ = 0 ∧ chkV ⟨g2, xs', ys'⟩ = 0 then r else (zeroV, 8)) := ⟨_, rfl⟩
  rw [← hq]
  have H0 := Has.new w #[.bool g1, .slice a n c, .slice b m d, .bool g2, .slice a' n' c', .slice b' m' d'] 49
  have R0 := Row.second w (.cells #[.bool g1, .slice a n c, .slice b m d, .bool g2, .slice a' n' c', .slice b' m' d'] 49) #[.bool false, .slice none 0 0, .slice none 0 0]
  have H1 := H0.later R0.below
  have k0 := H1.cell 0 _ rfl
  have k1 := H1.cell 1 _ rfl
  have k2 := H1.cell 2 _ rfl
  have HF := Lib.hid hF
  clear hF
  by_cases c1 : chkV ⟨g1, xs, ys⟩ = 0
  · by_cases c2 : chkV ⟨g2, xs', ys'⟩ = 0
    · have hres := Lib.hid (show q = r by rw [hq, if_pos ⟨c1, c2⟩])
      have C1 := Lib.hid c1
      have C2 := Lib.hid c2
      clear hq c1 c2
      go_enter Tryd.func23, Tryd.ntmps23
      go_wp2_with fail
      have cc := ratCheck_any (neg := g1) _ (h1.below H1.below) (h2.below H1.below)
      rw [C1.out] at cc
      refine cc.mono ?_
      rintro e1 w1 ⟨rfl, hb⟩
      clear cc
      have R1 := R0.later hb
      have H2 := H1.later hb
      have k3 := H2.cell 3 _ rfl
      have k4 := H2.cell 4 _ rfl
      have k5 := H2.cell 5 _ rfl
      clear k0 k1 k2 hb
      go_wp2_with fail
      have cc := ratCheck_any (neg := g2) _ (h3.below H2.below) (h4.below H2.below)
      rw [C2.out] at cc
      refine cc.mono ?_
      rintro e1 w2 ⟨rfl, hb⟩
      clear cc
      have R2 := R1.later hb
      have H3 := H2.later hb
      clear k3 k4 k5 hb
      go_wp2_with fail
      refine (HF.out C1.out C2.out _ H3.below).mono ?_
      rintro e2 w3 ⟨ap, np, cp, aq, nq, cq, rfl, hp, hq, hb⟩
      have R3 := R2.later hb
      have row := R3.row
      have HB := Lib.hid (fun cs => H0.below.trans ((below_row R3.below R3.lo cs).mono (by rw [World.size_alloc]; omega)))
      have fin := Lib.hid (fun cs => (⟨rd_rowset hp row (rat_noint _ _ _ _ _ _ _) cs, rd_rowset hq row (rat_noint _ _ _ _ _ _ _) cs⟩ : _ ∧ _))
      clear hb
      go_wp2_with (refine wpList_store_whole rfl 24 _ _ rfl atRat _ _ _ row rfl rfl rfl rfl (rat_one _ _ _ _ _ _ _) ?_)
      refine bodyPost_ret (results_cell_two rfl _ _ _ _ _ _ _ rfl (setRow_heap _ _ _ _ _ _ row) Tryd.underlying24 rfl (by kernel_rfl) _ rfl) rfl ?_
      rw [hres.out]
      exact ⟨ap, np, cp, aq, nq, cq, rfl, (fin.out _).1, (fin.out _).2, HB.out _⟩
    · have hres := Lib.hid (show q = (zeroV, 8) by rw [hq, if_neg (fun hh => c2 hh.2)])
      have C1 := Lib.hid c1
      have C2 := Lib.hid ((chkV_two _).resolve_left c2)
      clear hq c1 c2
      go_enter Tryd.func23, Tryd.ntmps23
      go_wp2_with fail
      have cc := ratCheck_any (neg := g1) _ (h1.below H1.below) (h2.below H1.below)
      rw [C1.out] at cc
      refine cc.mono ?_
      rintro e1 w1 ⟨rfl, hb⟩
      clear cc
      have R1 := R0.later hb
      have H2 := H1.later hb
      have k3 := H2.cell 3 _ rfl
      have k4 := H2.cell 4 _ rfl
      have k5 := H2.cell 5 _ rfl
      clear k0 k1 k2 hb
      go_wp2_with fail
      have cc := ratCheck_any (neg := g2) _ (h3.below H2.below) (h4.below H2.below)
      rw [C2.out] at cc
      refine cc.mono ?_
      rintro e1 w2 ⟨rfl, hb⟩
      clear cc
      have R2 := R1.later hb
      have row := R2.row
      clear k3 k4 k5 hb
      go_wp2_with (refine wpList_store_whole rfl 24 _ _ rfl atRat _ _ _ row rfl rfl rfl rfl (rat_one _ _ _ _ _ _ _) ?_)
      refine bodyPost_ret (results_cell_two rfl _ _ _ _ _ _ _ rfl (setRow_heap _ _ _ _ _ _ row) Tryd.underlying24 rfl (by kernel_rfl) _ rfl) rfl ?_
      refine ⟨none, 0, 0, none, 0, 0, by rw [hres.out]; rfl, ?_, ?_, H0.below.trans ((below_row R2.below R2.lo _).mono (by rw [World.size_alloc]; omega))⟩
      · rw [hres.out]; exact Rd.nil _ _
      · rw [hres.out]; exact Rd.nil _ _
  · have hres := Lib.hid (show q = (zeroV, 8) by rw [hq, if_neg (fun hh => c1 hh.1)])
    have C1 := Lib.hid ((chkV_two _).resolve_left c1)
    clear hq c1
    go_enter Tryd.func23, Tryd.ntmps23
    go_wp2_with fail
    have cc := ratCheck_any (neg := g1) _ (h1.below H1.below) (h2.below H1.below)
    rw [C1.out] at cc
    refine cc.mono ?_
    rintro e1 w1 ⟨rfl, hb⟩
    clear cc
    have R2 := R0.later hb
    have row := R2.row
    clear k0 k1 k2 hb
    go_wp2_with (refine wpList_store_whole rfl 24 _ _ rfl atRat _ _ _ row rfl rfl rfl rfl (rat_one _ _ _ _ _ _ _) ?_)
    refine bodyPost_ret (results_cell_two rfl _ _ _ _ _ _ _ rfl (setRow_heap _ _ _ _ _ _ row) Tryd.underlying24 rfl (by kernel_rfl) _ rfl) rfl ?_
    refine ⟨none, 0, 0, none, 0, 0, by rw [hres.out]; rfl, ?_, ?_, H0.below.trans ((below_row R2.below R2.lo _).mono (by rw [World.size_alloc]; omega))⟩
    · rw [hres.out]; exact Rd.nil _ _
    · rw [hres.out]; exact Rd.nil _ _
set_option maxRecDepth 100000 in
set_option maxHeartbeats 1000000 in
theorem does_product (w : World) (r : QV × Int) {g1 g2 : Bool} {a b a' b' : Option Addr} {n m c d n' m' c' d' : Nat} {xs ys xs' ys' : List Nat}
    (h1 : Rd .u32 w a n c xs) (h2 : Rd .u32 w b m d ys) (h3 : Rd .u32 w a' n' c' xs') (h4 : Rd .u32 w b' m' d' ys')
    (hF : chkV ⟨g1, xs, ys⟩ = 0 → chkV ⟨g2, xs', ys'⟩ = 0 → ∀ w', Below w.heap.size w w' → Calls Tryd.prog 24 #[pairV g1 a n c b m d g2 a' n' c' b' m' d'] w' (RetQE w' r)) :
    Calls Tryd.prog 23 #[pairV g1 a n c b m d g2 a' n' c' b' m' d', .func (.func 24) #[pairV g1 a n c b m d g2 a' n' c' b' m' d'] #[]] w
      (RetQE w (if chkV ⟨g1, xs, ys⟩ = 0 ∧ chkV ⟨g2, xs', ys'⟩ = 0 then r else (zeroV, 8))) := by
  obtain ⟨q, hq⟩ : ∃ q, q = (if chkV ⟨g1, xs, ys⟩ = 0 ∧ chkV ⟨g2, xs', ys'⟩ = 0 then r else (zeroV, 8)) := ⟨_, rfl⟩
  rw [← hq]
  have H0 := Has.new w #[.bool g1, .slice a n c, .slice b m d, .bool g2, .slice a' n' c', .slice b' m' d'] 49
  have R0 := Row.second w (.cells #[.bool g1, .slice a n c, .slice b m d, .bool g2, .slice a' n' c', .slice b' m' d'] 49) #[.bool false, .slice none 0 0, .slice none 0 0]
  have H1 := H0.later R0.below
  have k0 := H1.cell 0 _ rfl
  have k1 := H1.cell 1 _ rfl
  have k2 := H1.cell 2 _ rfl
  have HF := Lib.hid hF
  clear hF
  by_cases c1 : chkV ⟨g1, xs, ys⟩ = 0
  · by_cases c2 : chkV ⟨g2, xs', ys'⟩ = 0
    · have hres := Lib.hid (show q = r by rw [hq, if_pos ⟨c1, c2⟩])
      have C1 := Lib.hid c1
      have C2 := Lib.hid c2
      clear hq c1 c2
      go_enter Tryd.func23, Tryd.ntmps23
      go_wp2_with fail
      have cc := ratCheck_any (neg := g1) _ (h1.below H1.below) (h2.below H1.below)
      rw [C1.out] at cc
      refine cc.mono ?_
      rintro e1 w1 ⟨rfl, hb⟩
      clear cc
      have R1 := R0.later hb
      have H2 := H1.later hb
      have k3 := H2.cell 3 _ rfl
      have k4 := H2.cell 4 _ rfl
      have k5 := H2.cell 5 _ rfl
      clear k0 k1 k2 hb
      go_wp2_with fail
      have cc := ratCheck_any (neg := g2) _ (h3.below H2.below) (h4.below H2.below)
      rw [C2.out] at cc
      refine cc.mono ?_
      rintro e1 w2 ⟨rfl, hb⟩
      clear cc
      have R2 := R1.later hb
      have H3 := H2.later hb
      clear k3 k4 k5 hb
      go_wp2_with fail
      refine (HF.out C1.out C2.out _ H3.below).mono ?_
      rintro e2 w3 ⟨ap, np, cp, aq, nq, cq, rfl, hp, hq, hb⟩
      have R3 := R2.later hb
      have row := R3.row
      have HB := Lib.hid (fun cs => H0.below.trans ((below_row R3.below R3.lo cs).mono (by rw [World.size_alloc]; omega)))
      have fin := Lib.hid (fun cs => (⟨rd_rowset hp row (rat_noint _ _ _ _ _ _ _) cs, rd_rowset hq row (rat_noint _ _ _ _ _ _ _) cs⟩ : _ ∧ _))
      clear hb
      go_wp2_with (refine wpList_store_whole rfl 24 _ _ rfl atRat _ _ _ row rfl rfl rfl rfl (rat_one _ _ _ _ _ _ _) ?_)
      refine bodyPost_ret (results_cell_two rfl _ _ _ _ _ _ _ rfl (setRow_heap _ _ _ _ _ _ row) Tryd.underlying24 rfl (by kernel_rfl) _ rfl) rfl ?_
      rw [hres.out]
      exact ⟨ap, np, cp, aq, nq, cq, rfl, (fin.out _).1, (fin.out _).2, HB.out _⟩
    · have hres := Lib.hid (show q = (zeroV, 8) by rw [hq, if_neg (fun hh => c2 hh.2)])
      have C1 := Lib.hid c1
      have C2 := Lib.hid ((chkV_two _).resolve_left c2)
      clear hq c1 c2
      go_enter Tryd.func23, Tryd.ntmps23
      go_wp2_with fail
      have cc := ratCheck_any (neg := g1) _ (h1.below H1.below) (h2.below H1.below)
      rw [C1.out] at cc
      refine cc.mono ?_
      rintro e1 w1 ⟨rfl, hb⟩
      clear cc
      have R1 := R0.later hb
      have H2 := H1.later hb
      have k3 := H2.cell 3 _ rfl
      have k4 := H2.cell 4 _ rfl
      have k5 := H2.cell 5 _ rfl
      clear k0 k1 k2 hb
      go_wp2_with fail
      have cc := ratCheck_any (neg := g2) _ (h3.below H2.below) (h4.below H2.below)
      rw [C2.out] at cc
      refine cc.mono ?_
      rintro e1 w2 ⟨rfl, hb⟩
      clear cc
      have R2 := R1.later hb
      have row := R2.row
      clear k3 k4 k5 hb
      go_wp2_with (refine wpList_store_whole rfl 24 _ _ rfl atRat _ _ _ row rfl rfl rfl rfl (rat_one _ _ _ _ _ _ _) ?_)
      refine bodyPost_ret (results_cell_two rfl _ _ _ _ _ _ _ rfl (setRow_heap _ _ _ _ _ _ row) Tryd.underlying24 rfl (by kernel_rfl) _ rfl) rfl ?_
      refine ⟨none, 0, 0, none, 0, 0, by rw [hres.out]; rfl, ?_, ?_, H0.below.trans ((below_row R2.below R2.lo _).mono (by rw [World.size_alloc]; omega))⟩
      · rw [hres.out]; exact Rd.nil _ _
      · rw [hres.out]; exact Rd.nil _ _
  · have hres := Lib.hid (show q = (zeroV, 8) by rw [hq, if_neg (fun hh => c1 hh.1)])
    have C1 := Lib.hid ((chkV_two _).resolve_left c1)
    clear hq c1
    go_enter Tryd.func23, Tryd.ntmps23
    go_wp2_with fail
    have cc := ratCheck_any (neg := g1) _ (h1.below H1.below) (h2.below H1.below)
    rw [C1.out] at cc
    refine cc.mono ?_
    rintro e1 w1 ⟨rfl, hb⟩
    clear cc
    have R2 := R0.later hb
    have row := R2.row
    clear k0 k1 k2 hb
    go_wp2_with (refine wpList_store_whole rfl 24 _ _ rfl atRat _ _ _ row rfl rfl rfl rfl (rat_one _ _ _ _ _ _ _) ?_)
    refine bodyPost_ret (results_cell_two rfl _ _ _ _ _ _ _ rfl (setRow_heap _ _ _ _ _ _ row) Tryd.underlying24 rfl (by kernel_rfl) _ rfl) rfl ?_
    refine ⟨none, 0, 0, none, 0, 0, by rw [hres.out]; rfl, ?_, ?_, H0.below.trans ((below_row R2.below R2.lo _).mono (by rw [World.size_alloc]; omega))⟩
    · rw [hres.out]; exact Rd.nil _ _
    · rw [hres.out]; exact Rd.nil _ _

theorem prodV_eq (p q : Rat) : prodV (decide (p.num < 0)) (decide (q.num < 0)) p.num.natAbs p.den q.num.natAbs q.den = mulQ p q := by
  unfold prodV mulQ
  rw [mul_low]

theorem quoV_eq (p q : Rat) : quoV (decide (p.num < 0)) (decide (q.num < 0)) p.num.natAbs p.den q.num.natAbs q.den = divQ p q := by
  unfold quoV divQ
  by_cases h : q = 0
  · rw [if_pos h, if_pos (by rw [h]; rfl)]
  · have hn : q.num ≠ 0 := fun e => h (Rat.num_eq_zero.1 e)
    rw [if_neg h, if_neg (by omega), ← prodV_eq]
    have e := ofQ_inv h
    unfold ofQ at e
    injection e with e1 e2 e3
    rw [e1]
    have e4 : q⁻¹.num.natAbs = q.den := limbs_inj e2
    have e5 : q⁻¹.den = q.num.natAbs := limbs_inj e3
    rw [e4, e5]

theorem pair_one (g1 : Bool) (a : Option Addr) (n c : Nat) (b : Option Addr) (m d : Nat) (g2 : Bool) (a' : Option Addr) (n' c' : Nat) (b' : Option Addr) (m' d' : Nat) :
    ∀ u ∈ (#[.bool g1, .slice a n c, .slice b m d, .bool g2, .slice a' n' c', .slice b' m' d'] : Array Value).toList, u.oneCell' = true := by
  intro u hu
  simp only [List.mem_cons, List.not_mem_nil, or_false] at hu
  rcases hu with rfl | rfl | rfl | rfl | rfl | rfl <;> rfl

theorem atPair : AT Tryd.prog 49 6 := ⟨⟨_, Tryd.underlying49, rfl⟩, by kernel_rfl⟩

/-- The world in which an operation of two numbers has laid its operands, its result and its pair. -/
theorem laid_four (w : World) (x y z : Array Value) (v : Array Value) :
    Has w (((w.alloc (.cells x 24)).alloc (.cells y 24)).alloc (.cells z 24)) w.heap.size x ∧
    Has w (((w.alloc (.cells x 24)).alloc (.cells y 24)).alloc (.cells z 24)) (w.heap.size + 1) y ∧
    Row w ((((w.alloc (.cells x 24)).alloc (.cells y 24)).alloc (.cells z 24)).alloc (.cells v 49)) (w.heap.size + 1 + 1) z ∧
    Has w ((((w.alloc (.cells x 24)).alloc (.cells y 24)).alloc (.cells z 24)).alloc (.cells v 49)) (w.heap.size + 1 + 1 + 1) v := by
  have s1 : (w.alloc (.cells x 24)).heap.size = w.heap.size + 1 := World.size_alloc _ _
  have s2 : ((w.alloc (.cells x 24)).alloc (.cells y 24)).heap.size = w.heap.size + 1 + 1 := by rw [World.size_alloc, s1]
  have s3 : (((w.alloc (.cells x 24)).alloc (.cells y 24)).alloc (.cells z 24)).heap.size = w.heap.size + 1 + 1 + 1 := by rw [World.size_alloc, s2]
  have h1 := Has.new w x 24
  have h2 := Has.new (w.alloc (.cells x 24)) y 24
  have h3 := Row.new ((w.alloc (.cells x 24)).alloc (.cells y 24)) z
  have h4 := Has.new (((w.alloc (.cells x 24)).alloc (.cells y 24)).alloc (.cells z 24)) v 49
  rw [s1] at h2
  rw [s2] at h3
  rw [s3] at h4
  have b2 : Below w.heap.size w ((w.alloc (.cells x 24)).alloc (.cells y 24)) := h1.below.trans (h2.below.mono (by omega))
  have b3 := b2.trans (h3.below.mono (by omega))
  have b4 := b3.trans (h4.below.mono (by omega))
  refine ⟨(h1.later (by rw [s1]; exact h2.below.mono (by omega))).later (h3.below.mono (by omega)), ?_, ?_, ?_⟩
  · have := h2.later h3.below
    exact ⟨b3, this.cell, this.lt⟩
  · have := h3.later (by rw [s3]; exact h4.below.mono (by omega))
    exact ⟨b4, this.row, by omega, this.lt⟩
  · exact ⟨b4, h4.cell, h4.lt⟩

set_option maxRecDepth 100000 in
set_option maxHeartbeats 1000000 in
theorem ratDiv_any (w : World) {g1 g2 : Bool} {a b a' b' : Option Addr} {n m c d n' m' c' d' : Nat} {xs ys xs' ys' : List Nat}
    (h1 : Rd .u32 w a n c xs) (h2 : Rd .u32 w b m d ys) (h3 : Rd .u32 w a' n' c' xs') (h4 : Rd .u32 w b' m' d' ys') :
    Calls Tryd.prog 15 #[ratV g1 a n c b m d, ratV g2 a' n' c' b' m' d'] w (RetQE w (divV ⟨g1, xs, ys⟩ ⟨g2, xs', ys'⟩)) := by
  obtain ⟨r, hr⟩ : ∃ r, r = divV ⟨g1, xs, ys⟩ ⟨g2, xs', ys'⟩ := ⟨_, rfl⟩
  rw [← hr]
  have hr' : r = if chkV ⟨g1, xs, ys⟩ = 0 ∧ chkV ⟨g2, xs', ys'⟩ = 0 then divQ (toQ ⟨g1, xs, ys⟩) (toQ ⟨g2, xs', ys'⟩) else (zeroV, 8) := hr
  have HR := Lib.hid hr'
  clear hr hr'
  obtain ⟨L1, L2, L3, L4⟩ := laid_four w #[.bool g1, .slice a n c, .slice b m d] #[.bool g2, .slice a' n' c', .slice b' m' d'] #[.bool false, .slice none 0 0, .slice none 0 0] #[.bool g1, .slice a n c, .slice b m d, .bool g2, .slice a' n' c', .slice b' m' d']
  have k0 := L1.cell 0 _ rfl
  have k1 := L1.cell 1 _ rfl
  have k2 := L1.cell 2 _ rfl
  have k3 := L2.cell 0 _ rfl
  have k4 := L2.cell 1 _ rfl
  have k5 := L2.cell 2 _ rfl
  have p0 := L4.cell 0 _ rfl
  have p1 := L4.cell 1 _ rfl
  have p2 := L4.cell 2 _ rfl
  have p3 := L4.cell 3 _ rfl
  have p4 := L4.cell 4 _ rfl
  have p5 := L4.cell 5 _ rfl
  go_enter Tryd.func15, Tryd.ntmps15
  go_wp2_with first | refine wpList_store_new rfl 49 _ _ rfl atPair _ _ _ rfl rfl rfl rfl (pair_one _ _ _ _ _ _ _ _ _ _ _ _ _ _) ?_
  have cc := does_quotient _ (divQ (toQ ⟨g1, xs, ys⟩) (toQ ⟨g2, xs', ys'⟩)) (h1.below L4.below) (h2.below L4.below) (h3.below L4.below) (h4.below L4.below) (by
    intro c1 c2 w' hw
    obtain ⟨p, e1, f1⟩ := chkV_get (x := ⟨g1, xs, ys⟩) h1.bd h2.bd c1
    obtain ⟨q, e2, f2⟩ := chkV_get (x := ⟨g2, xs', ys'⟩) h3.bd h4.bd c2
    rw [e1, e2, toQ_ofQ, toQ_ofQ, ← quoV_eq]
    unfold ofQ at e1 e2
    injection e1 with e1 e3 e4
    injection e2 with e2 e5 e6
    subst e1 e3 e4 e2 e5 e6
    have hB := L4.below.trans (hw.mono L4.below.size)
    exact quotient_any w' _ _ (h1.below hB) (h2.below hB) (h3.below hB) (h4.below hB) f1.1 f1.2 f2.1 f2.2 p.den_nz q.den_nz)
  rw [← HR.out] at cc
  refine cc.mono ?_
  rintro e2 w3 ⟨ap, np, cp, aq, nq, cq, rfl, hp, hq, hb⟩
  clear cc
  have R3 := L3.later hb
  have row := R3.row
  have HB := Lib.hid (fun cs => below_row R3.below R3.lo cs)
  have fin := Lib.hid (fun cs => (⟨rd_rowset hp row (rat_noint _ _ _ _ _ _ _) cs, rd_rowset hq row (rat_noint _ _ _ _ _ _ _) cs⟩ : _ ∧ _))
  clear hb k0 k1 k2 k3 k4 k5 p0 p1 p2 p3 p4 p5
  go_wp2_with (refine wpList_store_whole rfl 24 _ _ rfl atRat _ _ _ row rfl rfl rfl rfl (rat_one _ _ _ _ _ _ _) ?_)
  refine bodyPost_ret (results_cell_two rfl _ _ _ _ _ _ _ rfl (setRow_heap _ _ _ _ _ _ row) Tryd.underlying24 rfl (by kernel_rfl) _ rfl) rfl ?_
  exact ⟨ap, np, cp, aq, nq, cq, rfl, (fin.out _).1, (fin.out _).2, HB.out _⟩

end Go.Proofs.YtdaajeklnhbhjaaDoor
/- Rational numbers in the document's answer: far, Of, Whole, Same, side, both, Long. -/
namespace Go.Proofs.YtdaajeklnhbhjaaDoor
open Go.RowKit Go.Suf
set_option linter.unusedVariables false
set_option linter.unusedSimpArgs false

theorem wrap_i64 {n : Int} (h1 : -9223372036854775808 ≤ n) (h2 : n < 9223372036854775808) : IntKind.i64.wrap n = n := by
  simp [IntKind.wrap, IntKind.bits, IntKind.signed]
  omega

theorem wrap_u64 {n : Int} (h1 : 0 ≤ n) (h2 : n < 18446744073709551616) : IntKind.u64.wrap n = n := by
  simp [IntKind.wrap, IntKind.bits, IntKind.signed]
  omega

theorem lt_pw96 {A : Nat} (h : A < 18446744073709551616) : A < pw 96 := Nat.lt_of_lt_of_le (show A < pw 2 from h) (pw_le (by decide))

end Go.Proofs.YtdaajeklnhbhjaaDoor
/- Rational numbers in the document's answer: Whole, side, both, Same. -/
namespace Go.Proofs.YtdaajeklnhbhjaaDoor
open Go.RowKit Go.Suf
set_option linter.unusedVariables false
set_option linter.unusedSimpArgs false

def RetBB (w : World) (r : Bool) : Ending → World → Prop := fun e w' => e = .returned (.bool r) ∧ Below w.heap.size w w'

def sameV (x y : QV) : Bool := (x.neg == y.neg) && sameN x.num y.num && sameN x.den y.den

theorem two_boxes (w : World) (x y : Array Value) :
    Has w ((w.alloc (.cells x 24)).alloc (.cells y 24)) w.heap.size x ∧ Has w ((w.alloc (.cells x 24)).alloc (.cells y 24)) (w.heap.size + 1) y := by
  have s1 : (w.alloc (.cells x 24)).heap.size = w.heap.size + 1 := World.size_alloc _ _
  have h1 := Has.new w x 24
  have h2 := Has.new (w.alloc (.cells x 24)) y 24
  have h3 := h1.later h2.below
  rw [s1] at h2
  exact ⟨h3, h3.below, h2.cell, h2.lt⟩

set_option maxHeartbeats 1000000 in
theorem refRatSame_any (w : World) {g1 g2 : Bool} {a b a' b' : Option Addr} {n m c d n' m' c' d' : Nat} {xs ys xs' ys' : List Nat}
    (h1 : Rd .u32 w a n c xs) (h2 : Rd .u32 w b m d ys) (h3 : Rd .u32 w a' n' c' xs') (h4 : Rd .u32 w b' m' d' ys') :
    Calls Tryd.prog 7 #[ratV g1 a n c b m d, ratV g2 a' n' c' b' m' d'] w (RetBB w (sameV ⟨g1, xs, ys⟩ ⟨g2, xs', ys'⟩)) := by
  obtain ⟨r, hr⟩ : ∃ r, r = sameV ⟨g1, xs, ys⟩ ⟨g2, xs', ys'⟩ := ⟨_, rfl⟩
  rw [← hr]
  obtain ⟨L1, L2⟩ := two_boxes w #[.bool g1, .slice a n c, .slice b m d] #[.bool g2, .slice a' n' c', .slice b' m' d']
  have k0 := L1.cell 0 _ rfl
  have k1 := L1.cell 1 _ rfl
  have k3 := L2.cell 0 _ rfl
  have k4 := L2.cell 1 _ rfl
  by_cases hg : g1 = g2
  · subst hg
    have q1 : (g1 == g1) = true := by simp
    cases hs : sameN xs xs' with
    | false =>
      have e := Lib.hid (show r = false by rw [hr, sameV]; simp [hs])
      have HS := Lib.hid hs
      clear hr hs
      go_enter Tryd.func7, Tryd.ntmps7
      go_wp2_with fail
      have cc := refSame_any _ (h1.below L1.below) (h3.below L1.below)
      rw [HS.out] at cc
      refine cc.mono ?_
      rintro e1 w4 ⟨rfl, nq, rfl⟩
      clear cc
      go_wp2_with fail
      go_ret
      exact ⟨by rw [e.out]; rfl, below_drewN L1.below nq⟩
    | true =>
      have e := Lib.hid (show r = sameN ys ys' by rw [hr, sameV]; simp [hs])
      have HS := Lib.hid hs
      clear hr hs
      go_enter Tryd.func7, Tryd.ntmps7
      go_wp2_with fail
      have cc := refSame_any _ (h1.below L1.below) (h3.below L1.below)
      rw [HS.out] at cc
      refine cc.mono ?_
      rintro e1 w4 ⟨rfl, nq, rfl⟩
      clear cc
      have hd := fun (W : World) => below_drewN (Below.refl W.heap.size W) nq
      have L3 := L1.later (hd _)
      have L4 := L2.later (hd _)
      have k2 := L3.cell 2 _ rfl
      have k5 := L4.cell 2 _ rfl
      clear k0 k1 k3 k4
      go_wp2_with fail
      have cc := refSame_any _ (h2.below L3.below) (h4.below L3.below)
      rw [← e.out] at cc
      refine cc.mono ?_
      rintro e1 w4 ⟨rfl, mq, rfl⟩
      clear cc
      go_wp2_with fail
      go_ret
      exact ⟨rfl, below_drewN L1.below _⟩
  · have q1 : (g1 == g2) = false := by rw [beq_eq_false_iff_ne]; exact hg
    have e := Lib.hid (show r = false by rw [hr, sameV]; simp [q1])
    clear hr hg
    go_enter Tryd.func7, Tryd.ntmps7
    go_wp2_with fail
    go_ret
    exact ⟨by rw [e.out]; rfl, L1.below⟩

end Go.Proofs.YtdaajeklnhbhjaaDoor
