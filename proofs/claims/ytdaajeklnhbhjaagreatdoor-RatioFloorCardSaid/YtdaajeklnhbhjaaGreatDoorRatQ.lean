/- Rational numbers: the reference's Add, Sub, Mul, Div. No condition. Printed by gen_ratq.py. -/
import Derived.Test.YtdaajeklnhbhjaaGreatDoorRatP
import Derived.Test.YtdaajeklnhbhjaaGreatDoorRatH
import Derived.Test.YtdaajeklnhbhjaaGreatDoorRatD
namespace Go.Proofs.YtdaajeklnhbhjaaGreatDoor
open Go.RowKit Go.Suf
set_option linter.unusedVariables false
set_option linter.unusedSimpArgs false

theorem laid_three (w : World) (x y z : Array Value) :
    Has w (((w.alloc (.cells x 24)).alloc (.cells y 24)).alloc (.cells z 24)) w.heap.size x ∧
    Has w (((w.alloc (.cells x 24)).alloc (.cells y 24)).alloc (.cells z 24)) (w.heap.size + 1) y ∧
    Row w (((w.alloc (.cells x 24)).alloc (.cells y 24)).alloc (.cells z 24)) (w.heap.size + 1 + 1) z := by
  obtain ⟨h1, h2⟩ := two_boxes w x y
  have s2 : ((w.alloc (.cells x 24)).alloc (.cells y 24)).heap.size = w.heap.size + 1 + 1 := by rw [World.size_alloc, World.size_alloc]
  have h3 := Row.new ((w.alloc (.cells x 24)).alloc (.cells y 24)) z
  have hb := below_al ((w.alloc (.cells x 24)).alloc (.cells y 24)) (.cells z 24)
  rw [s2] at h3
  have h4 := h1.later hb
  exact ⟨h4, h2.later hb, h4.below, h3.row, by omega, h3.lt⟩

theorem addV_sum {x y : QV} (s1 : small32 x.num) (s2 : small32 x.den) (s3 : small32 y.num) (s4 : small32 y.den) (cx : chkV x = 0) (cy : chkV y = 0) : addV x y = sumV x.neg y.neg (val x.num) (val x.den) (val y.num) (val y.den) := by
  obtain ⟨p, e1, f1⟩ := chkV_get s1 s2 cx
  obtain ⟨q, e2, f2⟩ := chkV_get s3 s4 cy
  rw [addV, bothV, if_pos ⟨cx, cy⟩, e1, e2, toQ_ofQ, toQ_ofQ, ← sumV_eq]
  simp only [ofQ, val_limbs]

theorem mulV_prod {x y : QV} (s1 : small32 x.num) (s2 : small32 x.den) (s3 : small32 y.num) (s4 : small32 y.den) (cx : chkV x = 0) (cy : chkV y = 0) : mulV x y = prodV x.neg y.neg (val x.num) (val x.den) (val y.num) (val y.den) := by
  obtain ⟨p, e1, f1⟩ := chkV_get s1 s2 cx
  obtain ⟨q, e2, f2⟩ := chkV_get s3 s4 cy
  rw [mulV, bothV, if_pos ⟨cx, cy⟩, e1, e2, toQ_ofQ, toQ_ofQ, ← prodV_eq]
  simp only [ofQ, val_limbs]

theorem divV_quo {x y : QV} (s1 : small32 x.num) (s2 : small32 x.den) (s3 : small32 y.num) (s4 : small32 y.den) (cx : chkV x = 0) (cy : chkV y = 0) : divV x y = quoV x.neg y.neg (val x.num) (val x.den) (val y.num) (val y.den) := by
  obtain ⟨p, e1, f1⟩ := chkV_get s1 s2 cx
  obtain ⟨q, e2, f2⟩ := chkV_get s3 s4 cy
  rw [divV, bothV, if_pos ⟨cx, cy⟩, e1, e2, toQ_ofQ, toQ_ofQ, ← quoV_eq]
  simp only [ofQ, val_limbs]

theorem turn_ofQ (q : Rat) : turnV (ofQ q) = ofQ (-q) := by
  rw [ofQ_neg]
  exact turn_limbs _ _ _

theorem subV_add {x y : QV} (s3 : small32 y.num) (s4 : small32 y.den) (cy : chkV y = 0) : subV x y = addV x (turnV y) := by
  obtain ⟨q, e2, f2⟩ := chkV_get s3 s4 cy
  rw [subV, addV, e2, turn_ofQ]
  unfold bothV
  rw [toQ_ofQ, toQ_ofQ]
  have c1 := chkV_ofQ f2
  have c2 := chkV_ofQ (fitQ_neg f2)
  rw [c1, c2]

set_option maxRecDepth 100000 in
set_option maxHeartbeats 4000000 in
theorem refRatAdd_any (w : World) {g1 g2 : Bool} {a b a' b' : Option Addr} {n m c d n' m' c' d' : Nat} {xs ys xs' ys' : List Nat}
    (h1 : Rd .u32 w a n c xs) (h2 : Rd .u32 w b m d ys) (h3 : Rd .u32 w a' n' c' xs') (h4 : Rd .u32 w b' m' d' ys') :
    Calls Tryz.prog 28 #[ratV g1 a n c b m d, ratV g2 a' n' c' b' m' d'] w (RetQE w (addV ⟨g1, xs, ys⟩ ⟨g2, xs', ys'⟩)) := by
  obtain ⟨r, hr⟩ : ∃ r, r = addV ⟨g1, xs, ys⟩ ⟨g2, xs', ys'⟩ := ⟨_, rfl⟩
  rw [← hr]
  by_cases hc : chkV ⟨g1, xs, ys⟩ = 0 ∧ chkV ⟨g2, xs', ys'⟩ = 0
  case neg =>
    have hres := Lib.hid (show r = (zeroV, 8) by rw [hr, addV, bothV, if_neg hc])
    have BO := Lib.hid (show bothOk ⟨g1, xs, ys⟩ ⟨g2, xs', ys'⟩ = false from decide_eq_false hc)
    clear hr hc
    obtain ⟨h_x_0, h_y_0, h_r_0⟩ := laid_three w #[.bool g1, .slice a n c, .slice b m d] #[.bool g2, .slice a' n' c', .slice b' m' d'] #[.bool false, .slice none 0 0, .slice none 0 0]
    have B0 := h_x_0.below
    have h_xn_0 := h1.below h_x_0.below
    have h_xd_0 := h2.below h_x_0.below
    have h_yn_0 := h3.below h_x_0.below
    have h_yd_0 := h4.below h_x_0.below
    have k_x_0 := h_x_0.cell 0 _ rfl
    have k_x_1 := h_x_0.cell 1 _ rfl
    have k_x_2 := h_x_0.cell 2 _ rfl
    have k_y_0 := h_y_0.cell 0 _ rfl
    have k_y_1 := h_y_0.cell 1 _ rfl
    have k_y_2 := h_y_0.cell 2 _ rfl
    go_enter Tryz.func28, Tryz.ntmps28
    go_wp2_with fail
    clear k_x_0 k_x_1 k_x_2 k_y_0 k_y_1 k_y_2
    generalize ((w.alloc (.cells #[.bool g1, .slice a n c, .slice b m d] 24)).alloc (.cells #[.bool g2, .slice a' n' c', .slice b' m' d'] 24)).alloc (.cells #[.bool false, .slice none 0 0, .slice none 0 0] 24) = w0 at *
    have c := refRatBoth_any w0 (g1 := g1) (g2 := g2) h_xn_0 h_xd_0 h_yn_0 h_yd_0
    rw [BO.out] at c
    refine c.mono ?_
    rintro e w1 ⟨rfl, hb⟩
    clear c
    have B1 := B0.trans (hb.mono B0.size)
    have h_xn_1 := h_xn_0.below hb
    have h_xd_1 := h_xd_0.below hb
    have h_yn_1 := h_yn_0.below hb
    have h_yd_1 := h_yd_0.below hb
    have h_x_1 := h_x_0.later hb
    have h_y_1 := h_y_0.later hb
    have h_r_1 := h_r_0.later hb
    clear hb B0 h_xn_0 h_xd_0 h_yn_0 h_yd_0 h_x_0 h_y_0 h_r_0
    have row := h_r_1.row
    go_wp2_with first | refine wpList_store_whole rfl 24 _ _ rfl atRat _ _ _ row rfl rfl rfl rfl (rat_one _ _ _ _ _ _ _) ?_
    refine bodyPost_ret (results_cell_two rfl _ _ _ _ _ _ _ rfl (setRow_heap _ _ _ _ _ _ row) Tryz.underlying24 rfl (by kernel_rfl) _ rfl) rfl ?_
    refine ⟨none, 0, 0, none, 0, 0, by rw [hres.out]; (try rfl), ?_, ?_, below_row h_r_1.below h_r_1.lo _⟩
    · rw [hres.out]; exact Rd.nil _ _
    · rw [hres.out]; exact Rd.nil _ _
  have BO := Lib.hid (show bothOk ⟨g1, xs, ys⟩ ⟨g2, xs', ys'⟩ = true from decide_eq_true hc)
  rw [addV_sum (x := ⟨g1, xs, ys⟩) (y := ⟨g2, xs', ys'⟩) h1.bd h2.bd h3.bd h4.bd hc.1 hc.2] at hr
  obtain ⟨e1, e2, l1, l2, z1, -, -⟩ := chkV_parts (x := ⟨g1, xs, ys⟩) h1.bd h2.bd hc.1
  obtain ⟨e3, e4, l3, l4, z2, -, -⟩ := chkV_parts (x := ⟨g2, xs', ys'⟩) h3.bd h4.bd hc.2
  dsimp only at hr e1 e2 e3 e4 l1 l2 l3 l4 z1 z2
  obtain ⟨N1, hN1⟩ : ∃ N, N = val xs := ⟨_, rfl⟩
  obtain ⟨D1, hD1⟩ : ∃ N, N = val ys := ⟨_, rfl⟩
  obtain ⟨N2, hN2⟩ : ∃ N, N = val xs' := ⟨_, rfl⟩
  obtain ⟨D2, hD2⟩ : ∃ N, N = val ys' := ⟨_, rfl⟩
  rw [← hN1, ← hD1, ← hN2, ← hD2] at hr
  rw [← hN1] at e1 l1
  rw [← hD1] at e2 l2 z1
  rw [← hN2] at e3 l3
  rw [← hD2] at e4 l4 z2
  subst e1 e2 e3 e4
  clear hc hN1 hD1 hN2 hD2
  by_cases e1 : N1 * D2 < pw 96
  case neg =>
    have hres := Lib.hid (show r = (zeroV, 30) by rw [hr, sumV, if_neg (fun h => e1 h.1)])
    have E1 := Lib.hid e1
    obtain ⟨fb, hfb⟩ : ∃ f, f = fitC (N2 * D1) := ⟨_, rfl⟩
    obtain ⟨fd, hfd⟩ : ∃ f, f = fitC (D1 * D2) := ⟨_, rfl⟩
    have FB := Lib.hid hfb.symm
    have FD := Lib.hid hfd.symm
    clear hr e1 hfb hfd
    obtain ⟨h_x_0, h_y_0, h_r_0⟩ := laid_three w #[.bool g1, .slice a n c, .slice b m d] #[.bool g2, .slice a' n' c', .slice b' m' d'] #[.bool false, .slice none 0 0, .slice none 0 0]
    have B0 := h_x_0.below
    have h_xn_0 := h1.below h_x_0.below
    have h_xd_0 := h2.below h_x_0.below
    have h_yn_0 := h3.below h_x_0.below
    have h_yd_0 := h4.below h_x_0.below
    have k_x_0 := h_x_0.cell 0 _ rfl
    have k_x_1 := h_x_0.cell 1 _ rfl
    have k_x_2 := h_x_0.cell 2 _ rfl
    have k_y_0 := h_y_0.cell 0 _ rfl
    have k_y_1 := h_y_0.cell 1 _ rfl
    have k_y_2 := h_y_0.cell 2 _ rfl
    go_enter Tryz.func28, Tryz.ntmps28
    go_wp2_with fail
    clear k_x_0 k_x_1 k_x_2 k_y_0 k_y_1 k_y_2
    generalize ((w.alloc (.cells #[.bool g1, .slice a n c, .slice b m d] 24)).alloc (.cells #[.bool g2, .slice a' n' c', .slice b' m' d'] 24)).alloc (.cells #[.bool false, .slice none 0 0, .slice none 0 0] 24) = w0 at *
    have c := refRatBoth_any w0 (g1 := g1) (g2 := g2) h_xn_0 h_xd_0 h_yn_0 h_yd_0
    rw [BO.out] at c
    refine c.mono ?_
    rintro e w1 ⟨rfl, hb⟩
    clear c
    have B1 := B0.trans (hb.mono B0.size)
    have h_xn_1 := h_xn_0.below hb
    have h_xd_1 := h_xd_0.below hb
    have h_yn_1 := h_yn_0.below hb
    have h_yd_1 := h_yd_0.below hb
    have h_x_1 := h_x_0.later hb
    have h_y_1 := h_y_0.later hb
    have h_r_1 := h_r_0.later hb
    clear hb B0 h_xn_0 h_xd_0 h_yn_0 h_yd_0 h_x_0 h_y_0 h_r_0
    have k_x_1 := h_x_1.cell 1 _ rfl
    have k_y_2 := h_y_1.cell 2 _ rfl
    go_wp2_with fail
    clear k_x_1 k_y_2
    have c := refMul_any w1 h_xn_1 h_yd_1
    rw [mul_limbs l1 l4] at c
    rw [fit_great E1.out] at c
    refine c.mono ?_
    rintro e w2 ⟨a_a, n_a, c_a, rfl, h_a_2, hb⟩
    clear c
    have B2 := B1.trans (hb.mono B1.size)
    have h_xn_2 := h_xn_1.below hb
    have h_xd_2 := h_xd_1.below hb
    have h_yn_2 := h_yn_1.below hb
    have h_yd_2 := h_yd_1.below hb
    have h_x_2 := h_x_1.later hb
    have h_y_2 := h_y_1.later hb
    have h_r_2 := h_r_1.later hb
    clear hb B1 h_xn_1 h_xd_1 h_yn_1 h_yd_1 h_x_1 h_y_1 h_r_1
    have k_y_1 := h_y_2.cell 1 _ rfl
    have k_x_2 := h_x_2.cell 2 _ rfl
    go_wp2_with fail
    clear k_y_1 k_x_2
    have c := refMul_any w2 h_yn_2 h_xd_2
    rw [mul_limbs l3 l2] at c
    rw [FB.out] at c
    refine c.mono ?_
    rintro e w3 ⟨a_b, n_b, c_b, rfl, h_b_3, hb⟩
    clear c
    have B3 := B2.trans (hb.mono B2.size)
    have h_xn_3 := h_xn_2.below hb
    have h_xd_3 := h_xd_2.below hb
    have h_yn_3 := h_yn_2.below hb
    have h_yd_3 := h_yd_2.below hb
    have h_x_3 := h_x_2.later hb
    have h_y_3 := h_y_2.later hb
    have h_r_3 := h_r_2.later hb
    have h_a_3 := h_a_2.below hb
    clear hb B2 h_xn_2 h_xd_2 h_yn_2 h_yd_2 h_x_2 h_y_2 h_r_2 h_a_2
    have k_x_2 := h_x_3.cell 2 _ rfl
    have k_y_2 := h_y_3.cell 2 _ rfl
    go_wp2_with fail
    clear k_x_2 k_y_2
    have c := refMul_any w3 h_xd_3 h_yd_3
    rw [mul_limbs l2 l4] at c
    rw [FD.out] at c
    refine c.mono ?_
    rintro e w4 ⟨a_d, n_d, c_d, rfl, h_d_4, hb⟩
    clear c
    have B4 := B3.trans (hb.mono B3.size)
    have h_xn_4 := h_xn_3.below hb
    have h_xd_4 := h_xd_3.below hb
    have h_yn_4 := h_yn_3.below hb
    have h_yd_4 := h_yd_3.below hb
    have h_x_4 := h_x_3.later hb
    have h_y_4 := h_y_3.later hb
    have h_r_4 := h_r_3.later hb
    have h_a_4 := h_a_3.below hb
    have h_b_4 := h_b_3.below hb
    clear hb B3 h_xn_3 h_xd_3 h_yn_3 h_yd_3 h_x_3 h_y_3 h_r_3 h_a_3 h_b_3
    have row := h_r_4.row
    go_wp2_with first | refine wpList_store_whole rfl 24 _ _ rfl atRat _ _ _ row rfl rfl rfl rfl (rat_one _ _ _ _ _ _ _) ?_
    refine bodyPost_ret (results_cell_two rfl _ _ _ _ _ _ _ rfl (setRow_heap _ _ _ _ _ _ row) Tryz.underlying24 rfl (by kernel_rfl) _ rfl) rfl ?_
    refine ⟨none, 0, 0, none, 0, 0, by rw [hres.out]; (try rfl), ?_, ?_, below_row h_r_4.below h_r_4.lo _⟩
    · rw [hres.out]; exact Rd.nil _ _
    · rw [hres.out]; exact Rd.nil _ _
  by_cases e2 : N2 * D1 < pw 96
  case neg =>
    have hres := Lib.hid (show r = (zeroV, 30) by rw [hr, sumV, if_neg (fun h => e2 h.2.1)])
    have E1 := Lib.hid e1
    have E2 := Lib.hid e2
    obtain ⟨fd, hfd⟩ : ∃ f, f = fitC (D1 * D2) := ⟨_, rfl⟩
    have FD := Lib.hid hfd.symm
    clear hr e1 e2 hfd
    obtain ⟨h_x_0, h_y_0, h_r_0⟩ := laid_three w #[.bool g1, .slice a n c, .slice b m d] #[.bool g2, .slice a' n' c', .slice b' m' d'] #[.bool false, .slice none 0 0, .slice none 0 0]
    have B0 := h_x_0.below
    have h_xn_0 := h1.below h_x_0.below
    have h_xd_0 := h2.below h_x_0.below
    have h_yn_0 := h3.below h_x_0.below
    have h_yd_0 := h4.below h_x_0.below
    have k_x_0 := h_x_0.cell 0 _ rfl
    have k_x_1 := h_x_0.cell 1 _ rfl
    have k_x_2 := h_x_0.cell 2 _ rfl
    have k_y_0 := h_y_0.cell 0 _ rfl
    have k_y_1 := h_y_0.cell 1 _ rfl
    have k_y_2 := h_y_0.cell 2 _ rfl
    go_enter Tryz.func28, Tryz.ntmps28
    go_wp2_with fail
    clear k_x_0 k_x_1 k_x_2 k_y_0 k_y_1 k_y_2
    generalize ((w.alloc (.cells #[.bool g1, .slice a n c, .slice b m d] 24)).alloc (.cells #[.bool g2, .slice a' n' c', .slice b' m' d'] 24)).alloc (.cells #[.bool false, .slice none 0 0, .slice none 0 0] 24) = w0 at *
    have c := refRatBoth_any w0 (g1 := g1) (g2 := g2) h_xn_0 h_xd_0 h_yn_0 h_yd_0
    rw [BO.out] at c
    refine c.mono ?_
    rintro e w1 ⟨rfl, hb⟩
    clear c
    have B1 := B0.trans (hb.mono B0.size)
    have h_xn_1 := h_xn_0.below hb
    have h_xd_1 := h_xd_0.below hb
    have h_yn_1 := h_yn_0.below hb
    have h_yd_1 := h_yd_0.below hb
    have h_x_1 := h_x_0.later hb
    have h_y_1 := h_y_0.later hb
    have h_r_1 := h_r_0.later hb
    clear hb B0 h_xn_0 h_xd_0 h_yn_0 h_yd_0 h_x_0 h_y_0 h_r_0
    have k_x_1 := h_x_1.cell 1 _ rfl
    have k_y_2 := h_y_1.cell 2 _ rfl
    go_wp2_with fail
    clear k_x_1 k_y_2
    have c := refMul_any w1 h_xn_1 h_yd_1
    rw [mul_limbs l1 l4] at c
    rw [fit_limbs E1.out] at c
    refine c.mono ?_
    rintro e w2 ⟨a_a, n_a, c_a, rfl, h_a_2, hb⟩
    clear c
    have B2 := B1.trans (hb.mono B1.size)
    have h_xn_2 := h_xn_1.below hb
    have h_xd_2 := h_xd_1.below hb
    have h_yn_2 := h_yn_1.below hb
    have h_yd_2 := h_yd_1.below hb
    have h_x_2 := h_x_1.later hb
    have h_y_2 := h_y_1.later hb
    have h_r_2 := h_r_1.later hb
    clear hb B1 h_xn_1 h_xd_1 h_yn_1 h_yd_1 h_x_1 h_y_1 h_r_1
    have k_y_1 := h_y_2.cell 1 _ rfl
    have k_x_2 := h_x_2.cell 2 _ rfl
    go_wp2_with fail
    clear k_y_1 k_x_2
    have c := refMul_any w2 h_yn_2 h_xd_2
    rw [mul_limbs l3 l2] at c
    rw [fit_great E2.out] at c
    refine c.mono ?_
    rintro e w3 ⟨a_b, n_b, c_b, rfl, h_b_3, hb⟩
    clear c
    have B3 := B2.trans (hb.mono B2.size)
    have h_xn_3 := h_xn_2.below hb
    have h_xd_3 := h_xd_2.below hb
    have h_yn_3 := h_yn_2.below hb
    have h_yd_3 := h_yd_2.below hb
    have h_x_3 := h_x_2.later hb
    have h_y_3 := h_y_2.later hb
    have h_r_3 := h_r_2.later hb
    have h_a_3 := h_a_2.below hb
    clear hb B2 h_xn_2 h_xd_2 h_yn_2 h_yd_2 h_x_2 h_y_2 h_r_2 h_a_2
    have k_x_2 := h_x_3.cell 2 _ rfl
    have k_y_2 := h_y_3.cell 2 _ rfl
    go_wp2_with fail
    clear k_x_2 k_y_2
    have c := refMul_any w3 h_xd_3 h_yd_3
    rw [mul_limbs l2 l4] at c
    rw [FD.out] at c
    refine c.mono ?_
    rintro e w4 ⟨a_d, n_d, c_d, rfl, h_d_4, hb⟩
    clear c
    have B4 := B3.trans (hb.mono B3.size)
    have h_xn_4 := h_xn_3.below hb
    have h_xd_4 := h_xd_3.below hb
    have h_yn_4 := h_yn_3.below hb
    have h_yd_4 := h_yd_3.below hb
    have h_x_4 := h_x_3.later hb
    have h_y_4 := h_y_3.later hb
    have h_r_4 := h_r_3.later hb
    have h_a_4 := h_a_3.below hb
    have h_b_4 := h_b_3.below hb
    clear hb B3 h_xn_3 h_xd_3 h_yn_3 h_yd_3 h_x_3 h_y_3 h_r_3 h_a_3 h_b_3
    have row := h_r_4.row
    go_wp2_with first | refine wpList_store_whole rfl 24 _ _ rfl atRat _ _ _ row rfl rfl rfl rfl (rat_one _ _ _ _ _ _ _) ?_
    refine bodyPost_ret (results_cell_two rfl _ _ _ _ _ _ _ rfl (setRow_heap _ _ _ _ _ _ row) Tryz.underlying24 rfl (by kernel_rfl) _ rfl) rfl ?_
    refine ⟨none, 0, 0, none, 0, 0, by rw [hres.out]; (try rfl), ?_, ?_, below_row h_r_4.below h_r_4.lo _⟩
    · rw [hres.out]; exact Rd.nil _ _
    · rw [hres.out]; exact Rd.nil _ _
  by_cases e3 : D1 * D2 < pw 96
  case neg =>
    have hres := Lib.hid (show r = (zeroV, 30) by rw [hr, sumV, if_neg (fun h => e3 h.2.2)])
    have E1 := Lib.hid e1
    have E2 := Lib.hid e2
    have E3 := Lib.hid e3
    clear hr e1 e2 e3
    obtain ⟨h_x_0, h_y_0, h_r_0⟩ := laid_three w #[.bool g1, .slice a n c, .slice b m d] #[.bool g2, .slice a' n' c', .slice b' m' d'] #[.bool false, .slice none 0 0, .slice none 0 0]
    have B0 := h_x_0.below
    have h_xn_0 := h1.below h_x_0.below
    have h_xd_0 := h2.below h_x_0.below
    have h_yn_0 := h3.below h_x_0.below
    have h_yd_0 := h4.below h_x_0.below
    have k_x_0 := h_x_0.cell 0 _ rfl
    have k_x_1 := h_x_0.cell 1 _ rfl
    have k_x_2 := h_x_0.cell 2 _ rfl
    have k_y_0 := h_y_0.cell 0 _ rfl
    have k_y_1 := h_y_0.cell 1 _ rfl
    have k_y_2 := h_y_0.cell 2 _ rfl
    go_enter Tryz.func28, Tryz.ntmps28
    go_wp2_with fail
    clear k_x_0 k_x_1 k_x_2 k_y_0 k_y_1 k_y_2
    generalize ((w.alloc (.cells #[.bool g1, .slice a n c, .slice b m d] 24)).alloc (.cells #[.bool g2, .slice a' n' c', .slice b' m' d'] 24)).alloc (.cells #[.bool false, .slice none 0 0, .slice none 0 0] 24) = w0 at *
    have c := refRatBoth_any w0 (g1 := g1) (g2 := g2) h_xn_0 h_xd_0 h_yn_0 h_yd_0
    rw [BO.out] at c
    refine c.mono ?_
    rintro e w1 ⟨rfl, hb⟩
    clear c
    have B1 := B0.trans (hb.mono B0.size)
    have h_xn_1 := h_xn_0.below hb
    have h_xd_1 := h_xd_0.below hb
    have h_yn_1 := h_yn_0.below hb
    have h_yd_1 := h_yd_0.below hb
    have h_x_1 := h_x_0.later hb
    have h_y_1 := h_y_0.later hb
    have h_r_1 := h_r_0.later hb
    clear hb B0 h_xn_0 h_xd_0 h_yn_0 h_yd_0 h_x_0 h_y_0 h_r_0
    have k_x_1 := h_x_1.cell 1 _ rfl
    have k_y_2 := h_y_1.cell 2 _ rfl
    go_wp2_with fail
    clear k_x_1 k_y_2
    have c := refMul_any w1 h_xn_1 h_yd_1
    rw [mul_limbs l1 l4] at c
    rw [fit_limbs E1.out] at c
    refine c.mono ?_
    rintro e w2 ⟨a_a, n_a, c_a, rfl, h_a_2, hb⟩
    clear c
    have B2 := B1.trans (hb.mono B1.size)
    have h_xn_2 := h_xn_1.below hb
    have h_xd_2 := h_xd_1.below hb
    have h_yn_2 := h_yn_1.below hb
    have h_yd_2 := h_yd_1.below hb
    have h_x_2 := h_x_1.later hb
    have h_y_2 := h_y_1.later hb
    have h_r_2 := h_r_1.later hb
    clear hb B1 h_xn_1 h_xd_1 h_yn_1 h_yd_1 h_x_1 h_y_1 h_r_1
    have k_y_1 := h_y_2.cell 1 _ rfl
    have k_x_2 := h_x_2.cell 2 _ rfl
    go_wp2_with fail
    clear k_y_1 k_x_2
    have c := refMul_any w2 h_yn_2 h_xd_2
    rw [mul_limbs l3 l2] at c
    rw [fit_limbs E2.out] at c
    refine c.mono ?_
    rintro e w3 ⟨a_b, n_b, c_b, rfl, h_b_3, hb⟩
    clear c
    have B3 := B2.trans (hb.mono B2.size)
    have h_xn_3 := h_xn_2.below hb
    have h_xd_3 := h_xd_2.below hb
    have h_yn_3 := h_yn_2.below hb
    have h_yd_3 := h_yd_2.below hb
    have h_x_3 := h_x_2.later hb
    have h_y_3 := h_y_2.later hb
    have h_r_3 := h_r_2.later hb
    have h_a_3 := h_a_2.below hb
    clear hb B2 h_xn_2 h_xd_2 h_yn_2 h_yd_2 h_x_2 h_y_2 h_r_2 h_a_2
    have k_x_2 := h_x_3.cell 2 _ rfl
    have k_y_2 := h_y_3.cell 2 _ rfl
    go_wp2_with fail
    clear k_x_2 k_y_2
    have c := refMul_any w3 h_xd_3 h_yd_3
    rw [mul_limbs l2 l4] at c
    rw [fit_great E3.out] at c
    refine c.mono ?_
    rintro e w4 ⟨a_d, n_d, c_d, rfl, h_d_4, hb⟩
    clear c
    have B4 := B3.trans (hb.mono B3.size)
    have h_xn_4 := h_xn_3.below hb
    have h_xd_4 := h_xd_3.below hb
    have h_yn_4 := h_yn_3.below hb
    have h_yd_4 := h_yd_3.below hb
    have h_x_4 := h_x_3.later hb
    have h_y_4 := h_y_3.later hb
    have h_r_4 := h_r_3.later hb
    have h_a_4 := h_a_3.below hb
    have h_b_4 := h_b_3.below hb
    clear hb B3 h_xn_3 h_xd_3 h_yn_3 h_yd_3 h_x_3 h_y_3 h_r_3 h_a_3 h_b_3
    have row := h_r_4.row
    go_wp2_with first | refine wpList_store_whole rfl 24 _ _ rfl atRat _ _ _ row rfl rfl rfl rfl (rat_one _ _ _ _ _ _ _) ?_
    refine bodyPost_ret (results_cell_two rfl _ _ _ _ _ _ _ rfl (setRow_heap _ _ _ _ _ _ row) Tryz.underlying24 rfl (by kernel_rfl) _ rfl) rfl ?_
    refine ⟨none, 0, 0, none, 0, 0, by rw [hres.out]; (try rfl), ?_, ?_, below_row h_r_4.below h_r_4.lo _⟩
    · rw [hres.out]; exact Rd.nil _ _
    · rw [hres.out]; exact Rd.nil _ _
  have E1 := Lib.hid e1
  have E2 := Lib.hid e2
  have E3 := Lib.hid e3
  have hz := Lib.hid (Nat.mul_ne_zero z1 z2)
  by_cases hg : g1 = g2
  case pos =>
    have dg : (g1 == g2) = true := by rw [hg]; exact beq_self_eq_true _
    by_cases e4 : N1 * D2 + N2 * D1 < pw 96
    case neg =>
      have hres := Lib.hid (show r = (zeroV, 30) by rw [hr, sumV, if_pos ⟨e1, e2, e3⟩, if_pos hg, if_neg e4])
      have E4 := Lib.hid e4
      clear hr e1 e2 e3 e4 hg
      obtain ⟨h_x_0, h_y_0, h_r_0⟩ := laid_three w #[.bool g1, .slice a n c, .slice b m d] #[.bool g2, .slice a' n' c', .slice b' m' d'] #[.bool false, .slice none 0 0, .slice none 0 0]
      have B0 := h_x_0.below
      have h_xn_0 := h1.below h_x_0.below
      have h_xd_0 := h2.below h_x_0.below
      have h_yn_0 := h3.below h_x_0.below
      have h_yd_0 := h4.below h_x_0.below
      have k_x_0 := h_x_0.cell 0 _ rfl
      have k_x_1 := h_x_0.cell 1 _ rfl
      have k_x_2 := h_x_0.cell 2 _ rfl
      have k_y_0 := h_y_0.cell 0 _ rfl
      have k_y_1 := h_y_0.cell 1 _ rfl
      have k_y_2 := h_y_0.cell 2 _ rfl
      go_enter Tryz.func28, Tryz.ntmps28
      go_wp2_with fail
      clear k_x_0 k_x_1 k_x_2 k_y_0 k_y_1 k_y_2
      generalize ((w.alloc (.cells #[.bool g1, .slice a n c, .slice b m d] 24)).alloc (.cells #[.bool g2, .slice a' n' c', .slice b' m' d'] 24)).alloc (.cells #[.bool false, .slice none 0 0, .slice none 0 0] 24) = w0 at *
      have c := refRatBoth_any w0 (g1 := g1) (g2 := g2) h_xn_0 h_xd_0 h_yn_0 h_yd_0
      rw [BO.out] at c
      refine c.mono ?_
      rintro e w1 ⟨rfl, hb⟩
      clear c
      have B1 := B0.trans (hb.mono B0.size)
      have h_xn_1 := h_xn_0.below hb
      have h_xd_1 := h_xd_0.below hb
      have h_yn_1 := h_yn_0.below hb
      have h_yd_1 := h_yd_0.below hb
      have h_x_1 := h_x_0.later hb
      have h_y_1 := h_y_0.later hb
      have h_r_1 := h_r_0.later hb
      clear hb B0 h_xn_0 h_xd_0 h_yn_0 h_yd_0 h_x_0 h_y_0 h_r_0
      have k_x_1 := h_x_1.cell 1 _ rfl
      have k_y_2 := h_y_1.cell 2 _ rfl
      go_wp2_with fail
      clear k_x_1 k_y_2
      have c := refMul_any w1 h_xn_1 h_yd_1
      rw [mul_limbs l1 l4] at c
      rw [fit_limbs E1.out] at c
      refine c.mono ?_
      rintro e w2 ⟨a_a, n_a, c_a, rfl, h_a_2, hb⟩
      clear c
      have B2 := B1.trans (hb.mono B1.size)
      have h_xn_2 := h_xn_1.below hb
      have h_xd_2 := h_xd_1.below hb
      have h_yn_2 := h_yn_1.below hb
      have h_yd_2 := h_yd_1.below hb
      have h_x_2 := h_x_1.later hb
      have h_y_2 := h_y_1.later hb
      have h_r_2 := h_r_1.later hb
      clear hb B1 h_xn_1 h_xd_1 h_yn_1 h_yd_1 h_x_1 h_y_1 h_r_1
      have k_y_1 := h_y_2.cell 1 _ rfl
      have k_x_2 := h_x_2.cell 2 _ rfl
      go_wp2_with fail
      clear k_y_1 k_x_2
      have c := refMul_any w2 h_yn_2 h_xd_2
      rw [mul_limbs l3 l2] at c
      rw [fit_limbs E2.out] at c
      refine c.mono ?_
      rintro e w3 ⟨a_b, n_b, c_b, rfl, h_b_3, hb⟩
      clear c
      have B3 := B2.trans (hb.mono B2.size)
      have h_xn_3 := h_xn_2.below hb
      have h_xd_3 := h_xd_2.below hb
      have h_yn_3 := h_yn_2.below hb
      have h_yd_3 := h_yd_2.below hb
      have h_x_3 := h_x_2.later hb
      have h_y_3 := h_y_2.later hb
      have h_r_3 := h_r_2.later hb
      have h_a_3 := h_a_2.below hb
      clear hb B2 h_xn_2 h_xd_2 h_yn_2 h_yd_2 h_x_2 h_y_2 h_r_2 h_a_2
      have k_x_2 := h_x_3.cell 2 _ rfl
      have k_y_2 := h_y_3.cell 2 _ rfl
      go_wp2_with fail
      clear k_x_2 k_y_2
      have c := refMul_any w3 h_xd_3 h_yd_3
      rw [mul_limbs l2 l4] at c
      rw [fit_limbs E3.out] at c
      refine c.mono ?_
      rintro e w4 ⟨a_d, n_d, c_d, rfl, h_d_4, hb⟩
      clear c
      have B4 := B3.trans (hb.mono B3.size)
      have h_xn_4 := h_xn_3.below hb
      have h_xd_4 := h_xd_3.below hb
      have h_yn_4 := h_yn_3.below hb
      have h_yd_4 := h_yd_3.below hb
      have h_x_4 := h_x_3.later hb
      have h_y_4 := h_y_3.later hb
      have h_r_4 := h_r_3.later hb
      have h_a_4 := h_a_3.below hb
      have h_b_4 := h_b_3.below hb
      clear hb B3 h_xn_3 h_xd_3 h_yn_3 h_yd_3 h_x_3 h_y_3 h_r_3 h_a_3 h_b_3
      have k_x_0 := h_x_4.cell 0 _ rfl
      have k_y_0 := h_y_4.cell 0 _ rfl
      go_wp2_with fail
      clear k_x_0 k_y_0
      have c := refAdd_any w4 h_a_4 h_b_4
      rw [add_limbs E1.out E2.out] at c
      rw [fit_great E4.out] at c
      refine c.mono ?_
      rintro e w5 ⟨a_s, n_s, c_s, rfl, h_s_5, hb⟩
      clear c
      have B5 := B4.trans (hb.mono B4.size)
      have h_xn_5 := h_xn_4.below hb
      have h_xd_5 := h_xd_4.below hb
      have h_yn_5 := h_yn_4.below hb
      have h_yd_5 := h_yd_4.below hb
      have h_x_5 := h_x_4.later hb
      have h_y_5 := h_y_4.later hb
      have h_r_5 := h_r_4.later hb
      have h_a_5 := h_a_4.below hb
      have h_b_5 := h_b_4.below hb
      have h_d_5 := h_d_4.below hb
      clear hb B4 h_xn_4 h_xd_4 h_yn_4 h_yd_4 h_x_4 h_y_4 h_r_4 h_a_4 h_b_4 h_d_4
      have row := h_r_5.row
      go_wp2_with first | refine wpList_store_whole rfl 24 _ _ rfl atRat _ _ _ row rfl rfl rfl rfl (rat_one _ _ _ _ _ _ _) ?_
      refine bodyPost_ret (results_cell_two rfl _ _ _ _ _ _ _ rfl (setRow_heap _ _ _ _ _ _ row) Tryz.underlying24 rfl (by kernel_rfl) _ rfl) rfl ?_
      refine ⟨none, 0, 0, none, 0, 0, by rw [hres.out]; (try rfl), ?_, ?_, below_row h_r_5.below h_r_5.lo _⟩
      · rw [hres.out]; exact Rd.nil _ _
      · rw [hres.out]; exact Rd.nil _ _
    have E4 := Lib.hid e4
    obtain ⟨v, hv⟩ : ∃ v, v = lowV g1 (N1 * D2 + N2 * D1) (D1 * D2) := ⟨_, rfl⟩
    have hres := Lib.hid (show r = (v, 0) by rw [hr, sumV, if_pos ⟨e1, e2, e3⟩, if_pos hg, if_pos e4, hv])
    have HV := Lib.hid hv.symm
    clear hv
    clear hr e1 e2 e3 e4 hg
    obtain ⟨h_x_0, h_y_0, h_r_0⟩ := laid_three w #[.bool g1, .slice a n c, .slice b m d] #[.bool g2, .slice a' n' c', .slice b' m' d'] #[.bool false, .slice none 0 0, .slice none 0 0]
    have B0 := h_x_0.below
    have h_xn_0 := h1.below h_x_0.below
    have h_xd_0 := h2.below h_x_0.below
    have h_yn_0 := h3.below h_x_0.below
    have h_yd_0 := h4.below h_x_0.below
    have k_x_0 := h_x_0.cell 0 _ rfl
    have k_x_1 := h_x_0.cell 1 _ rfl
    have k_x_2 := h_x_0.cell 2 _ rfl
    have k_y_0 := h_y_0.cell 0 _ rfl
    have k_y_1 := h_y_0.cell 1 _ rfl
    have k_y_2 := h_y_0.cell 2 _ rfl
    go_enter Tryz.func28, Tryz.ntmps28
    go_wp2_with fail
    clear k_x_0 k_x_1 k_x_2 k_y_0 k_y_1 k_y_2
    generalize ((w.alloc (.cells #[.bool g1, .slice a n c, .slice b m d] 24)).alloc (.cells #[.bool g2, .slice a' n' c', .slice b' m' d'] 24)).alloc (.cells #[.bool false, .slice none 0 0, .slice none 0 0] 24) = w0 at *
    have c := refRatBoth_any w0 (g1 := g1) (g2 := g2) h_xn_0 h_xd_0 h_yn_0 h_yd_0
    rw [BO.out] at c
    refine c.mono ?_
    rintro e w1 ⟨rfl, hb⟩
    clear c
    have B1 := B0.trans (hb.mono B0.size)
    have h_xn_1 := h_xn_0.below hb
    have h_xd_1 := h_xd_0.below hb
    have h_yn_1 := h_yn_0.below hb
    have h_yd_1 := h_yd_0.below hb
    have h_x_1 := h_x_0.later hb
    have h_y_1 := h_y_0.later hb
    have h_r_1 := h_r_0.later hb
    clear hb B0 h_xn_0 h_xd_0 h_yn_0 h_yd_0 h_x_0 h_y_0 h_r_0
    have k_x_1 := h_x_1.cell 1 _ rfl
    have k_y_2 := h_y_1.cell 2 _ rfl
    go_wp2_with fail
    clear k_x_1 k_y_2
    have c := refMul_any w1 h_xn_1 h_yd_1
    rw [mul_limbs l1 l4] at c
    rw [fit_limbs E1.out] at c
    refine c.mono ?_
    rintro e w2 ⟨a_a, n_a, c_a, rfl, h_a_2, hb⟩
    clear c
    have B2 := B1.trans (hb.mono B1.size)
    have h_xn_2 := h_xn_1.below hb
    have h_xd_2 := h_xd_1.below hb
    have h_yn_2 := h_yn_1.below hb
    have h_yd_2 := h_yd_1.below hb
    have h_x_2 := h_x_1.later hb
    have h_y_2 := h_y_1.later hb
    have h_r_2 := h_r_1.later hb
    clear hb B1 h_xn_1 h_xd_1 h_yn_1 h_yd_1 h_x_1 h_y_1 h_r_1
    have k_y_1 := h_y_2.cell 1 _ rfl
    have k_x_2 := h_x_2.cell 2 _ rfl
    go_wp2_with fail
    clear k_y_1 k_x_2
    have c := refMul_any w2 h_yn_2 h_xd_2
    rw [mul_limbs l3 l2] at c
    rw [fit_limbs E2.out] at c
    refine c.mono ?_
    rintro e w3 ⟨a_b, n_b, c_b, rfl, h_b_3, hb⟩
    clear c
    have B3 := B2.trans (hb.mono B2.size)
    have h_xn_3 := h_xn_2.below hb
    have h_xd_3 := h_xd_2.below hb
    have h_yn_3 := h_yn_2.below hb
    have h_yd_3 := h_yd_2.below hb
    have h_x_3 := h_x_2.later hb
    have h_y_3 := h_y_2.later hb
    have h_r_3 := h_r_2.later hb
    have h_a_3 := h_a_2.below hb
    clear hb B2 h_xn_2 h_xd_2 h_yn_2 h_yd_2 h_x_2 h_y_2 h_r_2 h_a_2
    have k_x_2 := h_x_3.cell 2 _ rfl
    have k_y_2 := h_y_3.cell 2 _ rfl
    go_wp2_with fail
    clear k_x_2 k_y_2
    have c := refMul_any w3 h_xd_3 h_yd_3
    rw [mul_limbs l2 l4] at c
    rw [fit_limbs E3.out] at c
    refine c.mono ?_
    rintro e w4 ⟨a_d, n_d, c_d, rfl, h_d_4, hb⟩
    clear c
    have B4 := B3.trans (hb.mono B3.size)
    have h_xn_4 := h_xn_3.below hb
    have h_xd_4 := h_xd_3.below hb
    have h_yn_4 := h_yn_3.below hb
    have h_yd_4 := h_yd_3.below hb
    have h_x_4 := h_x_3.later hb
    have h_y_4 := h_y_3.later hb
    have h_r_4 := h_r_3.later hb
    have h_a_4 := h_a_3.below hb
    have h_b_4 := h_b_3.below hb
    clear hb B3 h_xn_3 h_xd_3 h_yn_3 h_yd_3 h_x_3 h_y_3 h_r_3 h_a_3 h_b_3
    have k_x_0 := h_x_4.cell 0 _ rfl
    have k_y_0 := h_y_4.cell 0 _ rfl
    go_wp2_with fail
    clear k_x_0 k_y_0
    have c := refAdd_any w4 h_a_4 h_b_4
    rw [add_limbs E1.out E2.out] at c
    rw [fit_limbs E4.out] at c
    refine c.mono ?_
    rintro e w5 ⟨a_s, n_s, c_s, rfl, h_s_5, hb⟩
    clear c
    have B5 := B4.trans (hb.mono B4.size)
    have h_xn_5 := h_xn_4.below hb
    have h_xd_5 := h_xd_4.below hb
    have h_yn_5 := h_yn_4.below hb
    have h_yd_5 := h_yd_4.below hb
    have h_x_5 := h_x_4.later hb
    have h_y_5 := h_y_4.later hb
    have h_r_5 := h_r_4.later hb
    have h_a_5 := h_a_4.below hb
    have h_b_5 := h_b_4.below hb
    have h_d_5 := h_d_4.below hb
    clear hb B4 h_xn_4 h_xd_4 h_yn_4 h_yd_4 h_x_4 h_y_4 h_r_4 h_a_4 h_b_4 h_d_4
    have k_x_0 := h_x_5.cell 0 _ rfl
    go_wp2_with fail
    clear k_x_0
    have c := refLowest_any w5 g1 h_s_5 h_d_5 E4.out E3.out hz.out
    rw [HV.out] at c
    refine c.mono ?_
    rintro e w6 ⟨a_l, n_l, c_l, b_l, m_l, d_l, rfl, h_ln_6, h_ld_6, hb⟩
    clear c
    have B6 := B5.trans (hb.mono B5.size)
    have h_xn_6 := h_xn_5.below hb
    have h_xd_6 := h_xd_5.below hb
    have h_yn_6 := h_yn_5.below hb
    have h_yd_6 := h_yd_5.below hb
    have h_x_6 := h_x_5.later hb
    have h_y_6 := h_y_5.later hb
    have h_r_6 := h_r_5.later hb
    have h_a_6 := h_a_5.below hb
    have h_b_6 := h_b_5.below hb
    have h_d_6 := h_d_5.below hb
    have h_s_6 := h_s_5.below hb
    clear hb B5 h_xn_5 h_xd_5 h_yn_5 h_yd_5 h_x_5 h_y_5 h_r_5 h_a_5 h_b_5 h_d_5 h_s_5
    have row := h_r_6.row
    have HB := Lib.hid (fun cs => below_row h_r_6.below h_r_6.lo cs)
    have fin := Lib.hid (fun cs => (⟨rd_rowset h_ln_6 row (rat_noint _ _ _ _ _ _ _) cs, rd_rowset h_ld_6 row (rat_noint _ _ _ _ _ _ _) cs⟩ : _ ∧ _))
    go_wp2_with first | refine wpList_store_whole rfl 24 _ _ rfl atRat _ _ _ row rfl rfl rfl rfl (rat_one _ _ _ _ _ _ _) ?_
    refine bodyPost_ret (results_cell_two rfl _ _ _ _ _ _ _ rfl (setRow_heap _ _ _ _ _ _ row) Tryz.underlying24 rfl (by kernel_rfl) _ rfl) rfl ?_
    refine ⟨a_l, n_l, c_l, b_l, m_l, d_l, by rw [hres.out]; (try rfl), ?_, ?_, HB.out _⟩
    · rw [hres.out]; exact (fin.out _).1
    · rw [hres.out]; exact (fin.out _).2
  have dg : (g1 == g2) = false := beq_eq_false_iff_ne.2 hg
  by_cases e5 : N1 * D2 < N2 * D1
  case pos =>
    have E5 := Lib.hid e5
    have E6 := Lib.hid (show N2 * D1 - N1 * D2 < pw 96 from Nat.lt_of_le_of_lt (Nat.sub_le _ _) e2)
    obtain ⟨v, hv⟩ : ∃ v, v = lowV g2 (N2 * D1 - N1 * D2) (D1 * D2) := ⟨_, rfl⟩
    have hres := Lib.hid (show r = (v, 0) by rw [hr, sumV, if_pos ⟨e1, e2, e3⟩, if_neg hg, if_pos e5, hv])
    have HV := Lib.hid hv.symm
    clear hv
    clear hr e1 e2 e3 e5 hg
    obtain ⟨h_x_0, h_y_0, h_r_0⟩ := laid_three w #[.bool g1, .slice a n c, .slice b m d] #[.bool g2, .slice a' n' c', .slice b' m' d'] #[.bool false, .slice none 0 0, .slice none 0 0]
    have B0 := h_x_0.below
    have h_xn_0 := h1.below h_x_0.below
    have h_xd_0 := h2.below h_x_0.below
    have h_yn_0 := h3.below h_x_0.below
    have h_yd_0 := h4.below h_x_0.below
    have k_x_0 := h_x_0.cell 0 _ rfl
    have k_x_1 := h_x_0.cell 1 _ rfl
    have k_x_2 := h_x_0.cell 2 _ rfl
    have k_y_0 := h_y_0.cell 0 _ rfl
    have k_y_1 := h_y_0.cell 1 _ rfl
    have k_y_2 := h_y_0.cell 2 _ rfl
    go_enter Tryz.func28, Tryz.ntmps28
    go_wp2_with fail
    clear k_x_0 k_x_1 k_x_2 k_y_0 k_y_1 k_y_2
    generalize ((w.alloc (.cells #[.bool g1, .slice a n c, .slice b m d] 24)).alloc (.cells #[.bool g2, .slice a' n' c', .slice b' m' d'] 24)).alloc (.cells #[.bool false, .slice none 0 0, .slice none 0 0] 24) = w0 at *
    have c := refRatBoth_any w0 (g1 := g1) (g2 := g2) h_xn_0 h_xd_0 h_yn_0 h_yd_0
    rw [BO.out] at c
    refine c.mono ?_
    rintro e w1 ⟨rfl, hb⟩
    clear c
    have B1 := B0.trans (hb.mono B0.size)
    have h_xn_1 := h_xn_0.below hb
    have h_xd_1 := h_xd_0.below hb
    have h_yn_1 := h_yn_0.below hb
    have h_yd_1 := h_yd_0.below hb
    have h_x_1 := h_x_0.later hb
    have h_y_1 := h_y_0.later hb
    have h_r_1 := h_r_0.later hb
    clear hb B0 h_xn_0 h_xd_0 h_yn_0 h_yd_0 h_x_0 h_y_0 h_r_0
    have k_x_1 := h_x_1.cell 1 _ rfl
    have k_y_2 := h_y_1.cell 2 _ rfl
    go_wp2_with fail
    clear k_x_1 k_y_2
    have c := refMul_any w1 h_xn_1 h_yd_1
    rw [mul_limbs l1 l4] at c
    rw [fit_limbs E1.out] at c
    refine c.mono ?_
    rintro e w2 ⟨a_a, n_a, c_a, rfl, h_a_2, hb⟩
    clear c
    have B2 := B1.trans (hb.mono B1.size)
    have h_xn_2 := h_xn_1.below hb
    have h_xd_2 := h_xd_1.below hb
    have h_yn_2 := h_yn_1.below hb
    have h_yd_2 := h_yd_1.below hb
    have h_x_2 := h_x_1.later hb
    have h_y_2 := h_y_1.later hb
    have h_r_2 := h_r_1.later hb
    clear hb B1 h_xn_1 h_xd_1 h_yn_1 h_yd_1 h_x_1 h_y_1 h_r_1
    have k_y_1 := h_y_2.cell 1 _ rfl
    have k_x_2 := h_x_2.cell 2 _ rfl
    go_wp2_with fail
    clear k_y_1 k_x_2
    have c := refMul_any w2 h_yn_2 h_xd_2
    rw [mul_limbs l3 l2] at c
    rw [fit_limbs E2.out] at c
    refine c.mono ?_
    rintro e w3 ⟨a_b, n_b, c_b, rfl, h_b_3, hb⟩
    clear c
    have B3 := B2.trans (hb.mono B2.size)
    have h_xn_3 := h_xn_2.below hb
    have h_xd_3 := h_xd_2.below hb
    have h_yn_3 := h_yn_2.below hb
    have h_yd_3 := h_yd_2.below hb
    have h_x_3 := h_x_2.later hb
    have h_y_3 := h_y_2.later hb
    have h_r_3 := h_r_2.later hb
    have h_a_3 := h_a_2.below hb
    clear hb B2 h_xn_2 h_xd_2 h_yn_2 h_yd_2 h_x_2 h_y_2 h_r_2 h_a_2
    have k_x_2 := h_x_3.cell 2 _ rfl
    have k_y_2 := h_y_3.cell 2 _ rfl
    go_wp2_with fail
    clear k_x_2 k_y_2
    have c := refMul_any w3 h_xd_3 h_yd_3
    rw [mul_limbs l2 l4] at c
    rw [fit_limbs E3.out] at c
    refine c.mono ?_
    rintro e w4 ⟨a_d, n_d, c_d, rfl, h_d_4, hb⟩
    clear c
    have B4 := B3.trans (hb.mono B3.size)
    have h_xn_4 := h_xn_3.below hb
    have h_xd_4 := h_xd_3.below hb
    have h_yn_4 := h_yn_3.below hb
    have h_yd_4 := h_yd_3.below hb
    have h_x_4 := h_x_3.later hb
    have h_y_4 := h_y_3.later hb
    have h_r_4 := h_r_3.later hb
    have h_a_4 := h_a_3.below hb
    have h_b_4 := h_b_3.below hb
    clear hb B3 h_xn_3 h_xd_3 h_yn_3 h_yd_3 h_x_3 h_y_3 h_r_3 h_a_3 h_b_3
    have k_x_0 := h_x_4.cell 0 _ rfl
    have k_y_0 := h_y_4.cell 0 _ rfl
    go_wp2_with fail
    clear k_x_0 k_y_0
    have c := refSub_any w4 h_a_4 h_b_4
    rw [sub_none E2.out E5.out] at c
    refine c.mono ?_
    rintro e w5 ⟨a_s, n_s, c_s, rfl, h_s_5, hb⟩
    clear c
    have B5 := B4.trans (hb.mono B4.size)
    have h_xn_5 := h_xn_4.below hb
    have h_xd_5 := h_xd_4.below hb
    have h_yn_5 := h_yn_4.below hb
    have h_yd_5 := h_yd_4.below hb
    have h_x_5 := h_x_4.later hb
    have h_y_5 := h_y_4.later hb
    have h_r_5 := h_r_4.later hb
    have h_a_5 := h_a_4.below hb
    have h_b_5 := h_b_4.below hb
    have h_d_5 := h_d_4.below hb
    clear hb B4 h_xn_4 h_xd_4 h_yn_4 h_yd_4 h_x_4 h_y_4 h_r_4 h_a_4 h_b_4 h_d_4
    go_wp2_with fail
    have c := refSub_any w5 h_b_5 h_a_5
    rw [sub_ok E2.out (Nat.le_of_lt E5.out)] at c
    refine c.mono ?_
    rintro e w6 ⟨a_t, n_t, c_t, rfl, h_t_6, hb⟩
    clear c
    have B6 := B5.trans (hb.mono B5.size)
    have h_xn_6 := h_xn_5.below hb
    have h_xd_6 := h_xd_5.below hb
    have h_yn_6 := h_yn_5.below hb
    have h_yd_6 := h_yd_5.below hb
    have h_x_6 := h_x_5.later hb
    have h_y_6 := h_y_5.later hb
    have h_r_6 := h_r_5.later hb
    have h_a_6 := h_a_5.below hb
    have h_b_6 := h_b_5.below hb
    have h_d_6 := h_d_5.below hb
    have h_s_6 := h_s_5.below hb
    clear hb B5 h_xn_5 h_xd_5 h_yn_5 h_yd_5 h_x_5 h_y_5 h_r_5 h_a_5 h_b_5 h_d_5 h_s_5
    have k_y_0 := h_y_6.cell 0 _ rfl
    go_wp2_with fail
    clear k_y_0
    have c := refLowest_any w6 g2 h_t_6 h_d_6 E6.out E3.out hz.out
    rw [HV.out] at c
    refine c.mono ?_
    rintro e w7 ⟨a_l, n_l, c_l, b_l, m_l, d_l, rfl, h_ln_7, h_ld_7, hb⟩
    clear c
    have B7 := B6.trans (hb.mono B6.size)
    have h_xn_7 := h_xn_6.below hb
    have h_xd_7 := h_xd_6.below hb
    have h_yn_7 := h_yn_6.below hb
    have h_yd_7 := h_yd_6.below hb
    have h_x_7 := h_x_6.later hb
    have h_y_7 := h_y_6.later hb
    have h_r_7 := h_r_6.later hb
    have h_a_7 := h_a_6.below hb
    have h_b_7 := h_b_6.below hb
    have h_d_7 := h_d_6.below hb
    have h_s_7 := h_s_6.below hb
    have h_t_7 := h_t_6.below hb
    clear hb B6 h_xn_6 h_xd_6 h_yn_6 h_yd_6 h_x_6 h_y_6 h_r_6 h_a_6 h_b_6 h_d_6 h_s_6 h_t_6
    have row := h_r_7.row
    have HB := Lib.hid (fun cs => below_row h_r_7.below h_r_7.lo cs)
    have fin := Lib.hid (fun cs => (⟨rd_rowset h_ln_7 row (rat_noint _ _ _ _ _ _ _) cs, rd_rowset h_ld_7 row (rat_noint _ _ _ _ _ _ _) cs⟩ : _ ∧ _))
    go_wp2_with first | refine wpList_store_whole rfl 24 _ _ rfl atRat _ _ _ row rfl rfl rfl rfl (rat_one _ _ _ _ _ _ _) ?_
    refine bodyPost_ret (results_cell_two rfl _ _ _ _ _ _ _ rfl (setRow_heap _ _ _ _ _ _ row) Tryz.underlying24 rfl (by kernel_rfl) _ rfl) rfl ?_
    refine ⟨a_l, n_l, c_l, b_l, m_l, d_l, by rw [hres.out]; (try rfl), ?_, ?_, HB.out _⟩
    · rw [hres.out]; exact (fin.out _).1
    · rw [hres.out]; exact (fin.out _).2
  have E5 := Lib.hid (Nat.le_of_not_lt e5)
  have E6 := Lib.hid (show N1 * D2 - N2 * D1 < pw 96 from Nat.lt_of_le_of_lt (Nat.sub_le _ _) e1)
  obtain ⟨v, hv⟩ : ∃ v, v = lowV g1 (N1 * D2 - N2 * D1) (D1 * D2) := ⟨_, rfl⟩
  have hres := Lib.hid (show r = (v, 0) by rw [hr, sumV, if_pos ⟨e1, e2, e3⟩, if_neg hg, if_neg e5, hv])
  have HV := Lib.hid hv.symm
  clear hv
  clear hr e1 e2 e3 e5 hg
  obtain ⟨h_x_0, h_y_0, h_r_0⟩ := laid_three w #[.bool g1, .slice a n c, .slice b m d] #[.bool g2, .slice a' n' c', .slice b' m' d'] #[.bool false, .slice none 0 0, .slice none 0 0]
  have B0 := h_x_0.below
  have h_xn_0 := h1.below h_x_0.below
  have h_xd_0 := h2.below h_x_0.below
  have h_yn_0 := h3.below h_x_0.below
  have h_yd_0 := h4.below h_x_0.below
  have k_x_0 := h_x_0.cell 0 _ rfl
  have k_x_1 := h_x_0.cell 1 _ rfl
  have k_x_2 := h_x_0.cell 2 _ rfl
  have k_y_0 := h_y_0.cell 0 _ rfl
  have k_y_1 := h_y_0.cell 1 _ rfl
  have k_y_2 := h_y_0.cell 2 _ rfl
  go_enter Tryz.func28, Tryz.ntmps28
  go_wp2_with fail
  clear k_x_0 k_x_1 k_x_2 k_y_0 k_y_1 k_y_2
  generalize ((w.alloc (.cells #[.bool g1, .slice a n c, .slice b m d] 24)).alloc (.cells #[.bool g2, .slice a' n' c', .slice b' m' d'] 24)).alloc (.cells #[.bool false, .slice none 0 0, .slice none 0 0] 24) = w0 at *
  have c := refRatBoth_any w0 (g1 := g1) (g2 := g2) h_xn_0 h_xd_0 h_yn_0 h_yd_0
  rw [BO.out] at c
  refine c.mono ?_
  rintro e w1 ⟨rfl, hb⟩
  clear c
  have B1 := B0.trans (hb.mono B0.size)
  have h_xn_1 := h_xn_0.below hb
  have h_xd_1 := h_xd_0.below hb
  have h_yn_1 := h_yn_0.below hb
  have h_yd_1 := h_yd_0.below hb
  have h_x_1 := h_x_0.later hb
  have h_y_1 := h_y_0.later hb
  have h_r_1 := h_r_0.later hb
  clear hb B0 h_xn_0 h_xd_0 h_yn_0 h_yd_0 h_x_0 h_y_0 h_r_0
  have k_x_1 := h_x_1.cell 1 _ rfl
  have k_y_2 := h_y_1.cell 2 _ rfl
  go_wp2_with fail
  clear k_x_1 k_y_2
  have c := refMul_any w1 h_xn_1 h_yd_1
  rw [mul_limbs l1 l4] at c
  rw [fit_limbs E1.out] at c
  refine c.mono ?_
  rintro e w2 ⟨a_a, n_a, c_a, rfl, h_a_2, hb⟩
  clear c
  have B2 := B1.trans (hb.mono B1.size)
  have h_xn_2 := h_xn_1.below hb
  have h_xd_2 := h_xd_1.below hb
  have h_yn_2 := h_yn_1.below hb
  have h_yd_2 := h_yd_1.below hb
  have h_x_2 := h_x_1.later hb
  have h_y_2 := h_y_1.later hb
  have h_r_2 := h_r_1.later hb
  clear hb B1 h_xn_1 h_xd_1 h_yn_1 h_yd_1 h_x_1 h_y_1 h_r_1
  have k_y_1 := h_y_2.cell 1 _ rfl
  have k_x_2 := h_x_2.cell 2 _ rfl
  go_wp2_with fail
  clear k_y_1 k_x_2
  have c := refMul_any w2 h_yn_2 h_xd_2
  rw [mul_limbs l3 l2] at c
  rw [fit_limbs E2.out] at c
  refine c.mono ?_
  rintro e w3 ⟨a_b, n_b, c_b, rfl, h_b_3, hb⟩
  clear c
  have B3 := B2.trans (hb.mono B2.size)
  have h_xn_3 := h_xn_2.below hb
  have h_xd_3 := h_xd_2.below hb
  have h_yn_3 := h_yn_2.below hb
  have h_yd_3 := h_yd_2.below hb
  have h_x_3 := h_x_2.later hb
  have h_y_3 := h_y_2.later hb
  have h_r_3 := h_r_2.later hb
  have h_a_3 := h_a_2.below hb
  clear hb B2 h_xn_2 h_xd_2 h_yn_2 h_yd_2 h_x_2 h_y_2 h_r_2 h_a_2
  have k_x_2 := h_x_3.cell 2 _ rfl
  have k_y_2 := h_y_3.cell 2 _ rfl
  go_wp2_with fail
  clear k_x_2 k_y_2
  have c := refMul_any w3 h_xd_3 h_yd_3
  rw [mul_limbs l2 l4] at c
  rw [fit_limbs E3.out] at c
  refine c.mono ?_
  rintro e w4 ⟨a_d, n_d, c_d, rfl, h_d_4, hb⟩
  clear c
  have B4 := B3.trans (hb.mono B3.size)
  have h_xn_4 := h_xn_3.below hb
  have h_xd_4 := h_xd_3.below hb
  have h_yn_4 := h_yn_3.below hb
  have h_yd_4 := h_yd_3.below hb
  have h_x_4 := h_x_3.later hb
  have h_y_4 := h_y_3.later hb
  have h_r_4 := h_r_3.later hb
  have h_a_4 := h_a_3.below hb
  have h_b_4 := h_b_3.below hb
  clear hb B3 h_xn_3 h_xd_3 h_yn_3 h_yd_3 h_x_3 h_y_3 h_r_3 h_a_3 h_b_3
  have k_x_0 := h_x_4.cell 0 _ rfl
  have k_y_0 := h_y_4.cell 0 _ rfl
  go_wp2_with fail
  clear k_x_0 k_y_0
  have c := refSub_any w4 h_a_4 h_b_4
  rw [sub_ok E1.out E5.out] at c
  refine c.mono ?_
  rintro e w5 ⟨a_s, n_s, c_s, rfl, h_s_5, hb⟩
  clear c
  have B5 := B4.trans (hb.mono B4.size)
  have h_xn_5 := h_xn_4.below hb
  have h_xd_5 := h_xd_4.below hb
  have h_yn_5 := h_yn_4.below hb
  have h_yd_5 := h_yd_4.below hb
  have h_x_5 := h_x_4.later hb
  have h_y_5 := h_y_4.later hb
  have h_r_5 := h_r_4.later hb
  have h_a_5 := h_a_4.below hb
  have h_b_5 := h_b_4.below hb
  have h_d_5 := h_d_4.below hb
  clear hb B4 h_xn_4 h_xd_4 h_yn_4 h_yd_4 h_x_4 h_y_4 h_r_4 h_a_4 h_b_4 h_d_4
  have k_x_0 := h_x_5.cell 0 _ rfl
  go_wp2_with fail
  clear k_x_0
  have c := refLowest_any w5 g1 h_s_5 h_d_5 E6.out E3.out hz.out
  rw [HV.out] at c
  refine c.mono ?_
  rintro e w6 ⟨a_l, n_l, c_l, b_l, m_l, d_l, rfl, h_ln_6, h_ld_6, hb⟩
  clear c
  have B6 := B5.trans (hb.mono B5.size)
  have h_xn_6 := h_xn_5.below hb
  have h_xd_6 := h_xd_5.below hb
  have h_yn_6 := h_yn_5.below hb
  have h_yd_6 := h_yd_5.below hb
  have h_x_6 := h_x_5.later hb
  have h_y_6 := h_y_5.later hb
  have h_r_6 := h_r_5.later hb
  have h_a_6 := h_a_5.below hb
  have h_b_6 := h_b_5.below hb
  have h_d_6 := h_d_5.below hb
  have h_s_6 := h_s_5.below hb
  clear hb B5 h_xn_5 h_xd_5 h_yn_5 h_yd_5 h_x_5 h_y_5 h_r_5 h_a_5 h_b_5 h_d_5 h_s_5
  have row := h_r_6.row
  have HB := Lib.hid (fun cs => below_row h_r_6.below h_r_6.lo cs)
  have fin := Lib.hid (fun cs => (⟨rd_rowset h_ln_6 row (rat_noint _ _ _ _ _ _ _) cs, rd_rowset h_ld_6 row (rat_noint _ _ _ _ _ _ _) cs⟩ : _ ∧ _))
  go_wp2_with first | refine wpList_store_whole rfl 24 _ _ rfl atRat _ _ _ row rfl rfl rfl rfl (rat_one _ _ _ _ _ _ _) ?_
  refine bodyPost_ret (results_cell_two rfl _ _ _ _ _ _ _ rfl (setRow_heap _ _ _ _ _ _ row) Tryz.underlying24 rfl (by kernel_rfl) _ rfl) rfl ?_
  refine ⟨a_l, n_l, c_l, b_l, m_l, d_l, by rw [hres.out]; (try rfl), ?_, ?_, HB.out _⟩
  · rw [hres.out]; exact (fin.out _).1
  · rw [hres.out]; exact (fin.out _).2

set_option maxRecDepth 100000 in
set_option maxHeartbeats 4000000 in
theorem refRatSub_any (w : World) {g1 g2 : Bool} {a b a' b' : Option Addr} {n m c d n' m' c' d' : Nat} {xs ys xs' ys' : List Nat}
    (h1 : Rd .u32 w a n c xs) (h2 : Rd .u32 w b m d ys) (h3 : Rd .u32 w a' n' c' xs') (h4 : Rd .u32 w b' m' d' ys') :
    Calls Tryz.prog 30 #[ratV g1 a n c b m d, ratV g2 a' n' c' b' m' d'] w (RetQE w (subV ⟨g1, xs, ys⟩ ⟨g2, xs', ys'⟩)) := by
  obtain ⟨r, hr⟩ : ∃ r, r = subV ⟨g1, xs, ys⟩ ⟨g2, xs', ys'⟩ := ⟨_, rfl⟩
  rw [← hr]
  by_cases hc : chkV ⟨g1, xs, ys⟩ = 0 ∧ chkV ⟨g2, xs', ys'⟩ = 0
  case neg =>
    have hres := Lib.hid (show r = (zeroV, 8) by rw [hr, subV, bothV, if_neg hc])
    have BO := Lib.hid (show bothOk ⟨g1, xs, ys⟩ ⟨g2, xs', ys'⟩ = false from decide_eq_false hc)
    clear hr hc
    obtain ⟨h_x_0, h_y_0, h_r_0⟩ := laid_three w #[.bool g1, .slice a n c, .slice b m d] #[.bool g2, .slice a' n' c', .slice b' m' d'] #[.bool false, .slice none 0 0, .slice none 0 0]
    have B0 := h_x_0.below
    have h_xn_0 := h1.below h_x_0.below
    have h_xd_0 := h2.below h_x_0.below
    have h_yn_0 := h3.below h_x_0.below
    have h_yd_0 := h4.below h_x_0.below
    have k_x_0 := h_x_0.cell 0 _ rfl
    have k_x_1 := h_x_0.cell 1 _ rfl
    have k_x_2 := h_x_0.cell 2 _ rfl
    have k_y_0 := h_y_0.cell 0 _ rfl
    have k_y_1 := h_y_0.cell 1 _ rfl
    have k_y_2 := h_y_0.cell 2 _ rfl
    go_enter Tryz.func30, Tryz.ntmps30
    go_wp2_with fail
    clear k_x_0 k_x_1 k_x_2 k_y_0 k_y_1 k_y_2
    generalize ((w.alloc (.cells #[.bool g1, .slice a n c, .slice b m d] 24)).alloc (.cells #[.bool g2, .slice a' n' c', .slice b' m' d'] 24)).alloc (.cells #[.bool false, .slice none 0 0, .slice none 0 0] 24) = w0 at *
    have c := refRatBoth_any w0 (g1 := g1) (g2 := g2) h_xn_0 h_xd_0 h_yn_0 h_yd_0
    rw [BO.out] at c
    refine c.mono ?_
    rintro e w1 ⟨rfl, hb⟩
    clear c
    have B1 := B0.trans (hb.mono B0.size)
    have h_xn_1 := h_xn_0.below hb
    have h_xd_1 := h_xd_0.below hb
    have h_yn_1 := h_yn_0.below hb
    have h_yd_1 := h_yd_0.below hb
    have h_x_1 := h_x_0.later hb
    have h_y_1 := h_y_0.later hb
    have h_r_1 := h_r_0.later hb
    clear hb B0 h_xn_0 h_xd_0 h_yn_0 h_yd_0 h_x_0 h_y_0 h_r_0
    have row := h_r_1.row
    go_wp2_with first | refine wpList_store_whole rfl 24 _ _ rfl atRat _ _ _ row rfl rfl rfl rfl (rat_one _ _ _ _ _ _ _) ?_
    refine bodyPost_ret (results_cell_two rfl _ _ _ _ _ _ _ rfl (setRow_heap _ _ _ _ _ _ row) Tryz.underlying24 rfl (by kernel_rfl) _ rfl) rfl ?_
    refine ⟨none, 0, 0, none, 0, 0, by rw [hres.out]; (try rfl), ?_, ?_, below_row h_r_1.below h_r_1.lo _⟩
    · rw [hres.out]; exact Rd.nil _ _
    · rw [hres.out]; exact Rd.nil _ _
  have BO := Lib.hid (show bothOk ⟨g1, xs, ys⟩ ⟨g2, xs', ys'⟩ = true from decide_eq_true hc)
  have NG := Lib.hid (show negC ⟨g2, xs', ys'⟩ = (turnV ⟨g2, xs', ys'⟩, 0) by rw [negC, if_pos hc.2])
  rw [subV_add (y := ⟨g2, xs', ys'⟩) h3.bd h4.bd hc.2] at hr
  have hres := Lib.hid hr.symm
  clear hr hc
  obtain ⟨h_x_0, h_y_0, h_r_0⟩ := laid_three w #[.bool g1, .slice a n c, .slice b m d] #[.bool g2, .slice a' n' c', .slice b' m' d'] #[.bool false, .slice none 0 0, .slice none 0 0]
  have B0 := h_x_0.below
  have h_xn_0 := h1.below h_x_0.below
  have h_xd_0 := h2.below h_x_0.below
  have h_yn_0 := h3.below h_x_0.below
  have h_yd_0 := h4.below h_x_0.below
  have k_x_0 := h_x_0.cell 0 _ rfl
  have k_x_1 := h_x_0.cell 1 _ rfl
  have k_x_2 := h_x_0.cell 2 _ rfl
  have k_y_0 := h_y_0.cell 0 _ rfl
  have k_y_1 := h_y_0.cell 1 _ rfl
  have k_y_2 := h_y_0.cell 2 _ rfl
  go_enter Tryz.func30, Tryz.ntmps30
  go_wp2_with fail
  clear k_x_0 k_x_1 k_x_2 k_y_0 k_y_1 k_y_2
  generalize ((w.alloc (.cells #[.bool g1, .slice a n c, .slice b m d] 24)).alloc (.cells #[.bool g2, .slice a' n' c', .slice b' m' d'] 24)).alloc (.cells #[.bool false, .slice none 0 0, .slice none 0 0] 24) = w0 at *
  have c := refRatBoth_any w0 (g1 := g1) (g2 := g2) h_xn_0 h_xd_0 h_yn_0 h_yd_0
  rw [BO.out] at c
  refine c.mono ?_
  rintro e w1 ⟨rfl, hb⟩
  clear c
  have B1 := B0.trans (hb.mono B0.size)
  have h_xn_1 := h_xn_0.below hb
  have h_xd_1 := h_xd_0.below hb
  have h_yn_1 := h_yn_0.below hb
  have h_yd_1 := h_yd_0.below hb
  have h_x_1 := h_x_0.later hb
  have h_y_1 := h_y_0.later hb
  have h_r_1 := h_r_0.later hb
  clear hb B0 h_xn_0 h_xd_0 h_yn_0 h_yd_0 h_x_0 h_y_0 h_r_0
  have k_y_0 := h_y_1.cell 0 _ rfl
  have k_y_1 := h_y_1.cell 1 _ rfl
  have k_y_2 := h_y_1.cell 2 _ rfl
  go_wp2_with fail
  clear k_y_0 k_y_1 k_y_2
  have c := refNeg_any w1 (g := g2) h_yn_1 h_yd_1
  rw [NG.out] at c
  refine c.mono ?_
  rintro e w2 ⟨a_z, n_z, c_z, b_z, m_z, d_z, rfl, h_zn_2, h_zd_2, hb⟩
  clear c
  have B2 := B1.trans (hb.mono B1.size)
  have h_xn_2 := h_xn_1.below hb
  have h_xd_2 := h_xd_1.below hb
  have h_yn_2 := h_yn_1.below hb
  have h_yd_2 := h_yd_1.below hb
  have h_x_2 := h_x_1.later hb
  have h_y_2 := h_y_1.later hb
  have h_r_2 := h_r_1.later hb
  clear hb B1 h_xn_1 h_xd_1 h_yn_1 h_yd_1 h_x_1 h_y_1 h_r_1
  have hb := below_al w2 (.cells #[.bool ((turnV ⟨g2, xs', ys'⟩)).neg, .slice a_z n_z c_z, .slice b_z m_z d_z] 24)
  have B3 := B2.trans (hb.mono B2.size)
  have h_xn_3 := h_xn_2.below hb
  have h_xd_3 := h_xd_2.below hb
  have h_yn_3 := h_yn_2.below hb
  have h_yd_3 := h_yd_2.below hb
  have h_x_3 := h_x_2.later hb
  have h_y_3 := h_y_2.later hb
  have h_r_3 := h_r_2.later hb
  have h_zn_3 := h_zn_2.below hb
  have h_zd_3 := h_zd_2.below hb
  clear hb B2 h_xn_2 h_xd_2 h_yn_2 h_yd_2 h_x_2 h_y_2 h_r_2 h_zn_2 h_zd_2
  have h_z_3 := Has.new w2 #[.bool ((turnV ⟨g2, xs', ys'⟩)).neg, .slice a_z n_z c_z, .slice b_z m_z d_z] 24
  have k_x_0 := h_x_3.cell 0 _ rfl
  have k_x_1 := h_x_3.cell 1 _ rfl
  have k_x_2 := h_x_3.cell 2 _ rfl
  have k_z_0 := h_z_3.cell 0 _ rfl
  have k_z_1 := h_z_3.cell 1 _ rfl
  have k_z_2 := h_z_3.cell 2 _ rfl
  go_wp2_with first | refine wpList_store_new rfl 24 _ _ rfl atRat _ _ _ rfl rfl rfl rfl (rat_one _ _ _ _ _ _ _) ?_
  clear k_x_0 k_x_1 k_x_2 k_z_0 k_z_1 k_z_2
  generalize (w2.alloc (.cells #[.bool ((turnV ⟨g2, xs', ys'⟩)).neg, .slice a_z n_z c_z, .slice b_z m_z d_z] 24)) = w3 at *
  have c := refRatAdd_any w3 (g1 := g1) (g2 := (turnV ⟨g2, xs', ys'⟩).neg) h_xn_3 h_xd_3 h_zn_3 h_zd_3
  rw [show (⟨(turnV ⟨g2, xs', ys'⟩).neg, (turnV ⟨g2, xs', ys'⟩).num, (turnV ⟨g2, xs', ys'⟩).den⟩ : QV) = (turnV ⟨g2, xs', ys'⟩) from rfl] at c
  rw [hres.out] at c
  refine c.mono ?_
  rintro e w4 ⟨a_l, n_l, c_l, b_l, m_l, d_l, rfl, h_ln_4, h_ld_4, hb⟩
  clear c
  have B4 := B3.trans (hb.mono B3.size)
  have h_xn_4 := h_xn_3.below hb
  have h_xd_4 := h_xd_3.below hb
  have h_yn_4 := h_yn_3.below hb
  have h_yd_4 := h_yd_3.below hb
  have h_x_4 := h_x_3.later hb
  have h_y_4 := h_y_3.later hb
  have h_r_4 := h_r_3.later hb
  have h_zn_4 := h_zn_3.below hb
  have h_zd_4 := h_zd_3.below hb
  have h_z_4 := h_z_3.later hb
  clear hb B3 h_xn_3 h_xd_3 h_yn_3 h_yd_3 h_x_3 h_y_3 h_r_3 h_zn_3 h_zd_3 h_z_3
  have row := h_r_4.row
  have HB := Lib.hid (fun cs => below_row h_r_4.below h_r_4.lo cs)
  have fin := Lib.hid (fun cs => (⟨rd_rowset h_ln_4 row (rat_noint _ _ _ _ _ _ _) cs, rd_rowset h_ld_4 row (rat_noint _ _ _ _ _ _ _) cs⟩ : _ ∧ _))
  go_wp2_with first | refine wpList_store_whole rfl 24 _ _ rfl atRat _ _ _ row rfl rfl rfl rfl (rat_one _ _ _ _ _ _ _) ?_
  refine bodyPost_ret (results_cell_two rfl _ _ _ _ _ _ _ rfl (setRow_heap _ _ _ _ _ _ row) Tryz.underlying24 rfl (by kernel_rfl) _ rfl) rfl ?_
  refine ⟨a_l, n_l, c_l, b_l, m_l, d_l, rfl, (fin.out _).1, (fin.out _).2, HB.out _⟩

set_option maxRecDepth 100000 in
set_option maxHeartbeats 4000000 in
theorem refRatMul_any (w : World) {g1 g2 : Bool} {a b a' b' : Option Addr} {n m c d n' m' c' d' : Nat} {xs ys xs' ys' : List Nat}
    (h1 : Rd .u32 w a n c xs) (h2 : Rd .u32 w b m d ys) (h3 : Rd .u32 w a' n' c' xs') (h4 : Rd .u32 w b' m' d' ys') :
    Calls Tryz.prog 32 #[ratV g1 a n c b m d, ratV g2 a' n' c' b' m' d'] w (RetQE w (mulV ⟨g1, xs, ys⟩ ⟨g2, xs', ys'⟩)) := by
  obtain ⟨r, hr⟩ : ∃ r, r = mulV ⟨g1, xs, ys⟩ ⟨g2, xs', ys'⟩ := ⟨_, rfl⟩
  rw [← hr]
  by_cases hc : chkV ⟨g1, xs, ys⟩ = 0 ∧ chkV ⟨g2, xs', ys'⟩ = 0
  case neg =>
    have hres := Lib.hid (show r = (zeroV, 8) by rw [hr, mulV, bothV, if_neg hc])
    have BO := Lib.hid (show bothOk ⟨g1, xs, ys⟩ ⟨g2, xs', ys'⟩ = false from decide_eq_false hc)
    clear hr hc
    obtain ⟨h_x_0, h_y_0, h_r_0⟩ := laid_three w #[.bool g1, .slice a n c, .slice b m d] #[.bool g2, .slice a' n' c', .slice b' m' d'] #[.bool false, .slice none 0 0, .slice none 0 0]
    have B0 := h_x_0.below
    have h_xn_0 := h1.below h_x_0.below
    have h_xd_0 := h2.below h_x_0.below
    have h_yn_0 := h3.below h_x_0.below
    have h_yd_0 := h4.below h_x_0.below
    have k_x_0 := h_x_0.cell 0 _ rfl
    have k_x_1 := h_x_0.cell 1 _ rfl
    have k_x_2 := h_x_0.cell 2 _ rfl
    have k_y_0 := h_y_0.cell 0 _ rfl
    have k_y_1 := h_y_0.cell 1 _ rfl
    have k_y_2 := h_y_0.cell 2 _ rfl
    go_enter Tryz.func32, Tryz.ntmps32
    go_wp2_with fail
    clear k_x_0 k_x_1 k_x_2 k_y_0 k_y_1 k_y_2
    generalize ((w.alloc (.cells #[.bool g1, .slice a n c, .slice b m d] 24)).alloc (.cells #[.bool g2, .slice a' n' c', .slice b' m' d'] 24)).alloc (.cells #[.bool false, .slice none 0 0, .slice none 0 0] 24) = w0 at *
    have c := refRatBoth_any w0 (g1 := g1) (g2 := g2) h_xn_0 h_xd_0 h_yn_0 h_yd_0
    rw [BO.out] at c
    refine c.mono ?_
    rintro e w1 ⟨rfl, hb⟩
    clear c
    have B1 := B0.trans (hb.mono B0.size)
    have h_xn_1 := h_xn_0.below hb
    have h_xd_1 := h_xd_0.below hb
    have h_yn_1 := h_yn_0.below hb
    have h_yd_1 := h_yd_0.below hb
    have h_x_1 := h_x_0.later hb
    have h_y_1 := h_y_0.later hb
    have h_r_1 := h_r_0.later hb
    clear hb B0 h_xn_0 h_xd_0 h_yn_0 h_yd_0 h_x_0 h_y_0 h_r_0
    have row := h_r_1.row
    go_wp2_with first | refine wpList_store_whole rfl 24 _ _ rfl atRat _ _ _ row rfl rfl rfl rfl (rat_one _ _ _ _ _ _ _) ?_
    refine bodyPost_ret (results_cell_two rfl _ _ _ _ _ _ _ rfl (setRow_heap _ _ _ _ _ _ row) Tryz.underlying24 rfl (by kernel_rfl) _ rfl) rfl ?_
    refine ⟨none, 0, 0, none, 0, 0, by rw [hres.out]; (try rfl), ?_, ?_, below_row h_r_1.below h_r_1.lo _⟩
    · rw [hres.out]; exact Rd.nil _ _
    · rw [hres.out]; exact Rd.nil _ _
  have BO := Lib.hid (show bothOk ⟨g1, xs, ys⟩ ⟨g2, xs', ys'⟩ = true from decide_eq_true hc)
  rw [mulV_prod (x := ⟨g1, xs, ys⟩) (y := ⟨g2, xs', ys'⟩) h1.bd h2.bd h3.bd h4.bd hc.1 hc.2] at hr
  obtain ⟨e1, e2, l1, l2, z1, -, -⟩ := chkV_parts (x := ⟨g1, xs, ys⟩) h1.bd h2.bd hc.1
  obtain ⟨e3, e4, l3, l4, z2, -, -⟩ := chkV_parts (x := ⟨g2, xs', ys'⟩) h3.bd h4.bd hc.2
  dsimp only at hr e1 e2 e3 e4 l1 l2 l3 l4 z1 z2
  obtain ⟨N1, hN1⟩ : ∃ N, N = val xs := ⟨_, rfl⟩
  obtain ⟨D1, hD1⟩ : ∃ N, N = val ys := ⟨_, rfl⟩
  obtain ⟨N2, hN2⟩ : ∃ N, N = val xs' := ⟨_, rfl⟩
  obtain ⟨D2, hD2⟩ : ∃ N, N = val ys' := ⟨_, rfl⟩
  rw [← hN1, ← hD1, ← hN2, ← hD2] at hr
  rw [← hN1] at e1 l1
  rw [← hD1] at e2 l2 z1
  rw [← hN2] at e3 l3
  rw [← hD2] at e4 l4 z2
  subst e1 e2 e3 e4
  clear hc hN1 hD1 hN2 hD2
  have hz := Lib.hid (Nat.mul_ne_zero z1 z2)
  by_cases e1 : N1 * N2 < pw 96
  case neg =>
    have hres := Lib.hid (show r = (zeroV, 30) by rw [hr, prodV, if_neg (fun h => e1 h.1)])
    have E1 := Lib.hid e1
    obtain ⟨fb, hfb⟩ : ∃ f, f = fitC (D1 * D2) := ⟨_, rfl⟩
    have FB := Lib.hid hfb.symm
    clear hr e1 hfb
    obtain ⟨h_x_0, h_y_0, h_r_0⟩ := laid_three w #[.bool g1, .slice a n c, .slice b m d] #[.bool g2, .slice a' n' c', .slice b' m' d'] #[.bool false, .slice none 0 0, .slice none 0 0]
    have B0 := h_x_0.below
    have h_xn_0 := h1.below h_x_0.below
    have h_xd_0 := h2.below h_x_0.below
    have h_yn_0 := h3.below h_x_0.below
    have h_yd_0 := h4.below h_x_0.below
    have k_x_0 := h_x_0.cell 0 _ rfl
    have k_x_1 := h_x_0.cell 1 _ rfl
    have k_x_2 := h_x_0.cell 2 _ rfl
    have k_y_0 := h_y_0.cell 0 _ rfl
    have k_y_1 := h_y_0.cell 1 _ rfl
    have k_y_2 := h_y_0.cell 2 _ rfl
    go_enter Tryz.func32, Tryz.ntmps32
    go_wp2_with fail
    clear k_x_0 k_x_1 k_x_2 k_y_0 k_y_1 k_y_2
    generalize ((w.alloc (.cells #[.bool g1, .slice a n c, .slice b m d] 24)).alloc (.cells #[.bool g2, .slice a' n' c', .slice b' m' d'] 24)).alloc (.cells #[.bool false, .slice none 0 0, .slice none 0 0] 24) = w0 at *
    have c := refRatBoth_any w0 (g1 := g1) (g2 := g2) h_xn_0 h_xd_0 h_yn_0 h_yd_0
    rw [BO.out] at c
    refine c.mono ?_
    rintro e w1 ⟨rfl, hb⟩
    clear c
    have B1 := B0.trans (hb.mono B0.size)
    have h_xn_1 := h_xn_0.below hb
    have h_xd_1 := h_xd_0.below hb
    have h_yn_1 := h_yn_0.below hb
    have h_yd_1 := h_yd_0.below hb
    have h_x_1 := h_x_0.later hb
    have h_y_1 := h_y_0.later hb
    have h_r_1 := h_r_0.later hb
    clear hb B0 h_xn_0 h_xd_0 h_yn_0 h_yd_0 h_x_0 h_y_0 h_r_0
    have k_x_1 := h_x_1.cell 1 _ rfl
    have k_y_1 := h_y_1.cell 1 _ rfl
    go_wp2_with fail
    clear k_x_1 k_y_1
    have c := refMul_any w1 h_xn_1 h_yn_1
    rw [mul_limbs l1 l3] at c
    rw [fit_great E1.out] at c
    refine c.mono ?_
    rintro e w2 ⟨a_a, n_a, c_a, rfl, h_a_2, hb⟩
    clear c
    have B2 := B1.trans (hb.mono B1.size)
    have h_xn_2 := h_xn_1.below hb
    have h_xd_2 := h_xd_1.below hb
    have h_yn_2 := h_yn_1.below hb
    have h_yd_2 := h_yd_1.below hb
    have h_x_2 := h_x_1.later hb
    have h_y_2 := h_y_1.later hb
    have h_r_2 := h_r_1.later hb
    clear hb B1 h_xn_1 h_xd_1 h_yn_1 h_yd_1 h_x_1 h_y_1 h_r_1
    have k_x_2 := h_x_2.cell 2 _ rfl
    have k_y_2 := h_y_2.cell 2 _ rfl
    go_wp2_with fail
    clear k_x_2 k_y_2
    have c := refMul_any w2 h_xd_2 h_yd_2
    rw [mul_limbs l2 l4] at c
    rw [FB.out] at c
    refine c.mono ?_
    rintro e w3 ⟨a_b, n_b, c_b, rfl, h_b_3, hb⟩
    clear c
    have B3 := B2.trans (hb.mono B2.size)
    have h_xn_3 := h_xn_2.below hb
    have h_xd_3 := h_xd_2.below hb
    have h_yn_3 := h_yn_2.below hb
    have h_yd_3 := h_yd_2.below hb
    have h_x_3 := h_x_2.later hb
    have h_y_3 := h_y_2.later hb
    have h_r_3 := h_r_2.later hb
    have h_a_3 := h_a_2.below hb
    clear hb B2 h_xn_2 h_xd_2 h_yn_2 h_yd_2 h_x_2 h_y_2 h_r_2 h_a_2
    have row := h_r_3.row
    go_wp2_with first | refine wpList_store_whole rfl 24 _ _ rfl atRat _ _ _ row rfl rfl rfl rfl (rat_one _ _ _ _ _ _ _) ?_
    refine bodyPost_ret (results_cell_two rfl _ _ _ _ _ _ _ rfl (setRow_heap _ _ _ _ _ _ row) Tryz.underlying24 rfl (by kernel_rfl) _ rfl) rfl ?_
    refine ⟨none, 0, 0, none, 0, 0, by rw [hres.out]; (try rfl), ?_, ?_, below_row h_r_3.below h_r_3.lo _⟩
    · rw [hres.out]; exact Rd.nil _ _
    · rw [hres.out]; exact Rd.nil _ _
  by_cases e2 : D1 * D2 < pw 96
  case neg =>
    have hres := Lib.hid (show r = (zeroV, 30) by rw [hr, prodV, if_neg (fun h => e2 h.2)])
    have E1 := Lib.hid e1
    have E2 := Lib.hid e2
    clear hr e1 e2
    obtain ⟨h_x_0, h_y_0, h_r_0⟩ := laid_three w #[.bool g1, .slice a n c, .slice b m d] #[.bool g2, .slice a' n' c', .slice b' m' d'] #[.bool false, .slice none 0 0, .slice none 0 0]
    have B0 := h_x_0.below
    have h_xn_0 := h1.below h_x_0.below
    have h_xd_0 := h2.below h_x_0.below
    have h_yn_0 := h3.below h_x_0.below
    have h_yd_0 := h4.below h_x_0.below
    have k_x_0 := h_x_0.cell 0 _ rfl
    have k_x_1 := h_x_0.cell 1 _ rfl
    have k_x_2 := h_x_0.cell 2 _ rfl
    have k_y_0 := h_y_0.cell 0 _ rfl
    have k_y_1 := h_y_0.cell 1 _ rfl
    have k_y_2 := h_y_0.cell 2 _ rfl
    go_enter Tryz.func32, Tryz.ntmps32
    go_wp2_with fail
    clear k_x_0 k_x_1 k_x_2 k_y_0 k_y_1 k_y_2
    generalize ((w.alloc (.cells #[.bool g1, .slice a n c, .slice b m d] 24)).alloc (.cells #[.bool g2, .slice a' n' c', .slice b' m' d'] 24)).alloc (.cells #[.bool false, .slice none 0 0, .slice none 0 0] 24) = w0 at *
    have c := refRatBoth_any w0 (g1 := g1) (g2 := g2) h_xn_0 h_xd_0 h_yn_0 h_yd_0
    rw [BO.out] at c
    refine c.mono ?_
    rintro e w1 ⟨rfl, hb⟩
    clear c
    have B1 := B0.trans (hb.mono B0.size)
    have h_xn_1 := h_xn_0.below hb
    have h_xd_1 := h_xd_0.below hb
    have h_yn_1 := h_yn_0.below hb
    have h_yd_1 := h_yd_0.below hb
    have h_x_1 := h_x_0.later hb
    have h_y_1 := h_y_0.later hb
    have h_r_1 := h_r_0.later hb
    clear hb B0 h_xn_0 h_xd_0 h_yn_0 h_yd_0 h_x_0 h_y_0 h_r_0
    have k_x_1 := h_x_1.cell 1 _ rfl
    have k_y_1 := h_y_1.cell 1 _ rfl
    go_wp2_with fail
    clear k_x_1 k_y_1
    have c := refMul_any w1 h_xn_1 h_yn_1
    rw [mul_limbs l1 l3] at c
    rw [fit_limbs E1.out] at c
    refine c.mono ?_
    rintro e w2 ⟨a_a, n_a, c_a, rfl, h_a_2, hb⟩
    clear c
    have B2 := B1.trans (hb.mono B1.size)
    have h_xn_2 := h_xn_1.below hb
    have h_xd_2 := h_xd_1.below hb
    have h_yn_2 := h_yn_1.below hb
    have h_yd_2 := h_yd_1.below hb
    have h_x_2 := h_x_1.later hb
    have h_y_2 := h_y_1.later hb
    have h_r_2 := h_r_1.later hb
    clear hb B1 h_xn_1 h_xd_1 h_yn_1 h_yd_1 h_x_1 h_y_1 h_r_1
    have k_x_2 := h_x_2.cell 2 _ rfl
    have k_y_2 := h_y_2.cell 2 _ rfl
    go_wp2_with fail
    clear k_x_2 k_y_2
    have c := refMul_any w2 h_xd_2 h_yd_2
    rw [mul_limbs l2 l4] at c
    rw [fit_great E2.out] at c
    refine c.mono ?_
    rintro e w3 ⟨a_b, n_b, c_b, rfl, h_b_3, hb⟩
    clear c
    have B3 := B2.trans (hb.mono B2.size)
    have h_xn_3 := h_xn_2.below hb
    have h_xd_3 := h_xd_2.below hb
    have h_yn_3 := h_yn_2.below hb
    have h_yd_3 := h_yd_2.below hb
    have h_x_3 := h_x_2.later hb
    have h_y_3 := h_y_2.later hb
    have h_r_3 := h_r_2.later hb
    have h_a_3 := h_a_2.below hb
    clear hb B2 h_xn_2 h_xd_2 h_yn_2 h_yd_2 h_x_2 h_y_2 h_r_2 h_a_2
    have row := h_r_3.row
    go_wp2_with first | refine wpList_store_whole rfl 24 _ _ rfl atRat _ _ _ row rfl rfl rfl rfl (rat_one _ _ _ _ _ _ _) ?_
    refine bodyPost_ret (results_cell_two rfl _ _ _ _ _ _ _ rfl (setRow_heap _ _ _ _ _ _ row) Tryz.underlying24 rfl (by kernel_rfl) _ rfl) rfl ?_
    refine ⟨none, 0, 0, none, 0, 0, by rw [hres.out]; (try rfl), ?_, ?_, below_row h_r_3.below h_r_3.lo _⟩
    · rw [hres.out]; exact Rd.nil _ _
    · rw [hres.out]; exact Rd.nil _ _
  have E1 := Lib.hid e1
  have E2 := Lib.hid e2
  obtain ⟨v, hv⟩ : ∃ v, v = lowV (g1 != g2) (N1 * N2) (D1 * D2) := ⟨_, rfl⟩
  have hres := Lib.hid (show r = (v, 0) by rw [hr, prodV, if_pos ⟨e1, e2⟩, hv])
  have HV := Lib.hid hv.symm
  clear hv hr e1 e2
  obtain ⟨h_x_0, h_y_0, h_r_0⟩ := laid_three w #[.bool g1, .slice a n c, .slice b m d] #[.bool g2, .slice a' n' c', .slice b' m' d'] #[.bool false, .slice none 0 0, .slice none 0 0]
  have B0 := h_x_0.below
  have h_xn_0 := h1.below h_x_0.below
  have h_xd_0 := h2.below h_x_0.below
  have h_yn_0 := h3.below h_x_0.below
  have h_yd_0 := h4.below h_x_0.below
  have k_x_0 := h_x_0.cell 0 _ rfl
  have k_x_1 := h_x_0.cell 1 _ rfl
  have k_x_2 := h_x_0.cell 2 _ rfl
  have k_y_0 := h_y_0.cell 0 _ rfl
  have k_y_1 := h_y_0.cell 1 _ rfl
  have k_y_2 := h_y_0.cell 2 _ rfl
  go_enter Tryz.func32, Tryz.ntmps32
  go_wp2_with fail
  clear k_x_0 k_x_1 k_x_2 k_y_0 k_y_1 k_y_2
  generalize ((w.alloc (.cells #[.bool g1, .slice a n c, .slice b m d] 24)).alloc (.cells #[.bool g2, .slice a' n' c', .slice b' m' d'] 24)).alloc (.cells #[.bool false, .slice none 0 0, .slice none 0 0] 24) = w0 at *
  have c := refRatBoth_any w0 (g1 := g1) (g2 := g2) h_xn_0 h_xd_0 h_yn_0 h_yd_0
  rw [BO.out] at c
  refine c.mono ?_
  rintro e w1 ⟨rfl, hb⟩
  clear c
  have B1 := B0.trans (hb.mono B0.size)
  have h_xn_1 := h_xn_0.below hb
  have h_xd_1 := h_xd_0.below hb
  have h_yn_1 := h_yn_0.below hb
  have h_yd_1 := h_yd_0.below hb
  have h_x_1 := h_x_0.later hb
  have h_y_1 := h_y_0.later hb
  have h_r_1 := h_r_0.later hb
  clear hb B0 h_xn_0 h_xd_0 h_yn_0 h_yd_0 h_x_0 h_y_0 h_r_0
  have k_x_1 := h_x_1.cell 1 _ rfl
  have k_y_1 := h_y_1.cell 1 _ rfl
  go_wp2_with fail
  clear k_x_1 k_y_1
  have c := refMul_any w1 h_xn_1 h_yn_1
  rw [mul_limbs l1 l3] at c
  rw [fit_limbs E1.out] at c
  refine c.mono ?_
  rintro e w2 ⟨a_a, n_a, c_a, rfl, h_a_2, hb⟩
  clear c
  have B2 := B1.trans (hb.mono B1.size)
  have h_xn_2 := h_xn_1.below hb
  have h_xd_2 := h_xd_1.below hb
  have h_yn_2 := h_yn_1.below hb
  have h_yd_2 := h_yd_1.below hb
  have h_x_2 := h_x_1.later hb
  have h_y_2 := h_y_1.later hb
  have h_r_2 := h_r_1.later hb
  clear hb B1 h_xn_1 h_xd_1 h_yn_1 h_yd_1 h_x_1 h_y_1 h_r_1
  have k_x_2 := h_x_2.cell 2 _ rfl
  have k_y_2 := h_y_2.cell 2 _ rfl
  go_wp2_with fail
  clear k_x_2 k_y_2
  have c := refMul_any w2 h_xd_2 h_yd_2
  rw [mul_limbs l2 l4] at c
  rw [fit_limbs E2.out] at c
  refine c.mono ?_
  rintro e w3 ⟨a_b, n_b, c_b, rfl, h_b_3, hb⟩
  clear c
  have B3 := B2.trans (hb.mono B2.size)
  have h_xn_3 := h_xn_2.below hb
  have h_xd_3 := h_xd_2.below hb
  have h_yn_3 := h_yn_2.below hb
  have h_yd_3 := h_yd_2.below hb
  have h_x_3 := h_x_2.later hb
  have h_y_3 := h_y_2.later hb
  have h_r_3 := h_r_2.later hb
  have h_a_3 := h_a_2.below hb
  clear hb B2 h_xn_2 h_xd_2 h_yn_2 h_yd_2 h_x_2 h_y_2 h_r_2 h_a_2
  have k_x_0 := h_x_3.cell 0 _ rfl
  have k_y_0 := h_y_3.cell 0 _ rfl
  go_wp2_with fail
  clear k_x_0 k_y_0
  have c := refLowest_any w3 (g1 != g2) h_a_3 h_b_3 E1.out E2.out hz.out
  rw [HV.out] at c
  refine c.mono ?_
  rintro e w4 ⟨a_l, n_l, c_l, b_l, m_l, d_l, rfl, h_ln_4, h_ld_4, hb⟩
  clear c
  have B4 := B3.trans (hb.mono B3.size)
  have h_xn_4 := h_xn_3.below hb
  have h_xd_4 := h_xd_3.below hb
  have h_yn_4 := h_yn_3.below hb
  have h_yd_4 := h_yd_3.below hb
  have h_x_4 := h_x_3.later hb
  have h_y_4 := h_y_3.later hb
  have h_r_4 := h_r_3.later hb
  have h_a_4 := h_a_3.below hb
  have h_b_4 := h_b_3.below hb
  clear hb B3 h_xn_3 h_xd_3 h_yn_3 h_yd_3 h_x_3 h_y_3 h_r_3 h_a_3 h_b_3
  have row := h_r_4.row
  have HB := Lib.hid (fun cs => below_row h_r_4.below h_r_4.lo cs)
  have fin := Lib.hid (fun cs => (⟨rd_rowset h_ln_4 row (rat_noint _ _ _ _ _ _ _) cs, rd_rowset h_ld_4 row (rat_noint _ _ _ _ _ _ _) cs⟩ : _ ∧ _))
  go_wp2_with first | refine wpList_store_whole rfl 24 _ _ rfl atRat _ _ _ row rfl rfl rfl rfl (rat_one _ _ _ _ _ _ _) ?_
  refine bodyPost_ret (results_cell_two rfl _ _ _ _ _ _ _ rfl (setRow_heap _ _ _ _ _ _ row) Tryz.underlying24 rfl (by kernel_rfl) _ rfl) rfl ?_
  refine ⟨a_l, n_l, c_l, b_l, m_l, d_l, by rw [hres.out]; (try rfl), ?_, ?_, HB.out _⟩
  · rw [hres.out]; exact (fin.out _).1
  · rw [hres.out]; exact (fin.out _).2

set_option maxRecDepth 100000 in
set_option maxHeartbeats 4000000 in
theorem refRatDiv_any (w : World) {g1 g2 : Bool} {a b a' b' : Option Addr} {n m c d n' m' c' d' : Nat} {xs ys xs' ys' : List Nat}
    (h1 : Rd .u32 w a n c xs) (h2 : Rd .u32 w b m d ys) (h3 : Rd .u32 w a' n' c' xs') (h4 : Rd .u32 w b' m' d' ys') :
    Calls Tryz.prog 34 #[ratV g1 a n c b m d, ratV g2 a' n' c' b' m' d'] w (RetQE w (divV ⟨g1, xs, ys⟩ ⟨g2, xs', ys'⟩)) := by
  obtain ⟨r, hr⟩ : ∃ r, r = divV ⟨g1, xs, ys⟩ ⟨g2, xs', ys'⟩ := ⟨_, rfl⟩
  rw [← hr]
  by_cases hc : chkV ⟨g1, xs, ys⟩ = 0 ∧ chkV ⟨g2, xs', ys'⟩ = 0
  case neg =>
    have hres := Lib.hid (show r = (zeroV, 8) by rw [hr, divV, bothV, if_neg hc])
    have BO := Lib.hid (show bothOk ⟨g1, xs, ys⟩ ⟨g2, xs', ys'⟩ = false from decide_eq_false hc)
    clear hr hc
    obtain ⟨h_x_0, h_y_0, h_r_0⟩ := laid_three w #[.bool g1, .slice a n c, .slice b m d] #[.bool g2, .slice a' n' c', .slice b' m' d'] #[.bool false, .slice none 0 0, .slice none 0 0]
    have B0 := h_x_0.below
    have h_xn_0 := h1.below h_x_0.below
    have h_xd_0 := h2.below h_x_0.below
    have h_yn_0 := h3.below h_x_0.below
    have h_yd_0 := h4.below h_x_0.below
    have k_x_0 := h_x_0.cell 0 _ rfl
    have k_x_1 := h_x_0.cell 1 _ rfl
    have k_x_2 := h_x_0.cell 2 _ rfl
    have k_y_0 := h_y_0.cell 0 _ rfl
    have k_y_1 := h_y_0.cell 1 _ rfl
    have k_y_2 := h_y_0.cell 2 _ rfl
    go_enter Tryz.func34, Tryz.ntmps34
    go_wp2_with fail
    clear k_x_0 k_x_1 k_x_2 k_y_0 k_y_1 k_y_2
    generalize ((w.alloc (.cells #[.bool g1, .slice a n c, .slice b m d] 24)).alloc (.cells #[.bool g2, .slice a' n' c', .slice b' m' d'] 24)).alloc (.cells #[.bool false, .slice none 0 0, .slice none 0 0] 24) = w0 at *
    have c := refRatBoth_any w0 (g1 := g1) (g2 := g2) h_xn_0 h_xd_0 h_yn_0 h_yd_0
    rw [BO.out] at c
    refine c.mono ?_
    rintro e w1 ⟨rfl, hb⟩
    clear c
    have B1 := B0.trans (hb.mono B0.size)
    have h_xn_1 := h_xn_0.below hb
    have h_xd_1 := h_xd_0.below hb
    have h_yn_1 := h_yn_0.below hb
    have h_yd_1 := h_yd_0.below hb
    have h_x_1 := h_x_0.later hb
    have h_y_1 := h_y_0.later hb
    have h_r_1 := h_r_0.later hb
    clear hb B0 h_xn_0 h_xd_0 h_yn_0 h_yd_0 h_x_0 h_y_0 h_r_0
    have row := h_r_1.row
    go_wp2_with first | refine wpList_store_whole rfl 24 _ _ rfl atRat _ _ _ row rfl rfl rfl rfl (rat_one _ _ _ _ _ _ _) ?_
    refine bodyPost_ret (results_cell_two rfl _ _ _ _ _ _ _ rfl (setRow_heap _ _ _ _ _ _ row) Tryz.underlying24 rfl (by kernel_rfl) _ rfl) rfl ?_
    refine ⟨none, 0, 0, none, 0, 0, by rw [hres.out]; (try rfl), ?_, ?_, below_row h_r_1.below h_r_1.lo _⟩
    · rw [hres.out]; exact Rd.nil _ _
    · rw [hres.out]; exact Rd.nil _ _
  have BO := Lib.hid (show bothOk ⟨g1, xs, ys⟩ ⟨g2, xs', ys'⟩ = true from decide_eq_true hc)
  rw [divV_quo (x := ⟨g1, xs, ys⟩) (y := ⟨g2, xs', ys'⟩) h1.bd h2.bd h3.bd h4.bd hc.1 hc.2] at hr
  obtain ⟨e1, e2, l1, l2, z1, -, -⟩ := chkV_parts (x := ⟨g1, xs, ys⟩) h1.bd h2.bd hc.1
  obtain ⟨e3, e4, l3, l4, z2, -, -⟩ := chkV_parts (x := ⟨g2, xs', ys'⟩) h3.bd h4.bd hc.2
  dsimp only at hr e1 e2 e3 e4 l1 l2 l3 l4 z1 z2
  obtain ⟨N1, hN1⟩ : ∃ N, N = val xs := ⟨_, rfl⟩
  obtain ⟨D1, hD1⟩ : ∃ N, N = val ys := ⟨_, rfl⟩
  obtain ⟨N2, hN2⟩ : ∃ N, N = val xs' := ⟨_, rfl⟩
  obtain ⟨D2, hD2⟩ : ∃ N, N = val ys' := ⟨_, rfl⟩
  rw [← hN1, ← hD1, ← hN2, ← hD2] at hr
  rw [← hN1] at e1 l1
  rw [← hD1] at e2 l2 z1
  rw [← hN2] at e3 l3
  rw [← hD2] at e4 l4 z2
  subst e1 e2 e3 e4
  clear hc hN1 hD1 hN2 hD2
  rw [quoV] at hr
  have L3 : (limbs N2).length = n' := h3.len
  have LZ := limbs_len_zero (A := N2)
  by_cases hz0 : N2 = 0
  case pos =>
    have hres := Lib.hid (show r = (zeroV, 40) by rw [hr, if_pos hz0])
    have nz : ((n' : Int) == 0) = true := beq_iff_eq.2 (by omega)
    have nz2 : (n' == 0) = true := beq_iff_eq.2 (by omega)
    clear hr hz0 L3 LZ
    obtain ⟨h_x_0, h_y_0, h_r_0⟩ := laid_three w #[.bool g1, .slice a n c, .slice b m d] #[.bool g2, .slice a' n' c', .slice b' m' d'] #[.bool false, .slice none 0 0, .slice none 0 0]
    have B0 := h_x_0.below
    have h_xn_0 := h1.below h_x_0.below
    have h_xd_0 := h2.below h_x_0.below
    have h_yn_0 := h3.below h_x_0.below
    have h_yd_0 := h4.below h_x_0.below
    have k_x_0 := h_x_0.cell 0 _ rfl
    have k_x_1 := h_x_0.cell 1 _ rfl
    have k_x_2 := h_x_0.cell 2 _ rfl
    have k_y_0 := h_y_0.cell 0 _ rfl
    have k_y_1 := h_y_0.cell 1 _ rfl
    have k_y_2 := h_y_0.cell 2 _ rfl
    go_enter Tryz.func34, Tryz.ntmps34
    go_wp2_with fail
    clear k_x_0 k_x_1 k_x_2 k_y_0 k_y_1 k_y_2
    generalize ((w.alloc (.cells #[.bool g1, .slice a n c, .slice b m d] 24)).alloc (.cells #[.bool g2, .slice a' n' c', .slice b' m' d'] 24)).alloc (.cells #[.bool false, .slice none 0 0, .slice none 0 0] 24) = w0 at *
    have c := refRatBoth_any w0 (g1 := g1) (g2 := g2) h_xn_0 h_xd_0 h_yn_0 h_yd_0
    rw [BO.out] at c
    refine c.mono ?_
    rintro e w1 ⟨rfl, hb⟩
    clear c
    have B1 := B0.trans (hb.mono B0.size)
    have h_xn_1 := h_xn_0.below hb
    have h_xd_1 := h_xd_0.below hb
    have h_yn_1 := h_yn_0.below hb
    have h_yd_1 := h_yd_0.below hb
    have h_x_1 := h_x_0.later hb
    have h_y_1 := h_y_0.later hb
    have h_r_1 := h_r_0.later hb
    clear hb B0 h_xn_0 h_xd_0 h_yn_0 h_yd_0 h_x_0 h_y_0 h_r_0
    have k_y_1 := h_y_1.cell 1 _ rfl
    have row := h_r_1.row
    go_wp2_with first | refine wpList_store_whole rfl 24 _ _ rfl atRat _ _ _ row rfl rfl rfl rfl (rat_one _ _ _ _ _ _ _) ?_
    clear k_y_1
    refine bodyPost_ret (results_cell_two rfl _ _ _ _ _ _ _ rfl (setRow_heap _ _ _ _ _ _ row) Tryz.underlying24 rfl (by kernel_rfl) _ rfl) rfl ?_
    refine ⟨none, 0, 0, none, 0, 0, by rw [hres.out]; (try rfl), ?_, ?_, below_row h_r_1.below h_r_1.lo _⟩
    · rw [hres.out]; exact Rd.nil _ _
    · rw [hres.out]; exact Rd.nil _ _
  rw [if_neg hz0] at hr
  have nz : ((n' : Int) == 0) = false := beq_eq_false_iff_ne.2 (by omega)
  have nz2 : (n' == 0) = false := beq_eq_false_iff_ne.2 (by omega)
  have hz := Lib.hid (Nat.mul_ne_zero z1 hz0)
  clear hz0 L3 LZ
  by_cases e1 : N1 * D2 < pw 96
  case neg =>
    have hres := Lib.hid (show r = (zeroV, 30) by rw [hr, prodV, if_neg (fun h => e1 h.1)])
    have E1 := Lib.hid e1
    obtain ⟨fb, hfb⟩ : ∃ f, f = fitC (D1 * N2) := ⟨_, rfl⟩
    have FB := Lib.hid hfb.symm
    clear hr e1 hfb
    obtain ⟨h_x_0, h_y_0, h_r_0⟩ := laid_three w #[.bool g1, .slice a n c, .slice b m d] #[.bool g2, .slice a' n' c', .slice b' m' d'] #[.bool false, .slice none 0 0, .slice none 0 0]
    have B0 := h_x_0.below
    have h_xn_0 := h1.below h_x_0.below
    have h_xd_0 := h2.below h_x_0.below
    have h_yn_0 := h3.below h_x_0.below
    have h_yd_0 := h4.below h_x_0.below
    have k_x_0 := h_x_0.cell 0 _ rfl
    have k_x_1 := h_x_0.cell 1 _ rfl
    have k_x_2 := h_x_0.cell 2 _ rfl
    have k_y_0 := h_y_0.cell 0 _ rfl
    have k_y_1 := h_y_0.cell 1 _ rfl
    have k_y_2 := h_y_0.cell 2 _ rfl
    go_enter Tryz.func34, Tryz.ntmps34
    go_wp2_with fail
    clear k_x_0 k_x_1 k_x_2 k_y_0 k_y_1 k_y_2
    generalize ((w.alloc (.cells #[.bool g1, .slice a n c, .slice b m d] 24)).alloc (.cells #[.bool g2, .slice a' n' c', .slice b' m' d'] 24)).alloc (.cells #[.bool false, .slice none 0 0, .slice none 0 0] 24) = w0 at *
    have c := refRatBoth_any w0 (g1 := g1) (g2 := g2) h_xn_0 h_xd_0 h_yn_0 h_yd_0
    rw [BO.out] at c
    refine c.mono ?_
    rintro e w1 ⟨rfl, hb⟩
    clear c
    have B1 := B0.trans (hb.mono B0.size)
    have h_xn_1 := h_xn_0.below hb
    have h_xd_1 := h_xd_0.below hb
    have h_yn_1 := h_yn_0.below hb
    have h_yd_1 := h_yd_0.below hb
    have h_x_1 := h_x_0.later hb
    have h_y_1 := h_y_0.later hb
    have h_r_1 := h_r_0.later hb
    clear hb B0 h_xn_0 h_xd_0 h_yn_0 h_yd_0 h_x_0 h_y_0 h_r_0
    have k_y_1 := h_y_1.cell 1 _ rfl
    have k_x_1 := h_x_1.cell 1 _ rfl
    have k_y_2 := h_y_1.cell 2 _ rfl
    go_wp2_with fail
    clear k_y_1 k_x_1 k_y_2
    have c := refMul_any w1 h_xn_1 h_yd_1
    rw [mul_limbs l1 l4] at c
    rw [fit_great E1.out] at c
    refine c.mono ?_
    rintro e w2 ⟨a_a, n_a, c_a, rfl, h_a_2, hb⟩
    clear c
    have B2 := B1.trans (hb.mono B1.size)
    have h_xn_2 := h_xn_1.below hb
    have h_xd_2 := h_xd_1.below hb
    have h_yn_2 := h_yn_1.below hb
    have h_yd_2 := h_yd_1.below hb
    have h_x_2 := h_x_1.later hb
    have h_y_2 := h_y_1.later hb
    have h_r_2 := h_r_1.later hb
    clear hb B1 h_xn_1 h_xd_1 h_yn_1 h_yd_1 h_x_1 h_y_1 h_r_1
    have k_x_2 := h_x_2.cell 2 _ rfl
    have k_y_1 := h_y_2.cell 1 _ rfl
    go_wp2_with fail
    clear k_x_2 k_y_1
    have c := refMul_any w2 h_xd_2 h_yn_2
    rw [mul_limbs l2 l3] at c
    rw [FB.out] at c
    refine c.mono ?_
    rintro e w3 ⟨a_b, n_b, c_b, rfl, h_b_3, hb⟩
    clear c
    have B3 := B2.trans (hb.mono B2.size)
    have h_xn_3 := h_xn_2.below hb
    have h_xd_3 := h_xd_2.below hb
    have h_yn_3 := h_yn_2.below hb
    have h_yd_3 := h_yd_2.below hb
    have h_x_3 := h_x_2.later hb
    have h_y_3 := h_y_2.later hb
    have h_r_3 := h_r_2.later hb
    have h_a_3 := h_a_2.below hb
    clear hb B2 h_xn_2 h_xd_2 h_yn_2 h_yd_2 h_x_2 h_y_2 h_r_2 h_a_2
    have row := h_r_3.row
    go_wp2_with first | refine wpList_store_whole rfl 24 _ _ rfl atRat _ _ _ row rfl rfl rfl rfl (rat_one _ _ _ _ _ _ _) ?_
    refine bodyPost_ret (results_cell_two rfl _ _ _ _ _ _ _ rfl (setRow_heap _ _ _ _ _ _ row) Tryz.underlying24 rfl (by kernel_rfl) _ rfl) rfl ?_
    refine ⟨none, 0, 0, none, 0, 0, by rw [hres.out]; (try rfl), ?_, ?_, below_row h_r_3.below h_r_3.lo _⟩
    · rw [hres.out]; exact Rd.nil _ _
    · rw [hres.out]; exact Rd.nil _ _
  by_cases e2 : D1 * N2 < pw 96
  case neg =>
    have hres := Lib.hid (show r = (zeroV, 30) by rw [hr, prodV, if_neg (fun h => e2 h.2)])
    have E1 := Lib.hid e1
    have E2 := Lib.hid e2
    clear hr e1 e2
    obtain ⟨h_x_0, h_y_0, h_r_0⟩ := laid_three w #[.bool g1, .slice a n c, .slice b m d] #[.bool g2, .slice a' n' c', .slice b' m' d'] #[.bool false, .slice none 0 0, .slice none 0 0]
    have B0 := h_x_0.below
    have h_xn_0 := h1.below h_x_0.below
    have h_xd_0 := h2.below h_x_0.below
    have h_yn_0 := h3.below h_x_0.below
    have h_yd_0 := h4.below h_x_0.below
    have k_x_0 := h_x_0.cell 0 _ rfl
    have k_x_1 := h_x_0.cell 1 _ rfl
    have k_x_2 := h_x_0.cell 2 _ rfl
    have k_y_0 := h_y_0.cell 0 _ rfl
    have k_y_1 := h_y_0.cell 1 _ rfl
    have k_y_2 := h_y_0.cell 2 _ rfl
    go_enter Tryz.func34, Tryz.ntmps34
    go_wp2_with fail
    clear k_x_0 k_x_1 k_x_2 k_y_0 k_y_1 k_y_2
    generalize ((w.alloc (.cells #[.bool g1, .slice a n c, .slice b m d] 24)).alloc (.cells #[.bool g2, .slice a' n' c', .slice b' m' d'] 24)).alloc (.cells #[.bool false, .slice none 0 0, .slice none 0 0] 24) = w0 at *
    have c := refRatBoth_any w0 (g1 := g1) (g2 := g2) h_xn_0 h_xd_0 h_yn_0 h_yd_0
    rw [BO.out] at c
    refine c.mono ?_
    rintro e w1 ⟨rfl, hb⟩
    clear c
    have B1 := B0.trans (hb.mono B0.size)
    have h_xn_1 := h_xn_0.below hb
    have h_xd_1 := h_xd_0.below hb
    have h_yn_1 := h_yn_0.below hb
    have h_yd_1 := h_yd_0.below hb
    have h_x_1 := h_x_0.later hb
    have h_y_1 := h_y_0.later hb
    have h_r_1 := h_r_0.later hb
    clear hb B0 h_xn_0 h_xd_0 h_yn_0 h_yd_0 h_x_0 h_y_0 h_r_0
    have k_y_1 := h_y_1.cell 1 _ rfl
    have k_x_1 := h_x_1.cell 1 _ rfl
    have k_y_2 := h_y_1.cell 2 _ rfl
    go_wp2_with fail
    clear k_y_1 k_x_1 k_y_2
    have c := refMul_any w1 h_xn_1 h_yd_1
    rw [mul_limbs l1 l4] at c
    rw [fit_limbs E1.out] at c
    refine c.mono ?_
    rintro e w2 ⟨a_a, n_a, c_a, rfl, h_a_2, hb⟩
    clear c
    have B2 := B1.trans (hb.mono B1.size)
    have h_xn_2 := h_xn_1.below hb
    have h_xd_2 := h_xd_1.below hb
    have h_yn_2 := h_yn_1.below hb
    have h_yd_2 := h_yd_1.below hb
    have h_x_2 := h_x_1.later hb
    have h_y_2 := h_y_1.later hb
    have h_r_2 := h_r_1.later hb
    clear hb B1 h_xn_1 h_xd_1 h_yn_1 h_yd_1 h_x_1 h_y_1 h_r_1
    have k_x_2 := h_x_2.cell 2 _ rfl
    have k_y_1 := h_y_2.cell 1 _ rfl
    go_wp2_with fail
    clear k_x_2 k_y_1
    have c := refMul_any w2 h_xd_2 h_yn_2
    rw [mul_limbs l2 l3] at c
    rw [fit_great E2.out] at c
    refine c.mono ?_
    rintro e w3 ⟨a_b, n_b, c_b, rfl, h_b_3, hb⟩
    clear c
    have B3 := B2.trans (hb.mono B2.size)
    have h_xn_3 := h_xn_2.below hb
    have h_xd_3 := h_xd_2.below hb
    have h_yn_3 := h_yn_2.below hb
    have h_yd_3 := h_yd_2.below hb
    have h_x_3 := h_x_2.later hb
    have h_y_3 := h_y_2.later hb
    have h_r_3 := h_r_2.later hb
    have h_a_3 := h_a_2.below hb
    clear hb B2 h_xn_2 h_xd_2 h_yn_2 h_yd_2 h_x_2 h_y_2 h_r_2 h_a_2
    have row := h_r_3.row
    go_wp2_with first | refine wpList_store_whole rfl 24 _ _ rfl atRat _ _ _ row rfl rfl rfl rfl (rat_one _ _ _ _ _ _ _) ?_
    refine bodyPost_ret (results_cell_two rfl _ _ _ _ _ _ _ rfl (setRow_heap _ _ _ _ _ _ row) Tryz.underlying24 rfl (by kernel_rfl) _ rfl) rfl ?_
    refine ⟨none, 0, 0, none, 0, 0, by rw [hres.out]; (try rfl), ?_, ?_, below_row h_r_3.below h_r_3.lo _⟩
    · rw [hres.out]; exact Rd.nil _ _
    · rw [hres.out]; exact Rd.nil _ _
  have E1 := Lib.hid e1
  have E2 := Lib.hid e2
  obtain ⟨v, hv⟩ : ∃ v, v = lowV (g1 != g2) (N1 * D2) (D1 * N2) := ⟨_, rfl⟩
  have hres := Lib.hid (show r = (v, 0) by rw [hr, prodV, if_pos ⟨e1, e2⟩, hv])
  have HV := Lib.hid hv.symm
  clear hv hr e1 e2
  obtain ⟨h_x_0, h_y_0, h_r_0⟩ := laid_three w #[.bool g1, .slice a n c, .slice b m d] #[.bool g2, .slice a' n' c', .slice b' m' d'] #[.bool false, .slice none 0 0, .slice none 0 0]
  have B0 := h_x_0.below
  have h_xn_0 := h1.below h_x_0.below
  have h_xd_0 := h2.below h_x_0.below
  have h_yn_0 := h3.below h_x_0.below
  have h_yd_0 := h4.below h_x_0.below
  have k_x_0 := h_x_0.cell 0 _ rfl
  have k_x_1 := h_x_0.cell 1 _ rfl
  have k_x_2 := h_x_0.cell 2 _ rfl
  have k_y_0 := h_y_0.cell 0 _ rfl
  have k_y_1 := h_y_0.cell 1 _ rfl
  have k_y_2 := h_y_0.cell 2 _ rfl
  go_enter Tryz.func34, Tryz.ntmps34
  go_wp2_with fail
  clear k_x_0 k_x_1 k_x_2 k_y_0 k_y_1 k_y_2
  generalize ((w.alloc (.cells #[.bool g1, .slice a n c, .slice b m d] 24)).alloc (.cells #[.bool g2, .slice a' n' c', .slice b' m' d'] 24)).alloc (.cells #[.bool false, .slice none 0 0, .slice none 0 0] 24) = w0 at *
  have c := refRatBoth_any w0 (g1 := g1) (g2 := g2) h_xn_0 h_xd_0 h_yn_0 h_yd_0
  rw [BO.out] at c
  refine c.mono ?_
  rintro e w1 ⟨rfl, hb⟩
  clear c
  have B1 := B0.trans (hb.mono B0.size)
  have h_xn_1 := h_xn_0.below hb
  have h_xd_1 := h_xd_0.below hb
  have h_yn_1 := h_yn_0.below hb
  have h_yd_1 := h_yd_0.below hb
  have h_x_1 := h_x_0.later hb
  have h_y_1 := h_y_0.later hb
  have h_r_1 := h_r_0.later hb
  clear hb B0 h_xn_0 h_xd_0 h_yn_0 h_yd_0 h_x_0 h_y_0 h_r_0
  have k_y_1 := h_y_1.cell 1 _ rfl
  have k_x_1 := h_x_1.cell 1 _ rfl
  have k_y_2 := h_y_1.cell 2 _ rfl
  go_wp2_with fail
  clear k_y_1 k_x_1 k_y_2
  have c := refMul_any w1 h_xn_1 h_yd_1
  rw [mul_limbs l1 l4] at c
  rw [fit_limbs E1.out] at c
  refine c.mono ?_
  rintro e w2 ⟨a_a, n_a, c_a, rfl, h_a_2, hb⟩
  clear c
  have B2 := B1.trans (hb.mono B1.size)
  have h_xn_2 := h_xn_1.below hb
  have h_xd_2 := h_xd_1.below hb
  have h_yn_2 := h_yn_1.below hb
  have h_yd_2 := h_yd_1.below hb
  have h_x_2 := h_x_1.later hb
  have h_y_2 := h_y_1.later hb
  have h_r_2 := h_r_1.later hb
  clear hb B1 h_xn_1 h_xd_1 h_yn_1 h_yd_1 h_x_1 h_y_1 h_r_1
  have k_x_2 := h_x_2.cell 2 _ rfl
  have k_y_1 := h_y_2.cell 1 _ rfl
  go_wp2_with fail
  clear k_x_2 k_y_1
  have c := refMul_any w2 h_xd_2 h_yn_2
  rw [mul_limbs l2 l3] at c
  rw [fit_limbs E2.out] at c
  refine c.mono ?_
  rintro e w3 ⟨a_b, n_b, c_b, rfl, h_b_3, hb⟩
  clear c
  have B3 := B2.trans (hb.mono B2.size)
  have h_xn_3 := h_xn_2.below hb
  have h_xd_3 := h_xd_2.below hb
  have h_yn_3 := h_yn_2.below hb
  have h_yd_3 := h_yd_2.below hb
  have h_x_3 := h_x_2.later hb
  have h_y_3 := h_y_2.later hb
  have h_r_3 := h_r_2.later hb
  have h_a_3 := h_a_2.below hb
  clear hb B2 h_xn_2 h_xd_2 h_yn_2 h_yd_2 h_x_2 h_y_2 h_r_2 h_a_2
  have k_x_0 := h_x_3.cell 0 _ rfl
  have k_y_0 := h_y_3.cell 0 _ rfl
  go_wp2_with fail
  clear k_x_0 k_y_0
  have c := refLowest_any w3 (g1 != g2) h_a_3 h_b_3 E1.out E2.out hz.out
  rw [HV.out] at c
  refine c.mono ?_
  rintro e w4 ⟨a_l, n_l, c_l, b_l, m_l, d_l, rfl, h_ln_4, h_ld_4, hb⟩
  clear c
  have B4 := B3.trans (hb.mono B3.size)
  have h_xn_4 := h_xn_3.below hb
  have h_xd_4 := h_xd_3.below hb
  have h_yn_4 := h_yn_3.below hb
  have h_yd_4 := h_yd_3.below hb
  have h_x_4 := h_x_3.later hb
  have h_y_4 := h_y_3.later hb
  have h_r_4 := h_r_3.later hb
  have h_a_4 := h_a_3.below hb
  have h_b_4 := h_b_3.below hb
  clear hb B3 h_xn_3 h_xd_3 h_yn_3 h_yd_3 h_x_3 h_y_3 h_r_3 h_a_3 h_b_3
  have row := h_r_4.row
  have HB := Lib.hid (fun cs => below_row h_r_4.below h_r_4.lo cs)
  have fin := Lib.hid (fun cs => (⟨rd_rowset h_ln_4 row (rat_noint _ _ _ _ _ _ _) cs, rd_rowset h_ld_4 row (rat_noint _ _ _ _ _ _ _) cs⟩ : _ ∧ _))
  go_wp2_with first | refine wpList_store_whole rfl 24 _ _ rfl atRat _ _ _ row rfl rfl rfl rfl (rat_one _ _ _ _ _ _ _) ?_
  refine bodyPost_ret (results_cell_two rfl _ _ _ _ _ _ _ rfl (setRow_heap _ _ _ _ _ _ row) Tryz.underlying24 rfl (by kernel_rfl) _ rfl) rfl ?_
  refine ⟨a_l, n_l, c_l, b_l, m_l, d_l, by rw [hres.out]; (try rfl), ?_, ?_, HB.out _⟩
  · rw [hres.out]; exact (fin.out _).1
  · rw [hres.out]; exact (fin.out _).2

end Go.Proofs.YtdaajeklnhbhjaaGreatDoor
