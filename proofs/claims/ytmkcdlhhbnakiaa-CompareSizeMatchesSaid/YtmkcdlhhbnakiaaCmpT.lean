/- The walk of CompareExamples: it returns true and turns nothing that was there. No condition. Printed by gen_cmpt.py. -/
import Derived.Test.YtmkcdlhhbnakiaaCmpV
import Derived.Test.YtmkcdlhhbnakiaaCmpS
import Derived.Test.YtmkcdlhhbnakiaaCmpO
import Derived.Test.YtmkcdlhhbnakiaaCmpH
import Derived.Test.YtmkcdlhhbnakiaaCmpK
namespace Go.Proofs.Ytmkcdlhhbnakiaa
open Go.RowKit Go.Suf
set_option linter.unusedVariables false
set_option linter.unusedSimpArgs false

theorem rdI_lone (w : World) (x : Int) (h : wide64 x) : RdI (w.alloc (.cells #[.int .i64 x] 3)) (some ⟨w.heap.size, 0, none⟩) 1 1 [x] := by
  refine ⟨rfl, ⟨by simp [intsV], by decide, fun e => by simp at e, fun i v hv => ⟨w.heap.size, 0, rfl, ?_⟩, intsV_one _⟩, fun y hy => by simp at hy; subst hy; exact h⟩
  rcases i with _ | i
  · simp [intsV] at hv
    subst hv
    exact rat_cell w _ _ 0 _ rfl
  · simp [intsV] at hv

theorem refSame_b (w : World) {a b : Option Addr} {n m cap cap' : Nat} {xs ys : List Nat} (h : Rd .u32 w a n cap xs) (h' : Rd .u32 w b m cap' ys) :
    Calls Try.prog 18 #[.slice a n cap, .slice b m cap'] w (RetBB w (sameN xs ys)) := by
  refine (refSame_any w h h').mono ?_
  rintro e w1 ⟨rfl, nq, rfl⟩
  exact ⟨rfl, below_drewN (Below.refl _ _) nq⟩

theorem VldC.cw {q : CV} {L B : Nat} (v : VldC q L B) : CW q := by
  have s0 := v.s0
  have s1 := v.s1
  have s2 := v.s2
  have s3 := v.s3
  have s4 := v.s4
  have b := v.may
  unfold inS at s0 s1 s2 s3 s4
  obtain ⟨⟨b1, b2⟩, ⟨n1, n2⟩, m1, m2⟩ := b
  exact ⟨by unfold wide64; omega, by unfold wide64; omega, by unfold wide64; omega, by unfold wide64; omega, by unfold wide64; omega, by unfold wide64; omega, by unfold wide64; omega, by unfold wide64; omega⟩

structure ExC (q0 qa qb qd : CV) (rq : QV) (s : Int) (levA levB levD : Nat) : Prop where
  new : newCC 500 10 4 = (q0, 0)
  w0 : CW q0
  wa : CW qa
  oa : obsCC q0 [0] = (qa, 0)
  ob : obsCC q0 [2] = (qb, 0)
  od : obsCC q0 [-2] = (qd, 0)
  o3 : obsCC q0 [3] = (zeroCV, 2)
  l0 : q0.lev = limbs oneN
  la : qa.lev = limbs levA
  lb : qb.lev = limbs levB
  bb : qb.best = limbs oneN
  ld : qd.lev = limbs levD
  ta : timesN oneN 11 10 = levA
  tb : timesN oneN 3 5 = levB
  td : timesN oneN 8 5 = levD
  sa : qa.s0 = 0 ∧ qa.s1 = 0 ∧ qa.s2 = 1 ∧ qa.s3 = 0 ∧ qa.s4 = 0
  sb : qb.s0 = 0 ∧ qb.s1 = 0 ∧ qb.s2 = 0 ∧ qb.s3 = 0 ∧ qb.s4 = 1
  risk : riskCC qa = (rq, 0)
  cmp : cmpV rq (ofC 1 1).1 = (s, 0)
  neg : s < 0
  same : sameCV q0 q0 = true
  diff : sameCV qa qb = false

theorem ex_parts : ∃ q0 qa qb qd rq s levA levB levD, ExC q0 qa qb qd rq s levA levB levD := by
  obtain ⟨s, h1, h2, h3⟩ := ex_risk
  obtain ⟨_, _, va⟩ := ex_vld 0 (by decide) (by decide)
  exact ⟨cN 500 10 4 0, stepC (cN 500 10 4 0) 0, stepC (cN 500 10 4 0) 2, stepC (cN 500 10 4 0) (-2), _, s, _, _, _, ex_new, (cN_vld ex_may (by decide)).cw, va.cw, ex_obs 0 (by decide) (by decide), ex_obs 2 (by decide) (by decide), ex_obs (-2) (by decide) (by decide), ex_obs3,
    ex_levC, ex_levA, ex_levB, ex_bestB, ex_levD, rfl, rfl, rfl, ⟨rfl, rfl, rfl, rfl, rfl⟩, ⟨rfl, rfl, rfl, rfl, rfl⟩, h2, h3, h1, ex_same, ex_diff⟩

theorem zeroCV_cw : CW zeroCV := ⟨by show wide64 0; unfold wide64; omega, by show wide64 0; unfold wide64; omega, by show wide64 0; unfold wide64; omega, by show wide64 0; unfold wide64; omega, by show wide64 0; unfold wide64; omega, by show wide64 0; unfold wide64; omega, by show wide64 0; unfold wide64; omega, by show wide64 0; unfold wide64; omega⟩

set_option maxRecDepth 100000 in
set_option maxHeartbeats 8000000 in
theorem examples_any (w : World) : Calls Try.prog 3 #[] w (RetBB w true) := by
  obtain ⟨q0, qa, qb, qd, rq, s, levA, levB, levD, EX'⟩ := ex_parts
  have EX := Lib.hid EX'
  clear EX'
  have dn : decide (s < 0) = true := decide_eq_true EX.out.neg
  go_enter Try.func3, Try.ntmps3
  have B0 : Below w.heap.size w w := Below.refl _ _
  go_wp2_with fail
  have c := cmNew_any w 500 10 4
  rw [EX.out.new] at c
  refine c.mono ?_
  rintro e w1 ⟨a_c, n_c, c_c, b_c, m_c, d_c, rfl, h_cl_1, h_cb_1, hb⟩
  clear c
  have B1 := B0.trans (hb.mono B0.size)
  clear hb B0
  have hb := below_al w1 (.cells (cmC q0 a_c n_c c_c b_c m_c d_c) 25)
  have B2 := B1.trans (hb.mono B1.size)
  have h_cl_2 := h_cl_1.below hb
  have h_cb_2 := h_cb_1.below hb
  clear hb B1 h_cl_1 h_cb_1
  have h_c_2 := Has.new w1 (cmC q0 a_c n_c c_c b_c m_c d_c) 25
  have k_c_0 := h_c_2.cell 0 _ rfl
  have k_c_1 := h_c_2.cell 1 _ rfl
  have k_c_2 := h_c_2.cell 2 _ rfl
  have k_c_3 := h_c_2.cell 3 _ rfl
  have k_c_4 := h_c_2.cell 4 _ rfl
  have k_c_5 := h_c_2.cell 5 _ rfl
  have k_c_6 := h_c_2.cell 6 _ rfl
  have k_c_7 := h_c_2.cell 7 _ rfl
  have k_c_8 := h_c_2.cell 8 _ rfl
  have k_c_9 := h_c_2.cell 9 _ rfl
  have hb := below_al (w1.alloc (.cells (cmC q0 a_c n_c c_c b_c m_c d_c) 25)) (.cells #[.int .i64 0] 3)
  have B3 := B2.trans (hb.mono B2.size)
  have h_cl_3 := h_cl_2.below hb
  have h_cb_3 := h_cb_2.below hb
  have h_c_3 := h_c_2.later hb
  clear hb B2 h_cl_2 h_cb_2 h_c_2
  have h_li_3 := rdI_lone (w1.alloc (.cells (cmC q0 a_c n_c c_c b_c m_c d_c) 25)) 0 (by unfold wide64; decide)
  simp only [World.size_alloc] at h_li_3
  go_wp2_with first | refine wpList_store_new rfl 25 _ _ rfl atCmp _ _ _ rfl rfl rfl rfl (cm_one q0 _ _ _ _ _ _) ?_
  clear k_c_0 k_c_1 k_c_2 k_c_3 k_c_4 k_c_5 k_c_6 k_c_7 k_c_8 k_c_9
  generalize ((w1.alloc (.cells (cmC q0 a_c n_c c_c b_c m_c d_c) 25)).alloc (.cells #[.int .i64 0] 3)) = w3 at *
  have c := cmObserve_any w3 h_cl_3 h_cb_3 EX.out.w0 h_li_3
  rw [EX.out.oa] at c
  refine c.mono ?_
  rintro e w4 ⟨a_a, n_a, c_a, b_a, m_a, d_a, rfl, h_al_4, h_ab_4, hb⟩
  clear c
  have B4 := B3.trans (hb.mono B3.size)
  have h_cl_4 := h_cl_3.below hb
  have h_cb_4 := h_cb_3.below hb
  have h_c_4 := h_c_3.later hb
  clear hb B3 h_cl_3 h_cb_3 h_c_3 h_li_3
  have hb := below_al w4 (.cells (cmC qa a_a n_a c_a b_a m_a d_a) 25)
  have B5 := B4.trans (hb.mono B4.size)
  have h_cl_5 := h_cl_4.below hb
  have h_cb_5 := h_cb_4.below hb
  have h_c_5 := h_c_4.later hb
  have h_al_5 := h_al_4.below hb
  have h_ab_5 := h_ab_4.below hb
  clear hb B4 h_cl_4 h_cb_4 h_c_4 h_al_4 h_ab_4
  have h_a_5 := Has.new w4 (cmC qa a_a n_a c_a b_a m_a d_a) 25
  have k_c_0 := h_c_5.cell 0 _ rfl
  have k_c_1 := h_c_5.cell 1 _ rfl
  have k_c_2 := h_c_5.cell 2 _ rfl
  have k_c_3 := h_c_5.cell 3 _ rfl
  have k_c_4 := h_c_5.cell 4 _ rfl
  have k_c_5 := h_c_5.cell 5 _ rfl
  have k_c_6 := h_c_5.cell 6 _ rfl
  have k_c_7 := h_c_5.cell 7 _ rfl
  have k_c_8 := h_c_5.cell 8 _ rfl
  have k_c_9 := h_c_5.cell 9 _ rfl
  have hb := below_al (w4.alloc (.cells (cmC qa a_a n_a c_a b_a m_a d_a) 25)) (.cells #[.int .i64 2] 3)
  have B6 := B5.trans (hb.mono B5.size)
  have h_cl_6 := h_cl_5.below hb
  have h_cb_6 := h_cb_5.below hb
  have h_c_6 := h_c_5.later hb
  have h_al_6 := h_al_5.below hb
  have h_ab_6 := h_ab_5.below hb
  have h_a_6 := h_a_5.later hb
  clear hb B5 h_cl_5 h_cb_5 h_c_5 h_al_5 h_ab_5 h_a_5
  have h_li_6 := rdI_lone (w4.alloc (.cells (cmC qa a_a n_a c_a b_a m_a d_a) 25)) 2 (by unfold wide64; decide)
  simp only [World.size_alloc] at h_li_6
  go_wp2_with first | refine wpList_store_new rfl 25 _ _ rfl atCmp _ _ _ rfl rfl rfl rfl (cm_one qa _ _ _ _ _ _) ?_
  clear k_c_0 k_c_1 k_c_2 k_c_3 k_c_4 k_c_5 k_c_6 k_c_7 k_c_8 k_c_9
  generalize ((w4.alloc (.cells (cmC qa a_a n_a c_a b_a m_a d_a) 25)).alloc (.cells #[.int .i64 2] 3)) = w6 at *
  have c := cmObserve_any w6 h_cl_6 h_cb_6 EX.out.w0 h_li_6
  rw [EX.out.ob] at c
  refine c.mono ?_
  rintro e w7 ⟨a_b, n_b, c_b, b_b, m_b, d_b, rfl, h_bl_7, h_bb_7, hb⟩
  clear c
  have B7 := B6.trans (hb.mono B6.size)
  have h_cl_7 := h_cl_6.below hb
  have h_cb_7 := h_cb_6.below hb
  have h_c_7 := h_c_6.later hb
  have h_al_7 := h_al_6.below hb
  have h_ab_7 := h_ab_6.below hb
  have h_a_7 := h_a_6.later hb
  clear hb B6 h_cl_6 h_cb_6 h_c_6 h_al_6 h_ab_6 h_a_6 h_li_6
  have hb := below_al w7 (.cells (cmC qb a_b n_b c_b b_b m_b d_b) 25)
  have B8 := B7.trans (hb.mono B7.size)
  have h_cl_8 := h_cl_7.below hb
  have h_cb_8 := h_cb_7.below hb
  have h_c_8 := h_c_7.later hb
  have h_al_8 := h_al_7.below hb
  have h_ab_8 := h_ab_7.below hb
  have h_a_8 := h_a_7.later hb
  have h_bl_8 := h_bl_7.below hb
  have h_bb_8 := h_bb_7.below hb
  clear hb B7 h_cl_7 h_cb_7 h_c_7 h_al_7 h_ab_7 h_a_7 h_bl_7 h_bb_7
  have h_b_8 := Has.new w7 (cmC qb a_b n_b c_b b_b m_b d_b) 25
  have k_c_0 := h_c_8.cell 0 _ rfl
  have k_c_1 := h_c_8.cell 1 _ rfl
  have k_c_2 := h_c_8.cell 2 _ rfl
  have k_c_3 := h_c_8.cell 3 _ rfl
  have k_c_4 := h_c_8.cell 4 _ rfl
  have k_c_5 := h_c_8.cell 5 _ rfl
  have k_c_6 := h_c_8.cell 6 _ rfl
  have k_c_7 := h_c_8.cell 7 _ rfl
  have k_c_8 := h_c_8.cell 8 _ rfl
  have k_c_9 := h_c_8.cell 9 _ rfl
  have hb := below_al (w7.alloc (.cells (cmC qb a_b n_b c_b b_b m_b d_b) 25)) (.cells #[.int .i64 (-2)] 3)
  have B9 := B8.trans (hb.mono B8.size)
  have h_cl_9 := h_cl_8.below hb
  have h_cb_9 := h_cb_8.below hb
  have h_c_9 := h_c_8.later hb
  have h_al_9 := h_al_8.below hb
  have h_ab_9 := h_ab_8.below hb
  have h_a_9 := h_a_8.later hb
  have h_bl_9 := h_bl_8.below hb
  have h_bb_9 := h_bb_8.below hb
  have h_b_9 := h_b_8.later hb
  clear hb B8 h_cl_8 h_cb_8 h_c_8 h_al_8 h_ab_8 h_a_8 h_bl_8 h_bb_8 h_b_8
  have h_li_9 := rdI_lone (w7.alloc (.cells (cmC qb a_b n_b c_b b_b m_b d_b) 25)) (-2) (by unfold wide64; decide)
  simp only [World.size_alloc] at h_li_9
  go_wp2_with first | refine wpList_store_new rfl 25 _ _ rfl atCmp _ _ _ rfl rfl rfl rfl (cm_one qb _ _ _ _ _ _) ?_
  clear k_c_0 k_c_1 k_c_2 k_c_3 k_c_4 k_c_5 k_c_6 k_c_7 k_c_8 k_c_9
  generalize ((w7.alloc (.cells (cmC qb a_b n_b c_b b_b m_b d_b) 25)).alloc (.cells #[.int .i64 (-2)] 3)) = w9 at *
  have c := cmObserve_any w9 h_cl_9 h_cb_9 EX.out.w0 h_li_9
  rw [EX.out.od] at c
  refine c.mono ?_
  rintro e w10 ⟨a_d, n_d, c_d, b_d, m_d, d_d, rfl, h_dl_10, h_db_10, hb⟩
  clear c
  have B10 := B9.trans (hb.mono B9.size)
  have h_cl_10 := h_cl_9.below hb
  have h_cb_10 := h_cb_9.below hb
  have h_c_10 := h_c_9.later hb
  have h_al_10 := h_al_9.below hb
  have h_ab_10 := h_ab_9.below hb
  have h_a_10 := h_a_9.later hb
  have h_bl_10 := h_bl_9.below hb
  have h_bb_10 := h_bb_9.below hb
  have h_b_10 := h_b_9.later hb
  clear hb B9 h_cl_9 h_cb_9 h_c_9 h_al_9 h_ab_9 h_a_9 h_bl_9 h_bb_9 h_b_9 h_li_9
  have hb := below_al w10 (.cells (cmC qd a_d n_d c_d b_d m_d d_d) 25)
  have B11 := B10.trans (hb.mono B10.size)
  have h_cl_11 := h_cl_10.below hb
  have h_cb_11 := h_cb_10.below hb
  have h_c_11 := h_c_10.later hb
  have h_al_11 := h_al_10.below hb
  have h_ab_11 := h_ab_10.below hb
  have h_a_11 := h_a_10.later hb
  have h_bl_11 := h_bl_10.below hb
  have h_bb_11 := h_bb_10.below hb
  have h_b_11 := h_b_10.later hb
  have h_dl_11 := h_dl_10.below hb
  have h_db_11 := h_db_10.below hb
  clear hb B10 h_cl_10 h_cb_10 h_c_10 h_al_10 h_ab_10 h_a_10 h_bl_10 h_bb_10 h_b_10 h_dl_10 h_db_10
  have h_d_11 := Has.new w10 (cmC qd a_d n_d c_d b_d m_d d_d) 25
  go_wp2_with first | refine wpList_store_new rfl 25 _ _ rfl atCmp _ _ _ rfl rfl rfl rfl (cm_one qd _ _ _ _ _ _) ?_
  generalize (w10.alloc (.cells (cmC qd a_d n_d c_d b_d m_d d_d) 25)) = w11 at *
  have c := cmNew_any w11 500 10 0
  rw [ex_new0] at c
  refine c.mono ?_
  rintro e w12 ⟨a_z1, n_z1, c_z1, b_z1, m_z1, d_z1, rfl, h_z1l_12, h_z1b_12, hb⟩
  clear c
  have B12 := B11.trans (hb.mono B11.size)
  have h_cl_12 := h_cl_11.below hb
  have h_cb_12 := h_cb_11.below hb
  have h_c_12 := h_c_11.later hb
  have h_al_12 := h_al_11.below hb
  have h_ab_12 := h_ab_11.below hb
  have h_a_12 := h_a_11.later hb
  have h_bl_12 := h_bl_11.below hb
  have h_bb_12 := h_bb_11.below hb
  have h_b_12 := h_b_11.later hb
  have h_dl_12 := h_dl_11.below hb
  have h_db_12 := h_db_11.below hb
  have h_d_12 := h_d_11.later hb
  clear hb B11 h_cl_11 h_cb_11 h_c_11 h_al_11 h_ab_11 h_a_11 h_bl_11 h_bb_11 h_b_11 h_dl_11 h_db_11 h_d_11
  have hb := below_al w12 (.cells (cmC zeroCV a_z1 n_z1 c_z1 b_z1 m_z1 d_z1) 25)
  have B13 := B12.trans (hb.mono B12.size)
  have h_cl_13 := h_cl_12.below hb
  have h_cb_13 := h_cb_12.below hb
  have h_c_13 := h_c_12.later hb
  have h_al_13 := h_al_12.below hb
  have h_ab_13 := h_ab_12.below hb
  have h_a_13 := h_a_12.later hb
  have h_bl_13 := h_bl_12.below hb
  have h_bb_13 := h_bb_12.below hb
  have h_b_13 := h_b_12.later hb
  have h_dl_13 := h_dl_12.below hb
  have h_db_13 := h_db_12.below hb
  have h_d_13 := h_d_12.later hb
  have h_z1l_13 := h_z1l_12.below hb
  have h_z1b_13 := h_z1b_12.below hb
  clear hb B12 h_cl_12 h_cb_12 h_c_12 h_al_12 h_ab_12 h_a_12 h_bl_12 h_bb_12 h_b_12 h_dl_12 h_db_12 h_d_12 h_z1l_12 h_z1b_12
  have h_z1_13 := Has.new w12 (cmC zeroCV a_z1 n_z1 c_z1 b_z1 m_z1 d_z1) 25
  go_wp2_with first | refine wpList_store_new rfl 25 _ _ rfl atCmp _ _ _ rfl rfl rfl rfl (cm_one zeroCV _ _ _ _ _ _) ?_
  generalize (w12.alloc (.cells (cmC zeroCV a_z1 n_z1 c_z1 b_z1 m_z1 d_z1) 25)) = w13 at *
  have c := cmNew_any w13 500 10 11
  rw [ex_new11] at c
  refine c.mono ?_
  rintro e w14 ⟨a_z2, n_z2, c_z2, b_z2, m_z2, d_z2, rfl, h_z2l_14, h_z2b_14, hb⟩
  clear c
  have B14 := B13.trans (hb.mono B13.size)
  have h_cl_14 := h_cl_13.below hb
  have h_cb_14 := h_cb_13.below hb
  have h_c_14 := h_c_13.later hb
  have h_al_14 := h_al_13.below hb
  have h_ab_14 := h_ab_13.below hb
  have h_a_14 := h_a_13.later hb
  have h_bl_14 := h_bl_13.below hb
  have h_bb_14 := h_bb_13.below hb
  have h_b_14 := h_b_13.later hb
  have h_dl_14 := h_dl_13.below hb
  have h_db_14 := h_db_13.below hb
  have h_d_14 := h_d_13.later hb
  have h_z1l_14 := h_z1l_13.below hb
  have h_z1b_14 := h_z1b_13.below hb
  have h_z1_14 := h_z1_13.later hb
  clear hb B13 h_cl_13 h_cb_13 h_c_13 h_al_13 h_ab_13 h_a_13 h_bl_13 h_bb_13 h_b_13 h_dl_13 h_db_13 h_d_13 h_z1l_13 h_z1b_13 h_z1_13
  have hb := below_al w14 (.cells (cmC zeroCV a_z2 n_z2 c_z2 b_z2 m_z2 d_z2) 25)
  have B15 := B14.trans (hb.mono B14.size)
  have h_cl_15 := h_cl_14.below hb
  have h_cb_15 := h_cb_14.below hb
  have h_c_15 := h_c_14.later hb
  have h_al_15 := h_al_14.below hb
  have h_ab_15 := h_ab_14.below hb
  have h_a_15 := h_a_14.later hb
  have h_bl_15 := h_bl_14.below hb
  have h_bb_15 := h_bb_14.below hb
  have h_b_15 := h_b_14.later hb
  have h_dl_15 := h_dl_14.below hb
  have h_db_15 := h_db_14.below hb
  have h_d_15 := h_d_14.later hb
  have h_z1l_15 := h_z1l_14.below hb
  have h_z1b_15 := h_z1b_14.below hb
  have h_z1_15 := h_z1_14.later hb
  have h_z2l_15 := h_z2l_14.below hb
  have h_z2b_15 := h_z2b_14.below hb
  clear hb B14 h_cl_14 h_cb_14 h_c_14 h_al_14 h_ab_14 h_a_14 h_bl_14 h_bb_14 h_b_14 h_dl_14 h_db_14 h_d_14 h_z1l_14 h_z1b_14 h_z1_14 h_z2l_14 h_z2b_14
  have h_z2_15 := Has.new w14 (cmC zeroCV a_z2 n_z2 c_z2 b_z2 m_z2 d_z2) 25
  have k_c_0 := h_c_15.cell 0 _ rfl
  have k_c_1 := h_c_15.cell 1 _ rfl
  have k_c_2 := h_c_15.cell 2 _ rfl
  have k_c_3 := h_c_15.cell 3 _ rfl
  have k_c_4 := h_c_15.cell 4 _ rfl
  have k_c_5 := h_c_15.cell 5 _ rfl
  have k_c_6 := h_c_15.cell 6 _ rfl
  have k_c_7 := h_c_15.cell 7 _ rfl
  have k_c_8 := h_c_15.cell 8 _ rfl
  have k_c_9 := h_c_15.cell 9 _ rfl
  have hb := below_al (w14.alloc (.cells (cmC zeroCV a_z2 n_z2 c_z2 b_z2 m_z2 d_z2) 25)) (.cells #[.int .i64 3] 3)
  have B16 := B15.trans (hb.mono B15.size)
  have h_cl_16 := h_cl_15.below hb
  have h_cb_16 := h_cb_15.below hb
  have h_c_16 := h_c_15.later hb
  have h_al_16 := h_al_15.below hb
  have h_ab_16 := h_ab_15.below hb
  have h_a_16 := h_a_15.later hb
  have h_bl_16 := h_bl_15.below hb
  have h_bb_16 := h_bb_15.below hb
  have h_b_16 := h_b_15.later hb
  have h_dl_16 := h_dl_15.below hb
  have h_db_16 := h_db_15.below hb
  have h_d_16 := h_d_15.later hb
  have h_z1l_16 := h_z1l_15.below hb
  have h_z1b_16 := h_z1b_15.below hb
  have h_z1_16 := h_z1_15.later hb
  have h_z2l_16 := h_z2l_15.below hb
  have h_z2b_16 := h_z2b_15.below hb
  have h_z2_16 := h_z2_15.later hb
  clear hb B15 h_cl_15 h_cb_15 h_c_15 h_al_15 h_ab_15 h_a_15 h_bl_15 h_bb_15 h_b_15 h_dl_15 h_db_15 h_d_15 h_z1l_15 h_z1b_15 h_z1_15 h_z2l_15 h_z2b_15 h_z2_15
  have h_li_16 := rdI_lone (w14.alloc (.cells (cmC zeroCV a_z2 n_z2 c_z2 b_z2 m_z2 d_z2) 25)) 3 (by unfold wide64; decide)
  simp only [World.size_alloc] at h_li_16
  go_wp2_with first | refine wpList_store_new rfl 25 _ _ rfl atCmp _ _ _ rfl rfl rfl rfl (cm_one zeroCV _ _ _ _ _ _) ?_
  clear k_c_0 k_c_1 k_c_2 k_c_3 k_c_4 k_c_5 k_c_6 k_c_7 k_c_8 k_c_9
  generalize ((w14.alloc (.cells (cmC zeroCV a_z2 n_z2 c_z2 b_z2 m_z2 d_z2) 25)).alloc (.cells #[.int .i64 3] 3)) = w16 at *
  have c := cmObserve_any w16 h_cl_16 h_cb_16 EX.out.w0 h_li_16
  rw [EX.out.o3] at c
  refine c.mono ?_
  rintro e w17 ⟨a_z3, n_z3, c_z3, b_z3, m_z3, d_z3, rfl, h_z3l_17, h_z3b_17, hb⟩
  clear c
  have B17 := B16.trans (hb.mono B16.size)
  have h_cl_17 := h_cl_16.below hb
  have h_cb_17 := h_cb_16.below hb
  have h_c_17 := h_c_16.later hb
  have h_al_17 := h_al_16.below hb
  have h_ab_17 := h_ab_16.below hb
  have h_a_17 := h_a_16.later hb
  have h_bl_17 := h_bl_16.below hb
  have h_bb_17 := h_bb_16.below hb
  have h_b_17 := h_b_16.later hb
  have h_dl_17 := h_dl_16.below hb
  have h_db_17 := h_db_16.below hb
  have h_d_17 := h_d_16.later hb
  have h_z1l_17 := h_z1l_16.below hb
  have h_z1b_17 := h_z1b_16.below hb
  have h_z1_17 := h_z1_16.later hb
  have h_z2l_17 := h_z2l_16.below hb
  have h_z2b_17 := h_z2b_16.below hb
  have h_z2_17 := h_z2_16.later hb
  clear hb B16 h_cl_16 h_cb_16 h_c_16 h_al_16 h_ab_16 h_a_16 h_bl_16 h_bb_16 h_b_16 h_dl_16 h_db_16 h_d_16 h_z1l_16 h_z1b_16 h_z1_16 h_z2l_16 h_z2b_16 h_z2_16 h_li_16
  have hb := below_al w17 (.cells (cmC zeroCV a_z3 n_z3 c_z3 b_z3 m_z3 d_z3) 25)
  have B18 := B17.trans (hb.mono B17.size)
  have h_cl_18 := h_cl_17.below hb
  have h_cb_18 := h_cb_17.below hb
  have h_c_18 := h_c_17.later hb
  have h_al_18 := h_al_17.below hb
  have h_ab_18 := h_ab_17.below hb
  have h_a_18 := h_a_17.later hb
  have h_bl_18 := h_bl_17.below hb
  have h_bb_18 := h_bb_17.below hb
  have h_b_18 := h_b_17.later hb
  have h_dl_18 := h_dl_17.below hb
  have h_db_18 := h_db_17.below hb
  have h_d_18 := h_d_17.later hb
  have h_z1l_18 := h_z1l_17.below hb
  have h_z1b_18 := h_z1b_17.below hb
  have h_z1_18 := h_z1_17.later hb
  have h_z2l_18 := h_z2l_17.below hb
  have h_z2b_18 := h_z2b_17.below hb
  have h_z2_18 := h_z2_17.later hb
  have h_z3l_18 := h_z3l_17.below hb
  have h_z3b_18 := h_z3b_17.below hb
  clear hb B17 h_cl_17 h_cb_17 h_c_17 h_al_17 h_ab_17 h_a_17 h_bl_17 h_bb_17 h_b_17 h_dl_17 h_db_17 h_d_17 h_z1l_17 h_z1b_17 h_z1_17 h_z2l_17 h_z2b_17 h_z2_17 h_z3l_17 h_z3b_17
  have h_z3_18 := Has.new w17 (cmC zeroCV a_z3 n_z3 c_z3 b_z3 m_z3 d_z3) 25
  go_wp2_with first | refine wpList_store_new rfl 25 _ _ rfl atCmp _ _ _ rfl rfl rfl rfl (cm_one zeroCV _ _ _ _ _ _) ?_
  generalize (w17.alloc (.cells (cmC zeroCV a_z3 n_z3 c_z3 b_z3 m_z3 d_z3) 25)) = w18 at *
  have c := over_any w18 2 0
  rw [ex_over1] at c
  refine c.mono ?_
  rintro e w19 ⟨rfl, hb⟩
  clear c
  have B19 := B18.trans (hb.mono B18.size)
  have h_cl_19 := h_cl_18.below hb
  have h_cb_19 := h_cb_18.below hb
  have h_c_19 := h_c_18.later hb
  have h_al_19 := h_al_18.below hb
  have h_ab_19 := h_ab_18.below hb
  have h_a_19 := h_a_18.later hb
  have h_bl_19 := h_bl_18.below hb
  have h_bb_19 := h_bb_18.below hb
  have h_b_19 := h_b_18.later hb
  have h_dl_19 := h_dl_18.below hb
  have h_db_19 := h_db_18.below hb
  have h_d_19 := h_d_18.later hb
  have h_z1l_19 := h_z1l_18.below hb
  have h_z1b_19 := h_z1b_18.below hb
  have h_z1_19 := h_z1_18.later hb
  have h_z2l_19 := h_z2l_18.below hb
  have h_z2b_19 := h_z2b_18.below hb
  have h_z2_19 := h_z2_18.later hb
  have h_z3l_19 := h_z3l_18.below hb
  have h_z3b_19 := h_z3b_18.below hb
  have h_z3_19 := h_z3_18.later hb
  clear hb B18 h_cl_18 h_cb_18 h_c_18 h_al_18 h_ab_18 h_a_18 h_bl_18 h_bb_18 h_b_18 h_dl_18 h_db_18 h_d_18 h_z1l_18 h_z1b_18 h_z1_18 h_z2l_18 h_z2b_18 h_z2_18 h_z3l_18 h_z3b_18 h_z3_18
  go_wp2_with fail
  have c := over_any w19 0 2
  rw [ex_over2] at c
  refine c.mono ?_
  rintro e w20 ⟨rfl, hb⟩
  clear c
  have B20 := B19.trans (hb.mono B19.size)
  have h_cl_20 := h_cl_19.below hb
  have h_cb_20 := h_cb_19.below hb
  have h_c_20 := h_c_19.later hb
  have h_al_20 := h_al_19.below hb
  have h_ab_20 := h_ab_19.below hb
  have h_a_20 := h_a_19.later hb
  have h_bl_20 := h_bl_19.below hb
  have h_bb_20 := h_bb_19.below hb
  have h_b_20 := h_b_19.later hb
  have h_dl_20 := h_dl_19.below hb
  have h_db_20 := h_db_19.below hb
  have h_d_20 := h_d_19.later hb
  have h_z1l_20 := h_z1l_19.below hb
  have h_z1b_20 := h_z1b_19.below hb
  have h_z1_20 := h_z1_19.later hb
  have h_z2l_20 := h_z2l_19.below hb
  have h_z2b_20 := h_z2b_19.below hb
  have h_z2_20 := h_z2_19.later hb
  have h_z3l_20 := h_z3l_19.below hb
  have h_z3b_20 := h_z3b_19.below hb
  have h_z3_20 := h_z3_19.later hb
  clear hb B19 h_cl_19 h_cb_19 h_c_19 h_al_19 h_ab_19 h_a_19 h_bl_19 h_bb_19 h_b_19 h_dl_19 h_db_19 h_d_19 h_z1l_19 h_z1b_19 h_z1_19 h_z2l_19 h_z2b_19 h_z2_19 h_z3l_19 h_z3b_19 h_z3_19
  go_wp2_with fail
  have c := over_any w20 3 0
  rw [ex_over3] at c
  refine c.mono ?_
  rintro e w21 ⟨rfl, hb⟩
  clear c
  have B21 := B20.trans (hb.mono B20.size)
  have h_cl_21 := h_cl_20.below hb
  have h_cb_21 := h_cb_20.below hb
  have h_c_21 := h_c_20.later hb
  have h_al_21 := h_al_20.below hb
  have h_ab_21 := h_ab_20.below hb
  have h_a_21 := h_a_20.later hb
  have h_bl_21 := h_bl_20.below hb
  have h_bb_21 := h_bb_20.below hb
  have h_b_21 := h_b_20.later hb
  have h_dl_21 := h_dl_20.below hb
  have h_db_21 := h_db_20.below hb
  have h_d_21 := h_d_20.later hb
  have h_z1l_21 := h_z1l_20.below hb
  have h_z1b_21 := h_z1b_20.below hb
  have h_z1_21 := h_z1_20.later hb
  have h_z2l_21 := h_z2l_20.below hb
  have h_z2b_21 := h_z2b_20.below hb
  have h_z2_21 := h_z2_20.later hb
  have h_z3l_21 := h_z3l_20.below hb
  have h_z3b_21 := h_z3b_20.below hb
  have h_z3_21 := h_z3_20.later hb
  clear hb B20 h_cl_20 h_cb_20 h_c_20 h_al_20 h_ab_20 h_a_20 h_bl_20 h_bb_20 h_b_20 h_dl_20 h_db_20 h_d_20 h_z1l_20 h_z1b_20 h_z1_20 h_z2l_20 h_z2b_20 h_z2_20 h_z3l_20 h_z3b_20 h_z3_20
  go_wp2_with fail
  have c := cmPart_any w21 9 10 (by decide) (by decide) (by decide) (by decide)
  refine c.mono ?_
  rintro e w22 ⟨a_x, n_x, c_x, b_x, m_x, d_x, rfl, h_xn_22, h_xd_22, hb⟩
  clear c
  have B22 := B21.trans (hb.mono B21.size)
  have h_cl_22 := h_cl_21.below hb
  have h_cb_22 := h_cb_21.below hb
  have h_c_22 := h_c_21.later hb
  have h_al_22 := h_al_21.below hb
  have h_ab_22 := h_ab_21.below hb
  have h_a_22 := h_a_21.later hb
  have h_bl_22 := h_bl_21.below hb
  have h_bb_22 := h_bb_21.below hb
  have h_b_22 := h_b_21.later hb
  have h_dl_22 := h_dl_21.below hb
  have h_db_22 := h_db_21.below hb
  have h_d_22 := h_d_21.later hb
  have h_z1l_22 := h_z1l_21.below hb
  have h_z1b_22 := h_z1b_21.below hb
  have h_z1_22 := h_z1_21.later hb
  have h_z2l_22 := h_z2l_21.below hb
  have h_z2b_22 := h_z2b_21.below hb
  have h_z2_22 := h_z2_21.later hb
  have h_z3l_22 := h_z3l_21.below hb
  have h_z3b_22 := h_z3b_21.below hb
  have h_z3_22 := h_z3_21.later hb
  clear hb B21 h_cl_21 h_cb_21 h_c_21 h_al_21 h_ab_21 h_a_21 h_bl_21 h_bb_21 h_b_21 h_dl_21 h_db_21 h_d_21 h_z1l_21 h_z1b_21 h_z1_21 h_z2l_21 h_z2b_21 h_z2_21 h_z3l_21 h_z3b_21 h_z3_21
  go_wp2_with fail
  have c := cmSampleSize_any w22 500 10 4 (g := (ofC 9 10).1.neg) h_xn_22 h_xd_22
  rw [show (⟨(ofC 9 10).1.neg, (ofC 9 10).1.num, (ofC 9 10).1.den⟩ : QV) = (ofC 9 10).1 from rfl] at c
  rw [ex_size] at c
  refine c.mono ?_
  rintro e w23 ⟨rfl, hb⟩
  clear c
  have B23 := B22.trans (hb.mono B22.size)
  have h_cl_23 := h_cl_22.below hb
  have h_cb_23 := h_cb_22.below hb
  have h_c_23 := h_c_22.later hb
  have h_al_23 := h_al_22.below hb
  have h_ab_23 := h_ab_22.below hb
  have h_a_23 := h_a_22.later hb
  have h_bl_23 := h_bl_22.below hb
  have h_bb_23 := h_bb_22.below hb
  have h_b_23 := h_b_22.later hb
  have h_dl_23 := h_dl_22.below hb
  have h_db_23 := h_db_22.below hb
  have h_d_23 := h_d_22.later hb
  have h_z1l_23 := h_z1l_22.below hb
  have h_z1b_23 := h_z1b_22.below hb
  have h_z1_23 := h_z1_22.later hb
  have h_z2l_23 := h_z2l_22.below hb
  have h_z2b_23 := h_z2b_22.below hb
  have h_z2_23 := h_z2_22.later hb
  have h_z3l_23 := h_z3l_22.below hb
  have h_z3b_23 := h_z3b_22.below hb
  have h_z3_23 := h_z3_22.later hb
  clear hb B22 h_cl_22 h_cb_22 h_c_22 h_al_22 h_ab_22 h_a_22 h_bl_22 h_bb_22 h_b_22 h_dl_22 h_db_22 h_d_22 h_z1l_22 h_z1b_22 h_z1_22 h_z2l_22 h_z2b_22 h_z2_22 h_z3l_22 h_z3b_22 h_z3_22 h_xn_22 h_xd_22
  have k_a_0 := h_a_23.cell 0 _ rfl
  have k_a_1 := h_a_23.cell 1 _ rfl
  have k_a_2 := h_a_23.cell 2 _ rfl
  have k_a_3 := h_a_23.cell 3 _ rfl
  have k_a_4 := h_a_23.cell 4 _ rfl
  have k_a_5 := h_a_23.cell 5 _ rfl
  have k_a_6 := h_a_23.cell 6 _ rfl
  have k_a_7 := h_a_23.cell 7 _ rfl
  have k_a_8 := h_a_23.cell 8 _ rfl
  have k_a_9 := h_a_23.cell 9 _ rfl
  go_wp2_with fail
  clear k_a_0 k_a_1 k_a_2 k_a_3 k_a_4 k_a_5 k_a_6 k_a_7 k_a_8 k_a_9
  have c := cmRisk_any w23 h_al_23 h_ab_23 EX.out.wa
  rw [EX.out.risk] at c
  refine c.mono ?_
  rintro e w24 ⟨a_r, n_r, c_r, b_r, m_r, d_r, rfl, h_rn_24, h_rd_24, hb⟩
  clear c
  have B24 := B23.trans (hb.mono B23.size)
  have h_cl_24 := h_cl_23.below hb
  have h_cb_24 := h_cb_23.below hb
  have h_c_24 := h_c_23.later hb
  have h_al_24 := h_al_23.below hb
  have h_ab_24 := h_ab_23.below hb
  have h_a_24 := h_a_23.later hb
  have h_bl_24 := h_bl_23.below hb
  have h_bb_24 := h_bb_23.below hb
  have h_b_24 := h_b_23.later hb
  have h_dl_24 := h_dl_23.below hb
  have h_db_24 := h_db_23.below hb
  have h_d_24 := h_d_23.later hb
  have h_z1l_24 := h_z1l_23.below hb
  have h_z1b_24 := h_z1b_23.below hb
  have h_z1_24 := h_z1_23.later hb
  have h_z2l_24 := h_z2l_23.below hb
  have h_z2b_24 := h_z2b_23.below hb
  have h_z2_24 := h_z2_23.later hb
  have h_z3l_24 := h_z3l_23.below hb
  have h_z3b_24 := h_z3b_23.below hb
  have h_z3_24 := h_z3_23.later hb
  clear hb B23 h_cl_23 h_cb_23 h_c_23 h_al_23 h_ab_23 h_a_23 h_bl_23 h_bb_23 h_b_23 h_dl_23 h_db_23 h_d_23 h_z1l_23 h_z1b_23 h_z1_23 h_z2l_23 h_z2b_23 h_z2_23 h_z3l_23 h_z3b_23 h_z3_23
  have hb := below_al w24 (.cells #[.bool (rq).neg, .slice a_r n_r c_r, .slice b_r m_r d_r] 34)
  have B25 := B24.trans (hb.mono B24.size)
  have h_cl_25 := h_cl_24.below hb
  have h_cb_25 := h_cb_24.below hb
  have h_c_25 := h_c_24.later hb
  have h_al_25 := h_al_24.below hb
  have h_ab_25 := h_ab_24.below hb
  have h_a_25 := h_a_24.later hb
  have h_bl_25 := h_bl_24.below hb
  have h_bb_25 := h_bb_24.below hb
  have h_b_25 := h_b_24.later hb
  have h_dl_25 := h_dl_24.below hb
  have h_db_25 := h_db_24.below hb
  have h_d_25 := h_d_24.later hb
  have h_z1l_25 := h_z1l_24.below hb
  have h_z1b_25 := h_z1b_24.below hb
  have h_z1_25 := h_z1_24.later hb
  have h_z2l_25 := h_z2l_24.below hb
  have h_z2b_25 := h_z2b_24.below hb
  have h_z2_25 := h_z2_24.later hb
  have h_z3l_25 := h_z3l_24.below hb
  have h_z3b_25 := h_z3b_24.below hb
  have h_z3_25 := h_z3_24.later hb
  have h_rn_25 := h_rn_24.below hb
  have h_rd_25 := h_rd_24.below hb
  clear hb B24 h_cl_24 h_cb_24 h_c_24 h_al_24 h_ab_24 h_a_24 h_bl_24 h_bb_24 h_b_24 h_dl_24 h_db_24 h_d_24 h_z1l_24 h_z1b_24 h_z1_24 h_z2l_24 h_z2b_24 h_z2_24 h_z3l_24 h_z3b_24 h_z3_24 h_rn_24 h_rd_24
  have h_r_25 := Has.new w24 #[.bool (rq).neg, .slice a_r n_r c_r, .slice b_r m_r d_r] 34
  go_wp2_with first | refine wpList_store_new rfl 34 _ _ rfl atRat _ _ _ rfl rfl rfl rfl (rat_one _ _ _ _ _ _ _) ?_
  generalize (w24.alloc (.cells #[.bool (rq).neg, .slice a_r n_r c_r, .slice b_r m_r d_r] 34)) = w25 at *
  have c := refOne_any w25
  rw [← one_limbs] at c
  refine c.mono ?_
  rintro e w26 ⟨a_o, n_o, c_o, rfl, h_o_26, hb⟩
  clear c
  have B26 := B25.trans (hb.mono B25.size)
  have h_cl_26 := h_cl_25.below hb
  have h_cb_26 := h_cb_25.below hb
  have h_c_26 := h_c_25.later hb
  have h_al_26 := h_al_25.below hb
  have h_ab_26 := h_ab_25.below hb
  have h_a_26 := h_a_25.later hb
  have h_bl_26 := h_bl_25.below hb
  have h_bb_26 := h_bb_25.below hb
  have h_b_26 := h_b_25.later hb
  have h_dl_26 := h_dl_25.below hb
  have h_db_26 := h_db_25.below hb
  have h_d_26 := h_d_25.later hb
  have h_z1l_26 := h_z1l_25.below hb
  have h_z1b_26 := h_z1b_25.below hb
  have h_z1_26 := h_z1_25.later hb
  have h_z2l_26 := h_z2l_25.below hb
  have h_z2b_26 := h_z2b_25.below hb
  have h_z2_26 := h_z2_25.later hb
  have h_z3l_26 := h_z3l_25.below hb
  have h_z3b_26 := h_z3b_25.below hb
  have h_z3_26 := h_z3_25.later hb
  have h_rn_26 := h_rn_25.below hb
  have h_rd_26 := h_rd_25.below hb
  have h_r_26 := h_r_25.later hb
  clear hb B25 h_cl_25 h_cb_25 h_c_25 h_al_25 h_ab_25 h_a_25 h_bl_25 h_bb_25 h_b_25 h_dl_25 h_db_25 h_d_25 h_z1l_25 h_z1b_25 h_z1_25 h_z2l_25 h_z2b_25 h_z2_25 h_z3l_25 h_z3b_25 h_z3_25 h_rn_25 h_rd_25 h_r_25
  go_wp2_with fail
  have c := refPolTimes_any w26 h_o_26 (by decide) 11 10 (by decide) (by decide) (by decide)
  rw [EX.out.ta] at c
  refine c.mono ?_
  rintro e w27 ⟨a_l, n_l, c_l, rfl, h_l_27, hb⟩
  clear c
  have B27 := B26.trans (hb.mono B26.size)
  have h_cl_27 := h_cl_26.below hb
  have h_cb_27 := h_cb_26.below hb
  have h_c_27 := h_c_26.later hb
  have h_al_27 := h_al_26.below hb
  have h_ab_27 := h_ab_26.below hb
  have h_a_27 := h_a_26.later hb
  have h_bl_27 := h_bl_26.below hb
  have h_bb_27 := h_bb_26.below hb
  have h_b_27 := h_b_26.later hb
  have h_dl_27 := h_dl_26.below hb
  have h_db_27 := h_db_26.below hb
  have h_d_27 := h_d_26.later hb
  have h_z1l_27 := h_z1l_26.below hb
  have h_z1b_27 := h_z1b_26.below hb
  have h_z1_27 := h_z1_26.later hb
  have h_z2l_27 := h_z2l_26.below hb
  have h_z2b_27 := h_z2b_26.below hb
  have h_z2_27 := h_z2_26.later hb
  have h_z3l_27 := h_z3l_26.below hb
  have h_z3b_27 := h_z3b_26.below hb
  have h_z3_27 := h_z3_26.later hb
  have h_rn_27 := h_rn_26.below hb
  have h_rd_27 := h_rd_26.below hb
  have h_r_27 := h_r_26.later hb
  clear hb B26 h_cl_26 h_cb_26 h_c_26 h_al_26 h_ab_26 h_a_26 h_bl_26 h_bb_26 h_b_26 h_dl_26 h_db_26 h_d_26 h_z1l_26 h_z1b_26 h_z1_26 h_z2l_26 h_z2b_26 h_z2_26 h_z3l_26 h_z3b_26 h_z3_26 h_rn_26 h_rd_26 h_r_26 h_o_26
  go_wp2_with fail
  have hb := (Below.refl w27.heap.size w27).drew
  have B28 := B27.trans (hb.mono B27.size)
  have h_cl_28 := h_cl_27.below hb
  have h_cb_28 := h_cb_27.below hb
  have h_c_28 := h_c_27.later hb
  have h_al_28 := h_al_27.below hb
  have h_ab_28 := h_ab_27.below hb
  have h_a_28 := h_a_27.later hb
  have h_bl_28 := h_bl_27.below hb
  have h_bb_28 := h_bb_27.below hb
  have h_b_28 := h_b_27.later hb
  have h_dl_28 := h_dl_27.below hb
  have h_db_28 := h_db_27.below hb
  have h_d_28 := h_d_27.later hb
  have h_z1l_28 := h_z1l_27.below hb
  have h_z1b_28 := h_z1b_27.below hb
  have h_z1_28 := h_z1_27.later hb
  have h_z2l_28 := h_z2l_27.below hb
  have h_z2b_28 := h_z2b_27.below hb
  have h_z2_28 := h_z2_27.later hb
  have h_z3l_28 := h_z3l_27.below hb
  have h_z3b_28 := h_z3b_27.below hb
  have h_z3_28 := h_z3_27.later hb
  have h_rn_28 := h_rn_27.below hb
  have h_rd_28 := h_rd_27.below hb
  have h_r_28 := h_r_27.later hb
  have h_l_28 := h_l_27.below hb
  clear hb B27 h_cl_27 h_cb_27 h_c_27 h_al_27 h_ab_27 h_a_27 h_bl_27 h_bb_27 h_b_27 h_dl_27 h_db_27 h_d_27 h_z1l_27 h_z1b_27 h_z1_27 h_z2l_27 h_z2b_27 h_z2_27 h_z3l_27 h_z3b_27 h_z3_27 h_rn_27 h_rd_27 h_r_27 h_l_27
  refine wp_region_held_drew (S := (fun w' => w'.cell? ⟨w1.heap.size, 8, none⟩ = some (.slice a_c n_c c_c) ∧ w'.cell? ⟨w4.heap.size, 8, none⟩ = some (.slice a_a n_a c_a) ∧ w'.cell? ⟨w7.heap.size, 8, none⟩ = some (.slice a_b n_b c_b) ∧ w'.cell? ⟨w7.heap.size, 9, none⟩ = some (.slice b_b m_b d_b) ∧ w'.cell? ⟨w10.heap.size, 8, none⟩ = some (.slice a_d n_d c_d) ∧ True)) (by kernel_rfl) ?_ (fun hHeld => ?_)
  · exact ⟨h_c_28.cell 8 _ rfl, h_a_28.cell 8 _ rfl, h_b_28.cell 8 _ rfl, h_b_28.cell 9 _ rfl, h_d_28.cell 8 _ rfl, trivial⟩
  generalize w27.drew = w28 at *
  refine wpAnyH_take (i := 0) (oi := ?a1_0) (v := ?b1_0) ?c1_0 (by kernel_rfl) (by kernel_rfl) (by kernel_rfl) ?d1_0 ?e1_0 (by assumption) ?f1_0
  case c1_0 => simp only [tA, tS, tZ]; rfl
  case d1_0 => exact fun _ _ _ h => h
  case e1_0 => (refine Or.inl ⟨by rfl, ?_⟩; intro w h; (try dsimp only at h); go_simp; all_goals with_reducible rfl)
  try simp only [Act.put, tI, tP, tQ]
  refine wpAnyH_take (i := 1) (oi := ?a1_1) (v := ?b1_1) ?c1_1 (by kernel_rfl) (by kernel_rfl) (by kernel_rfl) ?d1_1 ?e1_1 (by assumption) ?f1_1
  case c1_1 => simp only [tA, tS, tZ]; rfl
  case d1_1 => exact fun _ _ _ h => h
  case e1_1 => (refine Or.inl ⟨by rfl, ?_⟩; intro w h; (try dsimp only at h); go_simp; all_goals with_reducible rfl)
  try simp only [Act.put, tI, tP, tQ]
  refine wpAnyH_ready (rs := [2]) (by kernel_rfl) (by simp) ?_
  refine AllReadyH.cons (o := ?or2_2) ?hor2_2 (fun K hK => ?kr2_2) AllReadyH.nil
  case hor2_2 => simp only [List.getElem?_toArray, List.getElem?_cons_succ, List.getElem?_cons_zero]; rfl
  go_simp
  have c := refOne_any w28
  rw [← one_limbs] at c
  refine c.mono ?_
  rintro e w29 ⟨a_o, n_o, c_o, rfl, h_o_29, hb⟩
  clear c
  have B29 := B28.trans (hb.mono B28.size)
  have h_cl_29 := h_cl_28.below hb
  have h_cb_29 := h_cb_28.below hb
  have h_c_29 := h_c_28.later hb
  have h_al_29 := h_al_28.below hb
  have h_ab_29 := h_ab_28.below hb
  have h_a_29 := h_a_28.later hb
  have h_bl_29 := h_bl_28.below hb
  have h_bb_29 := h_bb_28.below hb
  have h_b_29 := h_b_28.later hb
  have h_dl_29 := h_dl_28.below hb
  have h_db_29 := h_db_28.below hb
  have h_d_29 := h_d_28.later hb
  have h_z1l_29 := h_z1l_28.below hb
  have h_z1b_29 := h_z1b_28.below hb
  have h_z1_29 := h_z1_28.later hb
  have h_z2l_29 := h_z2l_28.below hb
  have h_z2b_29 := h_z2b_28.below hb
  have h_z2_29 := h_z2_28.later hb
  have h_z3l_29 := h_z3l_28.below hb
  have h_z3b_29 := h_z3b_28.below hb
  have h_z3_29 := h_z3_28.later hb
  have h_rn_29 := h_rn_28.below hb
  have h_rd_29 := h_rd_28.below hb
  have h_r_29 := h_r_28.later hb
  have h_l_29 := h_l_28.below hb
  clear hb B28 h_cl_28 h_cb_28 h_c_28 h_al_28 h_ab_28 h_a_28 h_bl_28 h_bb_28 h_b_28 h_dl_28 h_db_28 h_d_28 h_z1l_28 h_z1b_28 h_z1_28 h_z2l_28 h_z2b_28 h_z2_28 h_z3l_28 h_z3b_28 h_z3_28 h_rn_28 h_rd_28 h_r_28 h_l_28
  go_wp2_with fail
  clear hHeld
  refine hK.out _ _ ?_ (fun hHeld => ?_)
  · exact ⟨h_c_29.cell 8 _ rfl, h_a_29.cell 8 _ rfl, h_b_29.cell 8 _ rfl, h_b_29.cell 9 _ rfl, h_d_29.cell 8 _ rfl, trivial⟩
  clear hK K
  try simp only [Act.put, List.setIfInBounds_toArray, List.set_cons_zero, List.set_cons_succ]
  refine wpAnyH_ready (rs := [3]) (by kernel_rfl) (by simp) ?_
  refine AllReadyH.cons (o := ?or3_3) ?hor3_3 (fun K hK => ?kr3_3) AllReadyH.nil
  case hor3_3 => simp only [List.getElem?_toArray, List.getElem?_cons_succ, List.getElem?_cons_zero]; rfl
  go_simp
  have c := refSame_b w29 h_cl_29 h_o_29
  rw [show sameN _ _ = true from sameN_true (EX.out.l0)] at c
  refine c.mono ?_
  rintro e w30 ⟨rfl, hb⟩
  clear c
  have B30 := B29.trans (hb.mono B29.size)
  have h_cl_30 := h_cl_29.below hb
  have h_cb_30 := h_cb_29.below hb
  have h_c_30 := h_c_29.later hb
  have h_al_30 := h_al_29.below hb
  have h_ab_30 := h_ab_29.below hb
  have h_a_30 := h_a_29.later hb
  have h_bl_30 := h_bl_29.below hb
  have h_bb_30 := h_bb_29.below hb
  have h_b_30 := h_b_29.later hb
  have h_dl_30 := h_dl_29.below hb
  have h_db_30 := h_db_29.below hb
  have h_d_30 := h_d_29.later hb
  have h_z1l_30 := h_z1l_29.below hb
  have h_z1b_30 := h_z1b_29.below hb
  have h_z1_30 := h_z1_29.later hb
  have h_z2l_30 := h_z2l_29.below hb
  have h_z2b_30 := h_z2b_29.below hb
  have h_z2_30 := h_z2_29.later hb
  have h_z3l_30 := h_z3l_29.below hb
  have h_z3b_30 := h_z3b_29.below hb
  have h_z3_30 := h_z3_29.later hb
  have h_rn_30 := h_rn_29.below hb
  have h_rd_30 := h_rd_29.below hb
  have h_r_30 := h_r_29.later hb
  have h_l_30 := h_l_29.below hb
  clear hb B29 h_cl_29 h_cb_29 h_c_29 h_al_29 h_ab_29 h_a_29 h_bl_29 h_bb_29 h_b_29 h_dl_29 h_db_29 h_d_29 h_z1l_29 h_z1b_29 h_z1_29 h_z2l_29 h_z2b_29 h_z2_29 h_z3l_29 h_z3b_29 h_z3_29 h_rn_29 h_rd_29 h_r_29 h_l_29 h_o_29
  go_wp2_with fail
  clear hHeld
  refine hK.out _ _ ?_ (fun hHeld => ?_)
  · exact ⟨h_c_30.cell 8 _ rfl, h_a_30.cell 8 _ rfl, h_b_30.cell 8 _ rfl, h_b_30.cell 9 _ rfl, h_d_30.cell 8 _ rfl, trivial⟩
  clear hK K
  try simp only [Act.put, List.setIfInBounds_toArray, List.set_cons_zero, List.set_cons_succ]
  refine wpAnyH_take (i := 4) (oi := ?a4_4) (v := ?b4_4) ?c4_4 (by kernel_rfl) (by kernel_rfl) (by kernel_rfl) ?d4_4 ?e4_4 (by assumption) ?f4_4
  case c4_4 => simp only [tA, tS, tZ]; rfl
  case d4_4 => exact fun _ _ _ h => h
  case e4_4 => (refine Or.inl ⟨by rfl, ?_⟩; intro w h; (try dsimp only at h); go_simp; all_goals with_reducible rfl)
  try simp only [Act.put, tI, tP, tQ]
  refine wpAnyH_take (i := 5) (oi := ?a4_5) (v := ?b4_5) ?c4_5 (by kernel_rfl) (by kernel_rfl) (by kernel_rfl) ?d4_5 ?e4_5 (by assumption) ?f4_5
  case c4_5 => simp only [tA, tS, tZ]; rfl
  case d4_5 => exact fun _ _ _ h => h
  case e4_5 => (refine Or.inl ⟨by rfl, ?_⟩; intro w h; (try dsimp only at h); go_simp; all_goals with_reducible rfl)
  try simp only [Act.put, tI, tP, tQ]
  refine wpAnyH_take (i := 6) (oi := ?a4_6) (v := ?b4_6) ?c4_6 (by kernel_rfl) (by kernel_rfl) (by kernel_rfl) ?d4_6 ?e4_6 (by assumption) ?f4_6
  case c4_6 => simp only [tA, tS, tZ]; rfl
  case d4_6 => exact fun _ _ _ h => h
  case e4_6 => (refine Or.inl ⟨by rfl, ?_⟩; intro w h; (try dsimp only at h); go_simp; all_goals with_reducible rfl)
  try simp only [Act.put, tI, tP, tQ]
  refine wpAnyH_take (i := 7) (oi := ?a4_7) (v := ?b4_7) ?c4_7 (by kernel_rfl) (by kernel_rfl) (by kernel_rfl) ?d4_7 ?e4_7 (by assumption) ?f4_7
  case c4_7 => simp only [tA, tS, tZ]; rfl
  case d4_7 => exact fun _ _ _ h => h
  case e4_7 => (refine Or.inl ⟨by rfl, ?_⟩; intro w h; (try dsimp only at h); go_simp; all_goals with_reducible rfl)
  try simp only [Act.put, tI, tP, tQ]
  refine wpAnyH_ready (rs := [8]) (by kernel_rfl) (by simp) ?_
  refine AllReadyH.cons (o := ?or5_8) ?hor5_8 (fun K hK => ?kr5_8) AllReadyH.nil
  case hor5_8 => simp only [List.getElem?_toArray, List.getElem?_cons_succ, List.getElem?_cons_zero]; rfl
  go_simp
  have c := refSame_b w30 h_al_30 h_l_30
  rw [show sameN _ _ = true from sameN_true (EX.out.la)] at c
  refine c.mono ?_
  rintro e w31 ⟨rfl, hb⟩
  clear c
  have B31 := B30.trans (hb.mono B30.size)
  have h_cl_31 := h_cl_30.below hb
  have h_cb_31 := h_cb_30.below hb
  have h_c_31 := h_c_30.later hb
  have h_al_31 := h_al_30.below hb
  have h_ab_31 := h_ab_30.below hb
  have h_a_31 := h_a_30.later hb
  have h_bl_31 := h_bl_30.below hb
  have h_bb_31 := h_bb_30.below hb
  have h_b_31 := h_b_30.later hb
  have h_dl_31 := h_dl_30.below hb
  have h_db_31 := h_db_30.below hb
  have h_d_31 := h_d_30.later hb
  have h_z1l_31 := h_z1l_30.below hb
  have h_z1b_31 := h_z1b_30.below hb
  have h_z1_31 := h_z1_30.later hb
  have h_z2l_31 := h_z2l_30.below hb
  have h_z2b_31 := h_z2b_30.below hb
  have h_z2_31 := h_z2_30.later hb
  have h_z3l_31 := h_z3l_30.below hb
  have h_z3b_31 := h_z3b_30.below hb
  have h_z3_31 := h_z3_30.later hb
  have h_rn_31 := h_rn_30.below hb
  have h_rd_31 := h_rd_30.below hb
  have h_r_31 := h_r_30.later hb
  have h_l_31 := h_l_30.below hb
  clear hb B30 h_cl_30 h_cb_30 h_c_30 h_al_30 h_ab_30 h_a_30 h_bl_30 h_bb_30 h_b_30 h_dl_30 h_db_30 h_d_30 h_z1l_30 h_z1b_30 h_z1_30 h_z2l_30 h_z2b_30 h_z2_30 h_z3l_30 h_z3b_30 h_z3_30 h_rn_30 h_rd_30 h_r_30 h_l_30
  go_wp2_with fail
  clear hHeld
  refine hK.out _ _ ?_ (fun hHeld => ?_)
  · exact ⟨h_c_31.cell 8 _ rfl, h_a_31.cell 8 _ rfl, h_b_31.cell 8 _ rfl, h_b_31.cell 9 _ rfl, h_d_31.cell 8 _ rfl, trivial⟩
  clear hK K
  try simp only [Act.put, List.setIfInBounds_toArray, List.set_cons_zero, List.set_cons_succ]
  refine wpAnyH_take (i := 9) (oi := ?a6_9) (v := ?b6_9) ?c6_9 (by kernel_rfl) (by kernel_rfl) (by kernel_rfl) ?d6_9 ?e6_9 (by assumption) ?f6_9
  case c6_9 => simp only [tA, tS, tZ]; rfl
  case d6_9 => exact fun _ _ _ h => h
  case e6_9 => (refine Or.inl ⟨by rfl, ?_⟩; intro w h; (try dsimp only at h); go_simp; all_goals with_reducible rfl)
  try simp only [Act.put, tI, tP, tQ]
  refine wpAnyH_take (i := 10) (oi := ?a6_10) (v := ?b6_10) ?c6_10 (by kernel_rfl) (by kernel_rfl) (by kernel_rfl) ?d6_10 ?e6_10 (by assumption) ?f6_10
  case c6_10 => simp only [tA, tS, tZ]; rfl
  case d6_10 => exact fun _ _ _ h => h
  case e6_10 => (refine Or.inl ⟨by rfl, ?_⟩; intro w h; (try dsimp only at h); go_simp; all_goals with_reducible rfl)
  try simp only [Act.put, tI, tP, tQ]
  refine wpAnyH_take (i := 11) (oi := ?a6_11) (v := ?b6_11) ?c6_11 (by kernel_rfl) (by kernel_rfl) (by kernel_rfl) ?d6_11 ?e6_11 (by assumption) ?f6_11
  case c6_11 => simp only [tA, tS, tZ]; rfl
  case d6_11 => exact fun _ _ _ h => h
  case e6_11 => (refine Or.inl ⟨by rfl, ?_⟩; intro w h; (try dsimp only at h); go_simp; all_goals with_reducible rfl)
  try simp only [Act.put, tI, tP, tQ]
  refine wpAnyH_take (i := 12) (oi := ?a6_12) (v := ?b6_12) ?c6_12 (by kernel_rfl) (by kernel_rfl) (by kernel_rfl) ?d6_12 ?e6_12 (by assumption) ?f6_12
  case c6_12 => simp only [tA, tS, tZ]; rfl
  case d6_12 => exact fun _ _ _ h => h
  case e6_12 => (refine Or.inl ⟨by rfl, ?_⟩; intro w h; (try dsimp only at h); go_simp; all_goals with_reducible rfl)
  try simp only [Act.put, tI, tP, tQ]
  refine wpAnyH_ready (rs := [13]) (by kernel_rfl) (by simp) ?_
  refine AllReadyH.cons (o := ?or7_13) ?hor7_13 (fun K hK => ?kr7_13) AllReadyH.nil
  case hor7_13 => simp only [List.getElem?_toArray, List.getElem?_cons_succ, List.getElem?_cons_zero]; rfl
  go_simp
  have c := refOne_any w31
  rw [← one_limbs] at c
  refine c.mono ?_
  rintro e w32 ⟨a_o, n_o, c_o, rfl, h_o_32, hb⟩
  clear c
  have B32 := B31.trans (hb.mono B31.size)
  have h_cl_32 := h_cl_31.below hb
  have h_cb_32 := h_cb_31.below hb
  have h_c_32 := h_c_31.later hb
  have h_al_32 := h_al_31.below hb
  have h_ab_32 := h_ab_31.below hb
  have h_a_32 := h_a_31.later hb
  have h_bl_32 := h_bl_31.below hb
  have h_bb_32 := h_bb_31.below hb
  have h_b_32 := h_b_31.later hb
  have h_dl_32 := h_dl_31.below hb
  have h_db_32 := h_db_31.below hb
  have h_d_32 := h_d_31.later hb
  have h_z1l_32 := h_z1l_31.below hb
  have h_z1b_32 := h_z1b_31.below hb
  have h_z1_32 := h_z1_31.later hb
  have h_z2l_32 := h_z2l_31.below hb
  have h_z2b_32 := h_z2b_31.below hb
  have h_z2_32 := h_z2_31.later hb
  have h_z3l_32 := h_z3l_31.below hb
  have h_z3b_32 := h_z3b_31.below hb
  have h_z3_32 := h_z3_31.later hb
  have h_rn_32 := h_rn_31.below hb
  have h_rd_32 := h_rd_31.below hb
  have h_r_32 := h_r_31.later hb
  have h_l_32 := h_l_31.below hb
  clear hb B31 h_cl_31 h_cb_31 h_c_31 h_al_31 h_ab_31 h_a_31 h_bl_31 h_bb_31 h_b_31 h_dl_31 h_db_31 h_d_31 h_z1l_31 h_z1b_31 h_z1_31 h_z2l_31 h_z2b_31 h_z2_31 h_z3l_31 h_z3b_31 h_z3_31 h_rn_31 h_rd_31 h_r_31 h_l_31
  go_wp2_with fail
  clear hHeld
  refine hK.out _ _ ?_ (fun hHeld => ?_)
  · exact ⟨h_c_32.cell 8 _ rfl, h_a_32.cell 8 _ rfl, h_b_32.cell 8 _ rfl, h_b_32.cell 9 _ rfl, h_d_32.cell 8 _ rfl, trivial⟩
  clear hK K
  try simp only [Act.put, List.setIfInBounds_toArray, List.set_cons_zero, List.set_cons_succ]
  refine wpAnyH_ready (rs := [14]) (by kernel_rfl) (by simp) ?_
  refine AllReadyH.cons (o := ?or8_14) ?hor8_14 (fun K hK => ?kr8_14) AllReadyH.nil
  case hor8_14 => simp only [List.getElem?_toArray, List.getElem?_cons_succ, List.getElem?_cons_zero]; rfl
  go_simp
  have c := refPolTimes_any w32 h_o_32 (by decide) 3 5 (by decide) (by decide) (by decide)
  rw [EX.out.tb] at c
  refine c.mono ?_
  rintro e w33 ⟨a_y, n_y, c_y, rfl, h_y_33, hb⟩
  clear c
  have B33 := B32.trans (hb.mono B32.size)
  have h_cl_33 := h_cl_32.below hb
  have h_cb_33 := h_cb_32.below hb
  have h_c_33 := h_c_32.later hb
  have h_al_33 := h_al_32.below hb
  have h_ab_33 := h_ab_32.below hb
  have h_a_33 := h_a_32.later hb
  have h_bl_33 := h_bl_32.below hb
  have h_bb_33 := h_bb_32.below hb
  have h_b_33 := h_b_32.later hb
  have h_dl_33 := h_dl_32.below hb
  have h_db_33 := h_db_32.below hb
  have h_d_33 := h_d_32.later hb
  have h_z1l_33 := h_z1l_32.below hb
  have h_z1b_33 := h_z1b_32.below hb
  have h_z1_33 := h_z1_32.later hb
  have h_z2l_33 := h_z2l_32.below hb
  have h_z2b_33 := h_z2b_32.below hb
  have h_z2_33 := h_z2_32.later hb
  have h_z3l_33 := h_z3l_32.below hb
  have h_z3b_33 := h_z3b_32.below hb
  have h_z3_33 := h_z3_32.later hb
  have h_rn_33 := h_rn_32.below hb
  have h_rd_33 := h_rd_32.below hb
  have h_r_33 := h_r_32.later hb
  have h_l_33 := h_l_32.below hb
  clear hb B32 h_cl_32 h_cb_32 h_c_32 h_al_32 h_ab_32 h_a_32 h_bl_32 h_bb_32 h_b_32 h_dl_32 h_db_32 h_d_32 h_z1l_32 h_z1b_32 h_z1_32 h_z2l_32 h_z2b_32 h_z2_32 h_z3l_32 h_z3b_32 h_z3_32 h_rn_32 h_rd_32 h_r_32 h_l_32 h_o_32
  go_wp2_with fail
  clear hHeld
  refine hK.out _ _ ?_ (fun hHeld => ?_)
  · exact ⟨h_c_33.cell 8 _ rfl, h_a_33.cell 8 _ rfl, h_b_33.cell 8 _ rfl, h_b_33.cell 9 _ rfl, h_d_33.cell 8 _ rfl, trivial⟩
  clear hK K
  try simp only [Act.put, List.setIfInBounds_toArray, List.set_cons_zero, List.set_cons_succ]
  refine wpAnyH_ready (rs := [15]) (by kernel_rfl) (by simp) ?_
  refine AllReadyH.cons (o := ?or9_15) ?hor9_15 (fun K hK => ?kr9_15) AllReadyH.nil
  case hor9_15 => simp only [List.getElem?_toArray, List.getElem?_cons_succ, List.getElem?_cons_zero]; rfl
  go_simp
  have c := refSame_b w33 h_bl_33 h_y_33
  rw [show sameN _ _ = true from sameN_true (EX.out.lb)] at c
  refine c.mono ?_
  rintro e w34 ⟨rfl, hb⟩
  clear c
  have B34 := B33.trans (hb.mono B33.size)
  have h_cl_34 := h_cl_33.below hb
  have h_cb_34 := h_cb_33.below hb
  have h_c_34 := h_c_33.later hb
  have h_al_34 := h_al_33.below hb
  have h_ab_34 := h_ab_33.below hb
  have h_a_34 := h_a_33.later hb
  have h_bl_34 := h_bl_33.below hb
  have h_bb_34 := h_bb_33.below hb
  have h_b_34 := h_b_33.later hb
  have h_dl_34 := h_dl_33.below hb
  have h_db_34 := h_db_33.below hb
  have h_d_34 := h_d_33.later hb
  have h_z1l_34 := h_z1l_33.below hb
  have h_z1b_34 := h_z1b_33.below hb
  have h_z1_34 := h_z1_33.later hb
  have h_z2l_34 := h_z2l_33.below hb
  have h_z2b_34 := h_z2b_33.below hb
  have h_z2_34 := h_z2_33.later hb
  have h_z3l_34 := h_z3l_33.below hb
  have h_z3b_34 := h_z3b_33.below hb
  have h_z3_34 := h_z3_33.later hb
  have h_rn_34 := h_rn_33.below hb
  have h_rd_34 := h_rd_33.below hb
  have h_r_34 := h_r_33.later hb
  have h_l_34 := h_l_33.below hb
  clear hb B33 h_cl_33 h_cb_33 h_c_33 h_al_33 h_ab_33 h_a_33 h_bl_33 h_bb_33 h_b_33 h_dl_33 h_db_33 h_d_33 h_z1l_33 h_z1b_33 h_z1_33 h_z2l_33 h_z2b_33 h_z2_33 h_z3l_33 h_z3b_33 h_z3_33 h_rn_33 h_rd_33 h_r_33 h_l_33 h_y_33
  go_wp2_with fail
  clear hHeld
  refine hK.out _ _ ?_ (fun hHeld => ?_)
  · exact ⟨h_c_34.cell 8 _ rfl, h_a_34.cell 8 _ rfl, h_b_34.cell 8 _ rfl, h_b_34.cell 9 _ rfl, h_d_34.cell 8 _ rfl, trivial⟩
  clear hK K
  try simp only [Act.put, List.setIfInBounds_toArray, List.set_cons_zero, List.set_cons_succ]
  refine wpAnyH_take (i := 16) (oi := ?a10_16) (v := ?b10_16) ?c10_16 (by kernel_rfl) (by kernel_rfl) (by kernel_rfl) ?d10_16 ?e10_16 (by assumption) ?f10_16
  case c10_16 => simp only [tA, tS, tZ]; rfl
  case d10_16 => exact fun _ _ _ h => h
  case e10_16 => (refine Or.inl ⟨by rfl, ?_⟩; intro w h; (try dsimp only at h); go_simp; all_goals with_reducible rfl)
  try simp only [Act.put, tI, tP, tQ]
  refine wpAnyH_take (i := 17) (oi := ?a10_17) (v := ?b10_17) ?c10_17 (by kernel_rfl) (by kernel_rfl) (by kernel_rfl) ?d10_17 ?e10_17 (by assumption) ?f10_17
  case c10_17 => simp only [tA, tS, tZ]; rfl
  case d10_17 => exact fun _ _ _ h => h
  case e10_17 => (refine Or.inl ⟨by rfl, ?_⟩; intro w h; (try dsimp only at h); go_simp; all_goals with_reducible rfl)
  try simp only [Act.put, tI, tP, tQ]
  refine wpAnyH_take (i := 18) (oi := ?a10_18) (v := ?b10_18) ?c10_18 (by kernel_rfl) (by kernel_rfl) (by kernel_rfl) ?d10_18 ?e10_18 (by assumption) ?f10_18
  case c10_18 => simp only [tA, tS, tZ]; rfl
  case d10_18 => exact fun _ _ _ h => h
  case e10_18 => (refine Or.inl ⟨by rfl, ?_⟩; intro w h; (try dsimp only at h); go_simp; all_goals with_reducible rfl)
  try simp only [Act.put, tI, tP, tQ]
  refine wpAnyH_take (i := 19) (oi := ?a10_19) (v := ?b10_19) ?c10_19 (by kernel_rfl) (by kernel_rfl) (by kernel_rfl) ?d10_19 ?e10_19 (by assumption) ?f10_19
  case c10_19 => simp only [tA, tS, tZ]; rfl
  case d10_19 => exact fun _ _ _ h => h
  case e10_19 => (refine Or.inl ⟨by rfl, ?_⟩; intro w h; (try dsimp only at h); go_simp; all_goals with_reducible rfl)
  try simp only [Act.put, tI, tP, tQ]
  refine wpAnyH_take (i := 20) (oi := ?a10_20) (v := ?b10_20) ?c10_20 (by kernel_rfl) (by kernel_rfl) (by kernel_rfl) ?d10_20 ?e10_20 (by assumption) ?f10_20
  case c10_20 => simp only [tA, tS, tZ]; rfl
  case d10_20 => exact fun _ _ _ h => h
  case e10_20 => (refine Or.inl ⟨by rfl, ?_⟩; intro w h; (try dsimp only at h); go_simp; all_goals with_reducible rfl)
  try simp only [Act.put, tI, tP, tQ]
  refine wpAnyH_take (i := 21) (oi := ?a10_21) (v := ?b10_21) ?c10_21 (by kernel_rfl) (by kernel_rfl) (by kernel_rfl) ?d10_21 ?e10_21 (by assumption) ?f10_21
  case c10_21 => simp only [tA, tS, tZ]; rfl
  case d10_21 => exact fun _ _ _ h => h
  case e10_21 => (refine Or.inl ⟨by rfl, ?_⟩; intro w h; (try dsimp only at h); go_simp; all_goals with_reducible rfl)
  try simp only [Act.put, tI, tP, tQ]
  refine wpAnyH_ready (rs := [22]) (by kernel_rfl) (by simp) ?_
  refine AllReadyH.cons (o := ?or11_22) ?hor11_22 (fun K hK => ?kr11_22) AllReadyH.nil
  case hor11_22 => simp only [List.getElem?_toArray, List.getElem?_cons_succ, List.getElem?_cons_zero]; rfl
  go_simp
  have c := refSame_b w34 h_bb_34 h_cl_34
  rw [show sameN _ _ = true from sameN_true (EX.out.bb.trans EX.out.l0.symm)] at c
  refine c.mono ?_
  rintro e w35 ⟨rfl, hb⟩
  clear c
  have B35 := B34.trans (hb.mono B34.size)
  have h_cl_35 := h_cl_34.below hb
  have h_cb_35 := h_cb_34.below hb
  have h_c_35 := h_c_34.later hb
  have h_al_35 := h_al_34.below hb
  have h_ab_35 := h_ab_34.below hb
  have h_a_35 := h_a_34.later hb
  have h_bl_35 := h_bl_34.below hb
  have h_bb_35 := h_bb_34.below hb
  have h_b_35 := h_b_34.later hb
  have h_dl_35 := h_dl_34.below hb
  have h_db_35 := h_db_34.below hb
  have h_d_35 := h_d_34.later hb
  have h_z1l_35 := h_z1l_34.below hb
  have h_z1b_35 := h_z1b_34.below hb
  have h_z1_35 := h_z1_34.later hb
  have h_z2l_35 := h_z2l_34.below hb
  have h_z2b_35 := h_z2b_34.below hb
  have h_z2_35 := h_z2_34.later hb
  have h_z3l_35 := h_z3l_34.below hb
  have h_z3b_35 := h_z3b_34.below hb
  have h_z3_35 := h_z3_34.later hb
  have h_rn_35 := h_rn_34.below hb
  have h_rd_35 := h_rd_34.below hb
  have h_r_35 := h_r_34.later hb
  have h_l_35 := h_l_34.below hb
  clear hb B34 h_cl_34 h_cb_34 h_c_34 h_al_34 h_ab_34 h_a_34 h_bl_34 h_bb_34 h_b_34 h_dl_34 h_db_34 h_d_34 h_z1l_34 h_z1b_34 h_z1_34 h_z2l_34 h_z2b_34 h_z2_34 h_z3l_34 h_z3b_34 h_z3_34 h_rn_34 h_rd_34 h_r_34 h_l_34
  go_wp2_with fail
  clear hHeld
  refine hK.out _ _ ?_ (fun hHeld => ?_)
  · exact ⟨h_c_35.cell 8 _ rfl, h_a_35.cell 8 _ rfl, h_b_35.cell 8 _ rfl, h_b_35.cell 9 _ rfl, h_d_35.cell 8 _ rfl, trivial⟩
  clear hK K
  try simp only [Act.put, List.setIfInBounds_toArray, List.set_cons_zero, List.set_cons_succ]
  refine wpAnyH_take (i := 23) (oi := ?a12_23) (v := ?b12_23) ?c12_23 (by kernel_rfl) (by kernel_rfl) (by kernel_rfl) ?d12_23 ?e12_23 (by assumption) ?f12_23
  case c12_23 => simp only [tA, tS, tZ]; rfl
  case d12_23 => exact fun _ _ _ h => h
  case e12_23 => (refine Or.inl ⟨by rfl, ?_⟩; intro w h; (try dsimp only at h); go_simp; all_goals with_reducible rfl)
  try simp only [Act.put, tI, tP, tQ]
  refine wpAnyH_take (i := 24) (oi := ?a12_24) (v := ?b12_24) ?c12_24 (by kernel_rfl) (by kernel_rfl) (by kernel_rfl) ?d12_24 ?e12_24 (by assumption) ?f12_24
  case c12_24 => simp only [tA, tS, tZ]; rfl
  case d12_24 => exact fun _ _ _ h => h
  case e12_24 => (refine Or.inl ⟨by rfl, ?_⟩; intro w h; (try dsimp only at h); go_simp; all_goals with_reducible rfl)
  try simp only [Act.put, tI, tP, tQ]
  refine wpAnyH_take (i := 25) (oi := ?a12_25) (v := ?b12_25) ?c12_25 (by kernel_rfl) (by kernel_rfl) (by kernel_rfl) ?d12_25 ?e12_25 (by assumption) ?f12_25
  case c12_25 => simp only [tA, tS, tZ]; rfl
  case d12_25 => exact fun _ _ _ h => h
  case e12_25 => (refine Or.inl ⟨by rfl, ?_⟩; intro w h; (try dsimp only at h); go_simp; all_goals with_reducible rfl)
  try simp only [Act.put, tI, tP, tQ]
  refine wpAnyH_take (i := 26) (oi := ?a12_26) (v := ?b12_26) ?c12_26 (by kernel_rfl) (by kernel_rfl) (by kernel_rfl) ?d12_26 ?e12_26 (by assumption) ?f12_26
  case c12_26 => simp only [tA, tS, tZ]; rfl
  case d12_26 => exact fun _ _ _ h => h
  case e12_26 => (refine Or.inl ⟨by rfl, ?_⟩; intro w h; (try dsimp only at h); go_simp; all_goals with_reducible rfl)
  try simp only [Act.put, tI, tP, tQ]
  refine wpAnyH_ready (rs := [27]) (by kernel_rfl) (by simp) ?_
  refine AllReadyH.cons (o := ?or13_27) ?hor13_27 (fun K hK => ?kr13_27) AllReadyH.nil
  case hor13_27 => simp only [List.getElem?_toArray, List.getElem?_cons_succ, List.getElem?_cons_zero]; rfl
  go_simp
  have c := refOne_any w35
  rw [← one_limbs] at c
  refine c.mono ?_
  rintro e w36 ⟨a_o, n_o, c_o, rfl, h_o_36, hb⟩
  clear c
  have B36 := B35.trans (hb.mono B35.size)
  have h_cl_36 := h_cl_35.below hb
  have h_cb_36 := h_cb_35.below hb
  have h_c_36 := h_c_35.later hb
  have h_al_36 := h_al_35.below hb
  have h_ab_36 := h_ab_35.below hb
  have h_a_36 := h_a_35.later hb
  have h_bl_36 := h_bl_35.below hb
  have h_bb_36 := h_bb_35.below hb
  have h_b_36 := h_b_35.later hb
  have h_dl_36 := h_dl_35.below hb
  have h_db_36 := h_db_35.below hb
  have h_d_36 := h_d_35.later hb
  have h_z1l_36 := h_z1l_35.below hb
  have h_z1b_36 := h_z1b_35.below hb
  have h_z1_36 := h_z1_35.later hb
  have h_z2l_36 := h_z2l_35.below hb
  have h_z2b_36 := h_z2b_35.below hb
  have h_z2_36 := h_z2_35.later hb
  have h_z3l_36 := h_z3l_35.below hb
  have h_z3b_36 := h_z3b_35.below hb
  have h_z3_36 := h_z3_35.later hb
  have h_rn_36 := h_rn_35.below hb
  have h_rd_36 := h_rd_35.below hb
  have h_r_36 := h_r_35.later hb
  have h_l_36 := h_l_35.below hb
  clear hb B35 h_cl_35 h_cb_35 h_c_35 h_al_35 h_ab_35 h_a_35 h_bl_35 h_bb_35 h_b_35 h_dl_35 h_db_35 h_d_35 h_z1l_35 h_z1b_35 h_z1_35 h_z2l_35 h_z2b_35 h_z2_35 h_z3l_35 h_z3b_35 h_z3_35 h_rn_35 h_rd_35 h_r_35 h_l_35
  go_wp2_with fail
  clear hHeld
  refine hK.out _ _ ?_ (fun hHeld => ?_)
  · exact ⟨h_c_36.cell 8 _ rfl, h_a_36.cell 8 _ rfl, h_b_36.cell 8 _ rfl, h_b_36.cell 9 _ rfl, h_d_36.cell 8 _ rfl, trivial⟩
  clear hK K
  try simp only [Act.put, List.setIfInBounds_toArray, List.set_cons_zero, List.set_cons_succ]
  refine wpAnyH_ready (rs := [28]) (by kernel_rfl) (by simp) ?_
  refine AllReadyH.cons (o := ?or14_28) ?hor14_28 (fun K hK => ?kr14_28) AllReadyH.nil
  case hor14_28 => simp only [List.getElem?_toArray, List.getElem?_cons_succ, List.getElem?_cons_zero]; rfl
  go_simp
  have c := refPolTimes_any w36 h_o_36 (by decide) 8 5 (by decide) (by decide) (by decide)
  rw [EX.out.td] at c
  refine c.mono ?_
  rintro e w37 ⟨a_y, n_y, c_y, rfl, h_y_37, hb⟩
  clear c
  have B37 := B36.trans (hb.mono B36.size)
  have h_cl_37 := h_cl_36.below hb
  have h_cb_37 := h_cb_36.below hb
  have h_c_37 := h_c_36.later hb
  have h_al_37 := h_al_36.below hb
  have h_ab_37 := h_ab_36.below hb
  have h_a_37 := h_a_36.later hb
  have h_bl_37 := h_bl_36.below hb
  have h_bb_37 := h_bb_36.below hb
  have h_b_37 := h_b_36.later hb
  have h_dl_37 := h_dl_36.below hb
  have h_db_37 := h_db_36.below hb
  have h_d_37 := h_d_36.later hb
  have h_z1l_37 := h_z1l_36.below hb
  have h_z1b_37 := h_z1b_36.below hb
  have h_z1_37 := h_z1_36.later hb
  have h_z2l_37 := h_z2l_36.below hb
  have h_z2b_37 := h_z2b_36.below hb
  have h_z2_37 := h_z2_36.later hb
  have h_z3l_37 := h_z3l_36.below hb
  have h_z3b_37 := h_z3b_36.below hb
  have h_z3_37 := h_z3_36.later hb
  have h_rn_37 := h_rn_36.below hb
  have h_rd_37 := h_rd_36.below hb
  have h_r_37 := h_r_36.later hb
  have h_l_37 := h_l_36.below hb
  clear hb B36 h_cl_36 h_cb_36 h_c_36 h_al_36 h_ab_36 h_a_36 h_bl_36 h_bb_36 h_b_36 h_dl_36 h_db_36 h_d_36 h_z1l_36 h_z1b_36 h_z1_36 h_z2l_36 h_z2b_36 h_z2_36 h_z3l_36 h_z3b_36 h_z3_36 h_rn_36 h_rd_36 h_r_36 h_l_36 h_o_36
  go_wp2_with fail
  clear hHeld
  refine hK.out _ _ ?_ (fun hHeld => ?_)
  · exact ⟨h_c_37.cell 8 _ rfl, h_a_37.cell 8 _ rfl, h_b_37.cell 8 _ rfl, h_b_37.cell 9 _ rfl, h_d_37.cell 8 _ rfl, trivial⟩
  clear hK K
  try simp only [Act.put, List.setIfInBounds_toArray, List.set_cons_zero, List.set_cons_succ]
  refine wpAnyH_ready (rs := [29]) (by kernel_rfl) (by simp) ?_
  refine AllReadyH.cons (o := ?or15_29) ?hor15_29 (fun K hK => ?kr15_29) AllReadyH.nil
  case hor15_29 => simp only [List.getElem?_toArray, List.getElem?_cons_succ, List.getElem?_cons_zero]; rfl
  go_simp
  have c := refSame_b w37 h_dl_37 h_y_37
  rw [show sameN _ _ = true from sameN_true (EX.out.ld)] at c
  refine c.mono ?_
  rintro e w38 ⟨rfl, hb⟩
  clear c
  have B38 := B37.trans (hb.mono B37.size)
  have h_cl_38 := h_cl_37.below hb
  have h_cb_38 := h_cb_37.below hb
  have h_c_38 := h_c_37.later hb
  have h_al_38 := h_al_37.below hb
  have h_ab_38 := h_ab_37.below hb
  have h_a_38 := h_a_37.later hb
  have h_bl_38 := h_bl_37.below hb
  have h_bb_38 := h_bb_37.below hb
  have h_b_38 := h_b_37.later hb
  have h_dl_38 := h_dl_37.below hb
  have h_db_38 := h_db_37.below hb
  have h_d_38 := h_d_37.later hb
  have h_z1l_38 := h_z1l_37.below hb
  have h_z1b_38 := h_z1b_37.below hb
  have h_z1_38 := h_z1_37.later hb
  have h_z2l_38 := h_z2l_37.below hb
  have h_z2b_38 := h_z2b_37.below hb
  have h_z2_38 := h_z2_37.later hb
  have h_z3l_38 := h_z3l_37.below hb
  have h_z3b_38 := h_z3b_37.below hb
  have h_z3_38 := h_z3_37.later hb
  have h_rn_38 := h_rn_37.below hb
  have h_rd_38 := h_rd_37.below hb
  have h_r_38 := h_r_37.later hb
  have h_l_38 := h_l_37.below hb
  clear hb B37 h_cl_37 h_cb_37 h_c_37 h_al_37 h_ab_37 h_a_37 h_bl_37 h_bb_37 h_b_37 h_dl_37 h_db_37 h_d_37 h_z1l_37 h_z1b_37 h_z1_37 h_z2l_37 h_z2b_37 h_z2_37 h_z3l_37 h_z3b_37 h_z3_37 h_rn_37 h_rd_37 h_r_37 h_l_37 h_y_37
  go_wp2_with fail
  clear hHeld
  refine hK.out _ _ ?_ (fun hHeld => ?_)
  · exact ⟨h_c_38.cell 8 _ rfl, h_a_38.cell 8 _ rfl, h_b_38.cell 8 _ rfl, h_b_38.cell 9 _ rfl, h_d_38.cell 8 _ rfl, trivial⟩
  clear hK K
  try simp only [Act.put, List.setIfInBounds_toArray, List.set_cons_zero, List.set_cons_succ]
  refine wpAnyH_take (i := 30) (oi := ?a16_30) (v := ?b16_30) ?c16_30 (by kernel_rfl) (by kernel_rfl) (by kernel_rfl) ?d16_30 ?e16_30 (by assumption) ?f16_30
  case c16_30 => simp only [tA, tS, tZ]; rfl
  case d16_30 => exact fun _ _ _ h => h
  case e16_30 => (refine Or.inl ⟨by rfl, ?_⟩; intro w h; (try dsimp only at h); go_simp; all_goals with_reducible rfl)
  try simp only [Act.put, tI, tP, tQ]
  refine wpAnyH_take (i := 31) (oi := ?a16_31) (v := ?b16_31) ?c16_31 (by kernel_rfl) (by kernel_rfl) (by kernel_rfl) ?d16_31 ?e16_31 (by assumption) ?f16_31
  case c16_31 => simp only [tA, tS, tZ]; rfl
  case d16_31 => exact fun _ _ _ h => h
  case e16_31 => (refine Or.inl ⟨by rfl, ?_⟩; intro w h; (try dsimp only at h); go_simp; all_goals with_reducible rfl)
  try simp only [Act.put, tI, tP, tQ]
  refine wpAnyH_done (by kernel_rfl) ?_ _
  clear hHeld
  go_wp2_with fail
  have hb := (Below.refl w38.heap.size w38).drew
  have B39 := B38.trans (hb.mono B38.size)
  have h_cl_39 := h_cl_38.below hb
  have h_cb_39 := h_cb_38.below hb
  have h_c_39 := h_c_38.later hb
  have h_al_39 := h_al_38.below hb
  have h_ab_39 := h_ab_38.below hb
  have h_a_39 := h_a_38.later hb
  have h_bl_39 := h_bl_38.below hb
  have h_bb_39 := h_bb_38.below hb
  have h_b_39 := h_b_38.later hb
  have h_dl_39 := h_dl_38.below hb
  have h_db_39 := h_db_38.below hb
  have h_d_39 := h_d_38.later hb
  have h_z1l_39 := h_z1l_38.below hb
  have h_z1b_39 := h_z1b_38.below hb
  have h_z1_39 := h_z1_38.later hb
  have h_z2l_39 := h_z2l_38.below hb
  have h_z2b_39 := h_z2b_38.below hb
  have h_z2_39 := h_z2_38.later hb
  have h_z3l_39 := h_z3l_38.below hb
  have h_z3b_39 := h_z3b_38.below hb
  have h_z3_39 := h_z3_38.later hb
  have h_rn_39 := h_rn_38.below hb
  have h_rd_39 := h_rd_38.below hb
  have h_r_39 := h_r_38.later hb
  have h_l_39 := h_l_38.below hb
  clear hb B38 h_cl_38 h_cb_38 h_c_38 h_al_38 h_ab_38 h_a_38 h_bl_38 h_bb_38 h_b_38 h_dl_38 h_db_38 h_d_38 h_z1l_38 h_z1b_38 h_z1_38 h_z2l_38 h_z2b_38 h_z2_38 h_z3l_38 h_z3b_38 h_z3_38 h_rn_38 h_rd_38 h_r_38 h_l_38
  refine wp_region_held_drew (S := (fun w' => w'.cell? ⟨w24.heap.size, 0, none⟩ = some (.bool (rq).neg) ∧ w'.cell? ⟨w24.heap.size, 1, none⟩ = some (.slice a_r n_r c_r) ∧ w'.cell? ⟨w24.heap.size, 2, none⟩ = some (.slice b_r m_r d_r) ∧ True)) (by kernel_rfl) ?_ (fun hHeld => ?_)
  · exact ⟨h_r_39.cell 0 _ rfl, h_r_39.cell 1 _ rfl, h_r_39.cell 2 _ rfl, trivial⟩
  generalize w38.drew = w39 at *
  refine wpAnyH_take (i := 0) (oi := ?a17_0) (v := ?b17_0) ?c17_0 (by kernel_rfl) (by kernel_rfl) (by kernel_rfl) ?d17_0 ?e17_0 (by assumption) ?f17_0
  case c17_0 => simp only [tA, tS, tZ]; rfl
  case d17_0 => exact fun _ _ _ h => h
  case e17_0 => (refine Or.inl ⟨by rfl, ?_⟩; intro w h; (try dsimp only at h); go_simp; all_goals with_reducible rfl)
  try simp only [Act.put, tI, tP, tQ]
  refine wpAnyH_ready (rs := [1]) (by kernel_rfl) (by simp) ?_
  refine AllReadyH.cons (o := ?or18_1) ?hor18_1 (fun K hK => ?kr18_1) AllReadyH.nil
  case hor18_1 => simp only [List.getElem?_toArray, List.getElem?_cons_succ, List.getElem?_cons_zero]; rfl
  go_simp
  have c := cmPart_any w39 1 1 (by decide) (by decide) (by decide) (by decide)
  refine c.mono ?_
  rintro e w40 ⟨a_x, n_x, c_x, b_x, m_x, d_x, rfl, h_xn_40, h_xd_40, hb⟩
  clear c
  have B40 := B39.trans (hb.mono B39.size)
  have h_cl_40 := h_cl_39.below hb
  have h_cb_40 := h_cb_39.below hb
  have h_c_40 := h_c_39.later hb
  have h_al_40 := h_al_39.below hb
  have h_ab_40 := h_ab_39.below hb
  have h_a_40 := h_a_39.later hb
  have h_bl_40 := h_bl_39.below hb
  have h_bb_40 := h_bb_39.below hb
  have h_b_40 := h_b_39.later hb
  have h_dl_40 := h_dl_39.below hb
  have h_db_40 := h_db_39.below hb
  have h_d_40 := h_d_39.later hb
  have h_z1l_40 := h_z1l_39.below hb
  have h_z1b_40 := h_z1b_39.below hb
  have h_z1_40 := h_z1_39.later hb
  have h_z2l_40 := h_z2l_39.below hb
  have h_z2b_40 := h_z2b_39.below hb
  have h_z2_40 := h_z2_39.later hb
  have h_z3l_40 := h_z3l_39.below hb
  have h_z3b_40 := h_z3b_39.below hb
  have h_z3_40 := h_z3_39.later hb
  have h_rn_40 := h_rn_39.below hb
  have h_rd_40 := h_rd_39.below hb
  have h_r_40 := h_r_39.later hb
  have h_l_40 := h_l_39.below hb
  clear hb B39 h_cl_39 h_cb_39 h_c_39 h_al_39 h_ab_39 h_a_39 h_bl_39 h_bb_39 h_b_39 h_dl_39 h_db_39 h_d_39 h_z1l_39 h_z1b_39 h_z1_39 h_z2l_39 h_z2b_39 h_z2_39 h_z3l_39 h_z3b_39 h_z3_39 h_rn_39 h_rd_39 h_r_39 h_l_39
  go_wp2_with fail
  clear hHeld
  refine hK.out _ _ ?_ (fun hHeld => ?_)
  · exact ⟨h_r_40.cell 0 _ rfl, h_r_40.cell 1 _ rfl, h_r_40.cell 2 _ rfl, trivial⟩
  clear hK K
  try simp only [Act.put, List.setIfInBounds_toArray, List.set_cons_zero, List.set_cons_succ]
  refine wpAnyH_ready (rs := [2]) (by kernel_rfl) (by simp) ?_
  refine AllReadyH.cons (o := ?or19_2) ?hor19_2 (fun K hK => ?kr19_2) AllReadyH.nil
  case hor19_2 => simp only [List.getElem?_toArray, List.getElem?_cons_succ, List.getElem?_cons_zero]; rfl
  go_simp
  have c := refRatCmp_any w40 (g1 := rq.neg) (g2 := (ofC 1 1).1.neg) h_rn_40 h_rd_40 h_xn_40 h_xd_40
  rw [show (⟨(ofC 1 1).1.neg, (ofC 1 1).1.num, (ofC 1 1).1.den⟩ : QV) = (ofC 1 1).1 from rfl] at c
  rw [show (⟨rq.neg, rq.num, rq.den⟩ : QV) = rq from rfl] at c
  rw [EX.out.cmp] at c
  refine c.mono ?_
  rintro e w41 ⟨rfl, hb⟩
  clear c
  have B41 := B40.trans (hb.mono B40.size)
  have h_cl_41 := h_cl_40.below hb
  have h_cb_41 := h_cb_40.below hb
  have h_c_41 := h_c_40.later hb
  have h_al_41 := h_al_40.below hb
  have h_ab_41 := h_ab_40.below hb
  have h_a_41 := h_a_40.later hb
  have h_bl_41 := h_bl_40.below hb
  have h_bb_41 := h_bb_40.below hb
  have h_b_41 := h_b_40.later hb
  have h_dl_41 := h_dl_40.below hb
  have h_db_41 := h_db_40.below hb
  have h_d_41 := h_d_40.later hb
  have h_z1l_41 := h_z1l_40.below hb
  have h_z1b_41 := h_z1b_40.below hb
  have h_z1_41 := h_z1_40.later hb
  have h_z2l_41 := h_z2l_40.below hb
  have h_z2b_41 := h_z2b_40.below hb
  have h_z2_41 := h_z2_40.later hb
  have h_z3l_41 := h_z3l_40.below hb
  have h_z3b_41 := h_z3b_40.below hb
  have h_z3_41 := h_z3_40.later hb
  have h_rn_41 := h_rn_40.below hb
  have h_rd_41 := h_rd_40.below hb
  have h_r_41 := h_r_40.later hb
  have h_l_41 := h_l_40.below hb
  clear hb B40 h_cl_40 h_cb_40 h_c_40 h_al_40 h_ab_40 h_a_40 h_bl_40 h_bb_40 h_b_40 h_dl_40 h_db_40 h_d_40 h_z1l_40 h_z1b_40 h_z1_40 h_z2l_40 h_z2b_40 h_z2_40 h_z3l_40 h_z3b_40 h_z3_40 h_rn_40 h_rd_40 h_r_40 h_l_40 h_xn_40 h_xd_40
  go_wp2_with fail
  clear hHeld
  refine hK.out _ _ ?_ (fun hHeld => ?_)
  · exact ⟨h_r_41.cell 0 _ rfl, h_r_41.cell 1 _ rfl, h_r_41.cell 2 _ rfl, trivial⟩
  clear hK K
  try simp only [Act.put, List.setIfInBounds_toArray, List.set_cons_zero, List.set_cons_succ]
  refine wpAnyH_take (i := 3) (oi := ?a20_3) (v := ?b20_3) ?c20_3 (by kernel_rfl) (by kernel_rfl) (by kernel_rfl) ?d20_3 ?e20_3 (by assumption) ?f20_3
  case c20_3 => simp only [tA, tS, tZ]; rfl
  case d20_3 => exact fun _ _ _ h => h
  case e20_3 => (refine Or.inl ⟨by rfl, ?_⟩; intro w h; (try dsimp only at h); go_simp; all_goals with_reducible rfl)
  try simp only [Act.put, tI, tP, tQ]
  refine wpAnyH_take (i := 4) (oi := ?a20_4) (v := ?b20_4) ?c20_4 (by kernel_rfl) (by kernel_rfl) (by kernel_rfl) ?d20_4 ?e20_4 (by assumption) ?f20_4
  case c20_4 => simp only [tA, tS, tZ]; rfl
  case d20_4 => exact fun _ _ _ h => h
  case e20_4 => (refine Or.inl ⟨by rfl, ?_⟩; intro w h; (try dsimp only at h); go_simp; all_goals with_reducible rfl)
  try simp only [Act.put, tI, tP, tQ]
  refine wpAnyH_take (i := 5) (oi := ?a20_5) (v := ?b20_5) ?c20_5 (by kernel_rfl) (by kernel_rfl) (by kernel_rfl) ?d20_5 ?e20_5 (by assumption) ?f20_5
  case c20_5 => simp only [tA, tS, tZ]; rfl
  case d20_5 => exact fun _ _ _ h => h
  case e20_5 => (refine Or.inl ⟨by rfl, ?_⟩; intro w h; (try dsimp only at h); go_simp; all_goals with_reducible rfl)
  try simp only [Act.put, tI, tP, tQ]
  refine wpAnyH_take (i := 6) (oi := ?a20_6) (v := ?b20_6) ?c20_6 (by kernel_rfl) (by kernel_rfl) (by kernel_rfl) ?d20_6 ?e20_6 (by assumption) ?f20_6
  case c20_6 => simp only [tA, tS, tZ]; rfl
  case d20_6 => exact fun _ _ _ h => h
  case e20_6 => (refine Or.inl ⟨by rfl, ?_⟩; intro w h; (try dsimp only at h); go_simp; all_goals with_reducible rfl)
  try simp only [Act.put, tI, tP, tQ]
  refine wpAnyH_take (i := 7) (oi := ?a20_7) (v := ?b20_7) ?c20_7 (by kernel_rfl) (by kernel_rfl) (by kernel_rfl) ?d20_7 ?e20_7 (by assumption) ?f20_7
  case c20_7 => simp only [tA, tS, tZ]; rfl
  case d20_7 => exact fun _ _ _ h => h
  case e20_7 => (refine Or.inl ⟨by rfl, ?_⟩; intro w h; (try dsimp only at h); go_simp; all_goals with_reducible rfl)
  try simp only [Act.put, tI, tP, tQ]
  refine wpAnyH_done (by kernel_rfl) ?_ _
  clear hHeld
  have q1 : ∀ w, (Op.equalIn 10000 22 (.agg #[.int .i64 qa.s0, .int .i64 qa.s1, .int .i64 qa.s2, .int .i64 qa.s3, .int .i64 qa.s4]) (.agg #[.int .i64 0, .int .i64 0, .int .i64 1, .int .i64 0, .int .i64 0])).run Try.prog w = .ok true w := fun w => by
    obtain ⟨e0, e1, e2, e3, e4⟩ := EX.out.sa
    rw [eqSeen5, e0, e1, e2, e3, e4]; rfl
  have q2 : ∀ w, (Op.equalIn 10000 22 (.agg #[.int .i64 qb.s0, .int .i64 qb.s1, .int .i64 qb.s2, .int .i64 qb.s3, .int .i64 qb.s4]) (.agg #[.int .i64 0, .int .i64 0, .int .i64 0, .int .i64 0, .int .i64 1])).run Try.prog w = .ok true w := fun w => by
    obtain ⟨e0, e1, e2, e3, e4⟩ := EX.out.sb
    rw [eqSeen5, e0, e1, e2, e3, e4]; rfl
  have k_a_3 := h_a_41.cell 3 _ rfl
  have k_a_4 := h_a_41.cell 4 _ rfl
  have k_a_5 := h_a_41.cell 5 _ rfl
  have k_a_6 := h_a_41.cell 6 _ rfl
  have k_a_7 := h_a_41.cell 7 _ rfl
  have k_b_3 := h_b_41.cell 3 _ rfl
  have k_b_4 := h_b_41.cell 4 _ rfl
  have k_b_5 := h_b_41.cell 5 _ rfl
  have k_b_6 := h_b_41.cell 6 _ rfl
  have k_b_7 := h_b_41.cell 7 _ rfl
  go_wp2_with fail
  clear k_a_3 k_a_4 k_a_5 k_a_6 k_a_7 k_b_3 k_b_4 k_b_5 k_b_6 k_b_7
  have c := cmCheck_any w41 (q := zeroCV) (Rd.nil _ _) (Rd.nil _ _) zeroCV_cw
  rw [ex_chkz] at c
  refine c.mono ?_
  rintro e w42 ⟨rfl, hb⟩
  clear c
  have B42 := B41.trans (hb.mono B41.size)
  have h_cl_42 := h_cl_41.below hb
  have h_cb_42 := h_cb_41.below hb
  have h_c_42 := h_c_41.later hb
  have h_al_42 := h_al_41.below hb
  have h_ab_42 := h_ab_41.below hb
  have h_a_42 := h_a_41.later hb
  have h_bl_42 := h_bl_41.below hb
  have h_bb_42 := h_bb_41.below hb
  have h_b_42 := h_b_41.later hb
  have h_dl_42 := h_dl_41.below hb
  have h_db_42 := h_db_41.below hb
  have h_d_42 := h_d_41.later hb
  have h_z1l_42 := h_z1l_41.below hb
  have h_z1b_42 := h_z1b_41.below hb
  have h_z1_42 := h_z1_41.later hb
  have h_z2l_42 := h_z2l_41.below hb
  have h_z2b_42 := h_z2b_41.below hb
  have h_z2_42 := h_z2_41.later hb
  have h_z3l_42 := h_z3l_41.below hb
  have h_z3b_42 := h_z3b_41.below hb
  have h_z3_42 := h_z3_41.later hb
  have h_rn_42 := h_rn_41.below hb
  have h_rd_42 := h_rd_41.below hb
  have h_r_42 := h_r_41.later hb
  have h_l_42 := h_l_41.below hb
  clear hb B41 h_cl_41 h_cb_41 h_c_41 h_al_41 h_ab_41 h_a_41 h_bl_41 h_bb_41 h_b_41 h_dl_41 h_db_41 h_d_41 h_z1l_41 h_z1b_41 h_z1_41 h_z2l_41 h_z2b_41 h_z2_41 h_z3l_41 h_z3b_41 h_z3_41 h_rn_41 h_rd_41 h_r_41 h_l_41
  have k_c_0 := h_c_42.cell 0 _ rfl
  have k_c_1 := h_c_42.cell 1 _ rfl
  have k_c_2 := h_c_42.cell 2 _ rfl
  have k_c_3 := h_c_42.cell 3 _ rfl
  have k_c_4 := h_c_42.cell 4 _ rfl
  have k_c_5 := h_c_42.cell 5 _ rfl
  have k_c_6 := h_c_42.cell 6 _ rfl
  have k_c_7 := h_c_42.cell 7 _ rfl
  have k_c_8 := h_c_42.cell 8 _ rfl
  have k_c_9 := h_c_42.cell 9 _ rfl
  go_wp2_with fail
  clear k_c_0 k_c_1 k_c_2 k_c_3 k_c_4 k_c_5 k_c_6 k_c_7 k_c_8 k_c_9
  have c := cmSame_any w42 (p := q0) (q := q0) h_cl_42 h_cb_42 h_cl_42 h_cb_42
  rw [EX.out.same] at c
  refine c.mono ?_
  rintro e w43 ⟨rfl, hb⟩
  clear c
  have B43 := B42.trans (hb.mono B42.size)
  have h_cl_43 := h_cl_42.below hb
  have h_cb_43 := h_cb_42.below hb
  have h_c_43 := h_c_42.later hb
  have h_al_43 := h_al_42.below hb
  have h_ab_43 := h_ab_42.below hb
  have h_a_43 := h_a_42.later hb
  have h_bl_43 := h_bl_42.below hb
  have h_bb_43 := h_bb_42.below hb
  have h_b_43 := h_b_42.later hb
  have h_dl_43 := h_dl_42.below hb
  have h_db_43 := h_db_42.below hb
  have h_d_43 := h_d_42.later hb
  have h_z1l_43 := h_z1l_42.below hb
  have h_z1b_43 := h_z1b_42.below hb
  have h_z1_43 := h_z1_42.later hb
  have h_z2l_43 := h_z2l_42.below hb
  have h_z2b_43 := h_z2b_42.below hb
  have h_z2_43 := h_z2_42.later hb
  have h_z3l_43 := h_z3l_42.below hb
  have h_z3b_43 := h_z3b_42.below hb
  have h_z3_43 := h_z3_42.later hb
  have h_rn_43 := h_rn_42.below hb
  have h_rd_43 := h_rd_42.below hb
  have h_r_43 := h_r_42.later hb
  have h_l_43 := h_l_42.below hb
  clear hb B42 h_cl_42 h_cb_42 h_c_42 h_al_42 h_ab_42 h_a_42 h_bl_42 h_bb_42 h_b_42 h_dl_42 h_db_42 h_d_42 h_z1l_42 h_z1b_42 h_z1_42 h_z2l_42 h_z2b_42 h_z2_42 h_z3l_42 h_z3b_42 h_z3_42 h_rn_42 h_rd_42 h_r_42 h_l_42
  have k_a_0 := h_a_43.cell 0 _ rfl
  have k_a_1 := h_a_43.cell 1 _ rfl
  have k_a_2 := h_a_43.cell 2 _ rfl
  have k_a_3 := h_a_43.cell 3 _ rfl
  have k_a_4 := h_a_43.cell 4 _ rfl
  have k_a_5 := h_a_43.cell 5 _ rfl
  have k_a_6 := h_a_43.cell 6 _ rfl
  have k_a_7 := h_a_43.cell 7 _ rfl
  have k_a_8 := h_a_43.cell 8 _ rfl
  have k_a_9 := h_a_43.cell 9 _ rfl
  have k_b_0 := h_b_43.cell 0 _ rfl
  have k_b_1 := h_b_43.cell 1 _ rfl
  have k_b_2 := h_b_43.cell 2 _ rfl
  have k_b_3 := h_b_43.cell 3 _ rfl
  have k_b_4 := h_b_43.cell 4 _ rfl
  have k_b_5 := h_b_43.cell 5 _ rfl
  have k_b_6 := h_b_43.cell 6 _ rfl
  have k_b_7 := h_b_43.cell 7 _ rfl
  have k_b_8 := h_b_43.cell 8 _ rfl
  have k_b_9 := h_b_43.cell 9 _ rfl
  go_wp2_with fail
  clear k_a_0 k_a_1 k_a_2 k_a_3 k_a_4 k_a_5 k_a_6 k_a_7 k_a_8 k_a_9 k_b_0 k_b_1 k_b_2 k_b_3 k_b_4 k_b_5 k_b_6 k_b_7 k_b_8 k_b_9
  have c := cmSame_any w43 (p := qa) (q := qb) h_al_43 h_ab_43 h_bl_43 h_bb_43
  rw [EX.out.diff] at c
  refine c.mono ?_
  rintro e w44 ⟨rfl, hb⟩
  clear c
  have B44 := B43.trans (hb.mono B43.size)
  have h_cl_44 := h_cl_43.below hb
  have h_cb_44 := h_cb_43.below hb
  have h_c_44 := h_c_43.later hb
  have h_al_44 := h_al_43.below hb
  have h_ab_44 := h_ab_43.below hb
  have h_a_44 := h_a_43.later hb
  have h_bl_44 := h_bl_43.below hb
  have h_bb_44 := h_bb_43.below hb
  have h_b_44 := h_b_43.later hb
  have h_dl_44 := h_dl_43.below hb
  have h_db_44 := h_db_43.below hb
  have h_d_44 := h_d_43.later hb
  have h_z1l_44 := h_z1l_43.below hb
  have h_z1b_44 := h_z1b_43.below hb
  have h_z1_44 := h_z1_43.later hb
  have h_z2l_44 := h_z2l_43.below hb
  have h_z2b_44 := h_z2b_43.below hb
  have h_z2_44 := h_z2_43.later hb
  have h_z3l_44 := h_z3l_43.below hb
  have h_z3b_44 := h_z3b_43.below hb
  have h_z3_44 := h_z3_43.later hb
  have h_rn_44 := h_rn_43.below hb
  have h_rd_44 := h_rd_43.below hb
  have h_r_44 := h_r_43.later hb
  have h_l_44 := h_l_43.below hb
  clear hb B43 h_cl_43 h_cb_43 h_c_43 h_al_43 h_ab_43 h_a_43 h_bl_43 h_bb_43 h_b_43 h_dl_43 h_db_43 h_d_43 h_z1l_43 h_z1b_43 h_z1_43 h_z2l_43 h_z2b_43 h_z2_43 h_z3l_43 h_z3b_43 h_z3_43 h_rn_43 h_rd_43 h_r_43 h_l_43
  go_wp2_with fail
  go_ret
  exact ⟨rfl, B44⟩

end Go.Proofs.Ytmkcdlhhbnakiaa
