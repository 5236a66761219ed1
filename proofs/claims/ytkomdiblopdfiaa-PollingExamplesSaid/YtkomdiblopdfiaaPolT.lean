/- The walk of PollingExamples: it returns true and turns nothing that was there. No condition. Printed by gen_polt.py. -/
import Derived.Test.YtkomdiblopdfiaaPolS
namespace Go.Proofs.Ytkomdiblopdfiaa
open Go.RowKit Go.Suf
set_option linter.unusedVariables false
set_option linter.unusedSimpArgs false

theorem lit_lev1 (w : World) : Rd .u32 (w.alloc (.cells #[.int .u32 0, .int .u32 2147483648, .int .u32 1] 40)) (some ⟨w.heap.size, 0, none⟩) 3 3 [0, 2147483648, 1] :=
  rd_lit .u32 w [0, 2147483648, 1] 40 3 rfl (by decide) (by intro y hy; simp at hy; rcases hy with rfl | rfl | rfl <;> decide)

theorem lit_levB (w : World) : Rd .u32 (w.alloc (.cells #[.int .u32 0, .int .u32 3221225472] 40)) (some ⟨w.heap.size, 0, none⟩) 2 2 [0, 3221225472] :=
  rd_lit .u32 w [0, 3221225472] 40 2 rfl (by decide) (by intro y hy; simp at hy; rcases hy with rfl | rfl <;> decide)

set_option maxRecDepth 100000 in
set_option maxHeartbeats 8000000 in
theorem examples_any (w : World) : Calls Try.prog 3 #[] w (RetBB w true) := by
  go_enter Try.func3, Try.ntmps3
  have B0 : Below w.heap.size w w := Below.refl _ _
  go_wp2_with fail
  have c := new_any w 500
  rw [ex_new] at c
  refine c.mono ?_
  rintro e w1 ⟨a_p, n_p, c_p, b_p, m_p, d_p, rfl, h_pl_1, h_pb_1, hb⟩
  clear c
  have B1 := B0.trans (hb.mono B0.size)
  clear hb B0
  have hb := below_al w1 (.cells (polC (qN 500 0) a_p n_p c_p b_p m_p d_p) 25)
  have B2 := B1.trans (hb.mono B1.size)
  have h_pl_2 := h_pl_1.below hb
  have h_pb_2 := h_pb_1.below hb
  clear hb B1 h_pl_1 h_pb_1
  have h_p_2 := Has.new w1 (polC (qN 500 0) a_p n_p c_p b_p m_p d_p) 25
  have k_p_0 := h_p_2.cell 0 _ rfl
  have k_p_1 := h_p_2.cell 1 _ rfl
  have k_p_2 := h_p_2.cell 2 _ rfl
  have k_p_3 := h_p_2.cell 3 _ rfl
  have k_p_4 := h_p_2.cell 4 _ rfl
  have k_p_5 := h_p_2.cell 5 _ rfl
  have hb := below_al (w1.alloc (.cells (polC (qN 500 0) a_p n_p c_p b_p m_p d_p) 25)) (.cells #[.int .i64 2] 3)
  have B3 := B2.trans (hb.mono B2.size)
  have h_pl_3 := h_pl_2.below hb
  have h_pb_3 := h_pb_2.below hb
  have h_p_3 := h_p_2.later hb
  clear hb B2 h_pl_2 h_pb_2 h_p_2
  have h_li_3 := rdI_one (w1.alloc (.cells (polC (qN 500 0) a_p n_p c_p b_p m_p d_p) 25)) 2 (by unfold wide64; decide)
  simp only [World.size_alloc] at h_li_3
  go_wp2_with first | refine wpList_store_new rfl 25 _ _ rfl atPol _ _ _ rfl rfl rfl rfl (pol_one (qN 500 0) _ _ _ _ _ _) ?_
  clear k_p_0 k_p_1 k_p_2 k_p_3 k_p_4 k_p_5
  generalize ((w1.alloc (.cells (polC (qN 500 0) a_p n_p c_p b_p m_p d_p) 25)).alloc (.cells #[.int .i64 2] 3)) = w3 at *
  have c := observe_any w3 h_pl_3 h_pb_3 (qN_pw ex_b (by decide)) h_li_3
  rw [ex_obs2] at c
  refine c.mono ?_
  rintro e w4 ⟨a_a, n_a, c_a, b_a, m_a, d_a, rfl, h_al_4, h_ab_4, hb⟩
  clear c
  have B4 := B3.trans (hb.mono B3.size)
  have h_pl_4 := h_pl_3.below hb
  have h_pb_4 := h_pb_3.below hb
  have h_p_4 := h_p_3.later hb
  clear hb B3 h_pl_3 h_pb_3 h_p_3 h_li_3
  have hb := below_al w4 (.cells (polC (qN 500 1) a_a n_a c_a b_a m_a d_a) 25)
  have B5 := B4.trans (hb.mono B4.size)
  have h_pl_5 := h_pl_4.below hb
  have h_pb_5 := h_pb_4.below hb
  have h_p_5 := h_p_4.later hb
  have h_al_5 := h_al_4.below hb
  have h_ab_5 := h_ab_4.below hb
  clear hb B4 h_pl_4 h_pb_4 h_p_4 h_al_4 h_ab_4
  have h_a_5 := Has.new w4 (polC (qN 500 1) a_a n_a c_a b_a m_a d_a) 25
  have k_a_0 := h_a_5.cell 0 _ rfl
  have k_a_1 := h_a_5.cell 1 _ rfl
  have k_a_2 := h_a_5.cell 2 _ rfl
  have k_a_3 := h_a_5.cell 3 _ rfl
  have k_a_4 := h_a_5.cell 4 _ rfl
  have k_a_5 := h_a_5.cell 5 _ rfl
  have hb := below_al (w4.alloc (.cells (polC (qN 500 1) a_a n_a c_a b_a m_a d_a) 25)) (.cells #[.int .i64 0] 3)
  have B6 := B5.trans (hb.mono B5.size)
  have h_pl_6 := h_pl_5.below hb
  have h_pb_6 := h_pb_5.below hb
  have h_p_6 := h_p_5.later hb
  have h_al_6 := h_al_5.below hb
  have h_ab_6 := h_ab_5.below hb
  have h_a_6 := h_a_5.later hb
  clear hb B5 h_pl_5 h_pb_5 h_p_5 h_al_5 h_ab_5 h_a_5
  have h_li_6 := rdI_one (w4.alloc (.cells (polC (qN 500 1) a_a n_a c_a b_a m_a d_a) 25)) 0 (by unfold wide64; decide)
  simp only [World.size_alloc] at h_li_6
  go_wp2_with first | refine wpList_store_new rfl 25 _ _ rfl atPol _ _ _ rfl rfl rfl rfl (pol_one (qN 500 1) _ _ _ _ _ _) ?_
  clear k_a_0 k_a_1 k_a_2 k_a_3 k_a_4 k_a_5
  generalize ((w4.alloc (.cells (polC (qN 500 1) a_a n_a c_a b_a m_a d_a) 25)).alloc (.cells #[.int .i64 0] 3)) = w6 at *
  have c := observe_any w6 h_al_6 h_ab_6 (qN_pw ex_b (by decide)) h_li_6
  rw [ex_obs0] at c
  refine c.mono ?_
  rintro e w7 ⟨a_b, n_b, c_b, b_b, m_b, d_b, rfl, h_bl_7, h_bb_7, hb⟩
  clear c
  have B7 := B6.trans (hb.mono B6.size)
  have h_pl_7 := h_pl_6.below hb
  have h_pb_7 := h_pb_6.below hb
  have h_p_7 := h_p_6.later hb
  have h_al_7 := h_al_6.below hb
  have h_ab_7 := h_ab_6.below hb
  have h_a_7 := h_a_6.later hb
  clear hb B6 h_pl_6 h_pb_6 h_p_6 h_al_6 h_ab_6 h_a_6 h_li_6
  have hb := below_al w7 (.cells (polC pB a_b n_b c_b b_b m_b d_b) 25)
  have B8 := B7.trans (hb.mono B7.size)
  have h_pl_8 := h_pl_7.below hb
  have h_pb_8 := h_pb_7.below hb
  have h_p_8 := h_p_7.later hb
  have h_al_8 := h_al_7.below hb
  have h_ab_8 := h_ab_7.below hb
  have h_a_8 := h_a_7.later hb
  have h_bl_8 := h_bl_7.below hb
  have h_bb_8 := h_bb_7.below hb
  clear hb B7 h_pl_7 h_pb_7 h_p_7 h_al_7 h_ab_7 h_a_7 h_bl_7 h_bb_7
  have h_b_8 := Has.new w7 (polC pB a_b n_b c_b b_b m_b d_b) 25
  go_wp2_with first | refine wpList_store_new rfl 25 _ _ rfl atPol _ _ _ rfl rfl rfl rfl (pol_one pB _ _ _ _ _ _) ?_
  generalize (w7.alloc (.cells (polC pB a_b n_b c_b b_b m_b d_b) 25)) = w8 at *
  have c := new_any w8 0
  rw [ex_new0] at c
  refine c.mono ?_
  rintro e w9 ⟨a_z1, n_z1, c_z1, b_z1, m_z1, d_z1, rfl, h_z1l_9, h_z1b_9, hb⟩
  clear c
  have B9 := B8.trans (hb.mono B8.size)
  have h_pl_9 := h_pl_8.below hb
  have h_pb_9 := h_pb_8.below hb
  have h_p_9 := h_p_8.later hb
  have h_al_9 := h_al_8.below hb
  have h_ab_9 := h_ab_8.below hb
  have h_a_9 := h_a_8.later hb
  have h_bl_9 := h_bl_8.below hb
  have h_bb_9 := h_bb_8.below hb
  have h_b_9 := h_b_8.later hb
  clear hb B8 h_pl_8 h_pb_8 h_p_8 h_al_8 h_ab_8 h_a_8 h_bl_8 h_bb_8 h_b_8
  have hb := below_al w9 (.cells (polC zeroP a_z1 n_z1 c_z1 b_z1 m_z1 d_z1) 25)
  have B10 := B9.trans (hb.mono B9.size)
  have h_pl_10 := h_pl_9.below hb
  have h_pb_10 := h_pb_9.below hb
  have h_p_10 := h_p_9.later hb
  have h_al_10 := h_al_9.below hb
  have h_ab_10 := h_ab_9.below hb
  have h_a_10 := h_a_9.later hb
  have h_bl_10 := h_bl_9.below hb
  have h_bb_10 := h_bb_9.below hb
  have h_b_10 := h_b_9.later hb
  have h_z1l_10 := h_z1l_9.below hb
  have h_z1b_10 := h_z1b_9.below hb
  clear hb B9 h_pl_9 h_pb_9 h_p_9 h_al_9 h_ab_9 h_a_9 h_bl_9 h_bb_9 h_b_9 h_z1l_9 h_z1b_9
  have h_z1_10 := Has.new w9 (polC zeroP a_z1 n_z1 c_z1 b_z1 m_z1 d_z1) 25
  go_wp2_with first | refine wpList_store_new rfl 25 _ _ rfl atPol _ _ _ rfl rfl rfl rfl (pol_one zeroP _ _ _ _ _ _) ?_
  generalize (w9.alloc (.cells (polC zeroP a_z1 n_z1 c_z1 b_z1 m_z1 d_z1) 25)) = w10 at *
  have c := new_any w10 1000
  rw [ex_new1000] at c
  refine c.mono ?_
  rintro e w11 ⟨a_z2, n_z2, c_z2, b_z2, m_z2, d_z2, rfl, h_z2l_11, h_z2b_11, hb⟩
  clear c
  have B11 := B10.trans (hb.mono B10.size)
  have h_pl_11 := h_pl_10.below hb
  have h_pb_11 := h_pb_10.below hb
  have h_p_11 := h_p_10.later hb
  have h_al_11 := h_al_10.below hb
  have h_ab_11 := h_ab_10.below hb
  have h_a_11 := h_a_10.later hb
  have h_bl_11 := h_bl_10.below hb
  have h_bb_11 := h_bb_10.below hb
  have h_b_11 := h_b_10.later hb
  have h_z1l_11 := h_z1l_10.below hb
  have h_z1b_11 := h_z1b_10.below hb
  have h_z1_11 := h_z1_10.later hb
  clear hb B10 h_pl_10 h_pb_10 h_p_10 h_al_10 h_ab_10 h_a_10 h_bl_10 h_bb_10 h_b_10 h_z1l_10 h_z1b_10 h_z1_10
  have hb := below_al w11 (.cells (polC zeroP a_z2 n_z2 c_z2 b_z2 m_z2 d_z2) 25)
  have B12 := B11.trans (hb.mono B11.size)
  have h_pl_12 := h_pl_11.below hb
  have h_pb_12 := h_pb_11.below hb
  have h_p_12 := h_p_11.later hb
  have h_al_12 := h_al_11.below hb
  have h_ab_12 := h_ab_11.below hb
  have h_a_12 := h_a_11.later hb
  have h_bl_12 := h_bl_11.below hb
  have h_bb_12 := h_bb_11.below hb
  have h_b_12 := h_b_11.later hb
  have h_z1l_12 := h_z1l_11.below hb
  have h_z1b_12 := h_z1b_11.below hb
  have h_z1_12 := h_z1_11.later hb
  have h_z2l_12 := h_z2l_11.below hb
  have h_z2b_12 := h_z2b_11.below hb
  clear hb B11 h_pl_11 h_pb_11 h_p_11 h_al_11 h_ab_11 h_a_11 h_bl_11 h_bb_11 h_b_11 h_z1l_11 h_z1b_11 h_z1_11 h_z2l_11 h_z2b_11
  have h_z2_12 := Has.new w11 (polC zeroP a_z2 n_z2 c_z2 b_z2 m_z2 d_z2) 25
  have k_p_0 := h_p_12.cell 0 _ rfl
  have k_p_1 := h_p_12.cell 1 _ rfl
  have k_p_2 := h_p_12.cell 2 _ rfl
  have k_p_3 := h_p_12.cell 3 _ rfl
  have k_p_4 := h_p_12.cell 4 _ rfl
  have k_p_5 := h_p_12.cell 5 _ rfl
  have hb := below_al (w11.alloc (.cells (polC zeroP a_z2 n_z2 c_z2 b_z2 m_z2 d_z2) 25)) (.cells #[.int .i64 3] 3)
  have B13 := B12.trans (hb.mono B12.size)
  have h_pl_13 := h_pl_12.below hb
  have h_pb_13 := h_pb_12.below hb
  have h_p_13 := h_p_12.later hb
  have h_al_13 := h_al_12.below hb
  have h_ab_13 := h_ab_12.below hb
  have h_a_13 := h_a_12.later hb
  have h_bl_13 := h_bl_12.below hb
  have h_bb_13 := h_bb_12.below hb
  have h_b_13 := h_b_12.later hb
  have h_z1l_13 := h_z1l_12.below hb
  have h_z1b_13 := h_z1b_12.below hb
  have h_z1_13 := h_z1_12.later hb
  have h_z2l_13 := h_z2l_12.below hb
  have h_z2b_13 := h_z2b_12.below hb
  have h_z2_13 := h_z2_12.later hb
  clear hb B12 h_pl_12 h_pb_12 h_p_12 h_al_12 h_ab_12 h_a_12 h_bl_12 h_bb_12 h_b_12 h_z1l_12 h_z1b_12 h_z1_12 h_z2l_12 h_z2b_12 h_z2_12
  have h_li_13 := rdI_one (w11.alloc (.cells (polC zeroP a_z2 n_z2 c_z2 b_z2 m_z2 d_z2) 25)) 3 (by unfold wide64; decide)
  simp only [World.size_alloc] at h_li_13
  go_wp2_with first | refine wpList_store_new rfl 25 _ _ rfl atPol _ _ _ rfl rfl rfl rfl (pol_one zeroP _ _ _ _ _ _) ?_
  clear k_p_0 k_p_1 k_p_2 k_p_3 k_p_4 k_p_5
  generalize ((w11.alloc (.cells (polC zeroP a_z2 n_z2 c_z2 b_z2 m_z2 d_z2) 25)).alloc (.cells #[.int .i64 3] 3)) = w13 at *
  have c := observe_any w13 h_pl_13 h_pb_13 (qN_pw ex_b (by decide)) h_li_13
  rw [ex_obs3] at c
  refine c.mono ?_
  rintro e w14 ⟨a_z3, n_z3, c_z3, b_z3, m_z3, d_z3, rfl, h_z3l_14, h_z3b_14, hb⟩
  clear c
  have B14 := B13.trans (hb.mono B13.size)
  have h_pl_14 := h_pl_13.below hb
  have h_pb_14 := h_pb_13.below hb
  have h_p_14 := h_p_13.later hb
  have h_al_14 := h_al_13.below hb
  have h_ab_14 := h_ab_13.below hb
  have h_a_14 := h_a_13.later hb
  have h_bl_14 := h_bl_13.below hb
  have h_bb_14 := h_bb_13.below hb
  have h_b_14 := h_b_13.later hb
  have h_z1l_14 := h_z1l_13.below hb
  have h_z1b_14 := h_z1b_13.below hb
  have h_z1_14 := h_z1_13.later hb
  have h_z2l_14 := h_z2l_13.below hb
  have h_z2b_14 := h_z2b_13.below hb
  have h_z2_14 := h_z2_13.later hb
  clear hb B13 h_pl_13 h_pb_13 h_p_13 h_al_13 h_ab_13 h_a_13 h_bl_13 h_bb_13 h_b_13 h_z1l_13 h_z1b_13 h_z1_13 h_z2l_13 h_z2b_13 h_z2_13 h_li_13
  have hb := below_al w14 (.cells (polC zeroP a_z3 n_z3 c_z3 b_z3 m_z3 d_z3) 25)
  have B15 := B14.trans (hb.mono B14.size)
  have h_pl_15 := h_pl_14.below hb
  have h_pb_15 := h_pb_14.below hb
  have h_p_15 := h_p_14.later hb
  have h_al_15 := h_al_14.below hb
  have h_ab_15 := h_ab_14.below hb
  have h_a_15 := h_a_14.later hb
  have h_bl_15 := h_bl_14.below hb
  have h_bb_15 := h_bb_14.below hb
  have h_b_15 := h_b_14.later hb
  have h_z1l_15 := h_z1l_14.below hb
  have h_z1b_15 := h_z1b_14.below hb
  have h_z1_15 := h_z1_14.later hb
  have h_z2l_15 := h_z2l_14.below hb
  have h_z2b_15 := h_z2b_14.below hb
  have h_z2_15 := h_z2_14.later hb
  have h_z3l_15 := h_z3l_14.below hb
  have h_z3b_15 := h_z3b_14.below hb
  clear hb B14 h_pl_14 h_pb_14 h_p_14 h_al_14 h_ab_14 h_a_14 h_bl_14 h_bb_14 h_b_14 h_z1l_14 h_z1b_14 h_z1_14 h_z2l_14 h_z2b_14 h_z2_14 h_z3l_14 h_z3b_14
  have h_z3_15 := Has.new w14 (polC zeroP a_z3 n_z3 c_z3 b_z3 m_z3 d_z3) 25
  go_wp2_with first | refine wpList_store_new rfl 25 _ _ rfl atPol _ _ _ rfl rfl rfl rfl (pol_one zeroP _ _ _ _ _ _) ?_
  generalize (w14.alloc (.cells (polC zeroP a_z3 n_z3 c_z3 b_z3 m_z3 d_z3) 25)) = w15 at *
  have c := part_any w15 1 2 (by decide) (by decide) (by decide) (by decide)
  refine c.mono ?_
  rintro e w16 ⟨a_x, n_x, c_x, b_x, m_x, d_x, rfl, h_xn_16, h_xd_16, hb⟩
  clear c
  have B16 := B15.trans (hb.mono B15.size)
  have h_pl_16 := h_pl_15.below hb
  have h_pb_16 := h_pb_15.below hb
  have h_p_16 := h_p_15.later hb
  have h_al_16 := h_al_15.below hb
  have h_ab_16 := h_ab_15.below hb
  have h_a_16 := h_a_15.later hb
  have h_bl_16 := h_bl_15.below hb
  have h_bb_16 := h_bb_15.below hb
  have h_b_16 := h_b_15.later hb
  have h_z1l_16 := h_z1l_15.below hb
  have h_z1b_16 := h_z1b_15.below hb
  have h_z1_16 := h_z1_15.later hb
  have h_z2l_16 := h_z2l_15.below hb
  have h_z2b_16 := h_z2b_15.below hb
  have h_z2_16 := h_z2_15.later hb
  have h_z3l_16 := h_z3l_15.below hb
  have h_z3b_16 := h_z3b_15.below hb
  have h_z3_16 := h_z3_15.later hb
  clear hb B15 h_pl_15 h_pb_15 h_p_15 h_al_15 h_ab_15 h_a_15 h_bl_15 h_bb_15 h_b_15 h_z1l_15 h_z1b_15 h_z1_15 h_z2l_15 h_z2b_15 h_z2_15 h_z3l_15 h_z3b_15 h_z3_15
  go_wp2_with fail
  have c := sampleSize_any w16 500 (g := (ofC 1 2).1.neg) h_xn_16 h_xd_16
  rw [show (⟨(ofC 1 2).1.neg, (ofC 1 2).1.num, (ofC 1 2).1.den⟩ : QV) = (ofC 1 2).1 from rfl] at c
  rw [ex_size12] at c
  refine c.mono ?_
  rintro e w17 ⟨rfl, hb⟩
  clear c
  have B17 := B16.trans (hb.mono B16.size)
  have h_pl_17 := h_pl_16.below hb
  have h_pb_17 := h_pb_16.below hb
  have h_p_17 := h_p_16.later hb
  have h_al_17 := h_al_16.below hb
  have h_ab_17 := h_ab_16.below hb
  have h_a_17 := h_a_16.later hb
  have h_bl_17 := h_bl_16.below hb
  have h_bb_17 := h_bb_16.below hb
  have h_b_17 := h_b_16.later hb
  have h_z1l_17 := h_z1l_16.below hb
  have h_z1b_17 := h_z1b_16.below hb
  have h_z1_17 := h_z1_16.later hb
  have h_z2l_17 := h_z2l_16.below hb
  have h_z2b_17 := h_z2b_16.below hb
  have h_z2_17 := h_z2_16.later hb
  have h_z3l_17 := h_z3l_16.below hb
  have h_z3b_17 := h_z3b_16.below hb
  have h_z3_17 := h_z3_16.later hb
  clear hb B16 h_pl_16 h_pb_16 h_p_16 h_al_16 h_ab_16 h_a_16 h_bl_16 h_bb_16 h_b_16 h_z1l_16 h_z1b_16 h_z1_16 h_z2l_16 h_z2b_16 h_z2_16 h_z3l_16 h_z3b_16 h_z3_16 h_xn_16 h_xd_16
  go_wp2_with fail
  have c := part_any w17 1 1 (by decide) (by decide) (by decide) (by decide)
  refine c.mono ?_
  rintro e w18 ⟨a_x, n_x, c_x, b_x, m_x, d_x, rfl, h_xn_18, h_xd_18, hb⟩
  clear c
  have B18 := B17.trans (hb.mono B17.size)
  have h_pl_18 := h_pl_17.below hb
  have h_pb_18 := h_pb_17.below hb
  have h_p_18 := h_p_17.later hb
  have h_al_18 := h_al_17.below hb
  have h_ab_18 := h_ab_17.below hb
  have h_a_18 := h_a_17.later hb
  have h_bl_18 := h_bl_17.below hb
  have h_bb_18 := h_bb_17.below hb
  have h_b_18 := h_b_17.later hb
  have h_z1l_18 := h_z1l_17.below hb
  have h_z1b_18 := h_z1b_17.below hb
  have h_z1_18 := h_z1_17.later hb
  have h_z2l_18 := h_z2l_17.below hb
  have h_z2b_18 := h_z2b_17.below hb
  have h_z2_18 := h_z2_17.later hb
  have h_z3l_18 := h_z3l_17.below hb
  have h_z3b_18 := h_z3b_17.below hb
  have h_z3_18 := h_z3_17.later hb
  clear hb B17 h_pl_17 h_pb_17 h_p_17 h_al_17 h_ab_17 h_a_17 h_bl_17 h_bb_17 h_b_17 h_z1l_17 h_z1b_17 h_z1_17 h_z2l_17 h_z2b_17 h_z2_17 h_z3l_17 h_z3b_17 h_z3_17
  go_wp2_with fail
  have c := sampleSize_any w18 500 (g := (ofC 1 1).1.neg) h_xn_18 h_xd_18
  rw [show (⟨(ofC 1 1).1.neg, (ofC 1 1).1.num, (ofC 1 1).1.den⟩ : QV) = (ofC 1 1).1 from rfl] at c
  rw [ex_size11] at c
  refine c.mono ?_
  rintro e w19 ⟨rfl, hb⟩
  clear c
  have B19 := B18.trans (hb.mono B18.size)
  have h_pl_19 := h_pl_18.below hb
  have h_pb_19 := h_pb_18.below hb
  have h_p_19 := h_p_18.later hb
  have h_al_19 := h_al_18.below hb
  have h_ab_19 := h_ab_18.below hb
  have h_a_19 := h_a_18.later hb
  have h_bl_19 := h_bl_18.below hb
  have h_bb_19 := h_bb_18.below hb
  have h_b_19 := h_b_18.later hb
  have h_z1l_19 := h_z1l_18.below hb
  have h_z1b_19 := h_z1b_18.below hb
  have h_z1_19 := h_z1_18.later hb
  have h_z2l_19 := h_z2l_18.below hb
  have h_z2b_19 := h_z2b_18.below hb
  have h_z2_19 := h_z2_18.later hb
  have h_z3l_19 := h_z3l_18.below hb
  have h_z3b_19 := h_z3b_18.below hb
  have h_z3_19 := h_z3_18.later hb
  clear hb B18 h_pl_18 h_pb_18 h_p_18 h_al_18 h_ab_18 h_a_18 h_bl_18 h_bb_18 h_b_18 h_z1l_18 h_z1b_18 h_z1_18 h_z2l_18 h_z2b_18 h_z2_18 h_z3l_18 h_z3b_18 h_z3_18 h_xn_18 h_xd_18
  go_wp2_with fail
  have c := part_any w19 1 1000 (by decide) (by decide) (by decide) (by decide)
  refine c.mono ?_
  rintro e w20 ⟨a_x, n_x, c_x, b_x, m_x, d_x, rfl, h_xn_20, h_xd_20, hb⟩
  clear c
  have B20 := B19.trans (hb.mono B19.size)
  have h_pl_20 := h_pl_19.below hb
  have h_pb_20 := h_pb_19.below hb
  have h_p_20 := h_p_19.later hb
  have h_al_20 := h_al_19.below hb
  have h_ab_20 := h_ab_19.below hb
  have h_a_20 := h_a_19.later hb
  have h_bl_20 := h_bl_19.below hb
  have h_bb_20 := h_bb_19.below hb
  have h_b_20 := h_b_19.later hb
  have h_z1l_20 := h_z1l_19.below hb
  have h_z1b_20 := h_z1b_19.below hb
  have h_z1_20 := h_z1_19.later hb
  have h_z2l_20 := h_z2l_19.below hb
  have h_z2b_20 := h_z2b_19.below hb
  have h_z2_20 := h_z2_19.later hb
  have h_z3l_20 := h_z3l_19.below hb
  have h_z3b_20 := h_z3b_19.below hb
  have h_z3_20 := h_z3_19.later hb
  clear hb B19 h_pl_19 h_pb_19 h_p_19 h_al_19 h_ab_19 h_a_19 h_bl_19 h_bb_19 h_b_19 h_z1l_19 h_z1b_19 h_z1_19 h_z2l_19 h_z2b_19 h_z2_19 h_z3l_19 h_z3b_19 h_z3_19
  go_wp2_with fail
  have c := sampleSize_any w20 1 (g := (ofC 1 1000).1.neg) h_xn_20 h_xd_20
  rw [show (⟨(ofC 1 1000).1.neg, (ofC 1 1000).1.num, (ofC 1 1000).1.den⟩ : QV) = (ofC 1 1000).1 from rfl] at c
  rw [ex_size1] at c
  refine c.mono ?_
  rintro e w21 ⟨rfl, hb⟩
  clear c
  have B21 := B20.trans (hb.mono B20.size)
  have h_pl_21 := h_pl_20.below hb
  have h_pb_21 := h_pb_20.below hb
  have h_p_21 := h_p_20.later hb
  have h_al_21 := h_al_20.below hb
  have h_ab_21 := h_ab_20.below hb
  have h_a_21 := h_a_20.later hb
  have h_bl_21 := h_bl_20.below hb
  have h_bb_21 := h_bb_20.below hb
  have h_b_21 := h_b_20.later hb
  have h_z1l_21 := h_z1l_20.below hb
  have h_z1b_21 := h_z1b_20.below hb
  have h_z1_21 := h_z1_20.later hb
  have h_z2l_21 := h_z2l_20.below hb
  have h_z2b_21 := h_z2b_20.below hb
  have h_z2_21 := h_z2_20.later hb
  have h_z3l_21 := h_z3l_20.below hb
  have h_z3b_21 := h_z3b_20.below hb
  have h_z3_21 := h_z3_20.later hb
  clear hb B20 h_pl_20 h_pb_20 h_p_20 h_al_20 h_ab_20 h_a_20 h_bl_20 h_bb_20 h_b_20 h_z1l_20 h_z1b_20 h_z1_20 h_z2l_20 h_z2b_20 h_z2_20 h_z3l_20 h_z3b_20 h_z3_20 h_xn_20 h_xd_20
  go_wp2_with fail
  have hb := (Below.refl w21.heap.size w21).drew
  have B22 := B21.trans (hb.mono B21.size)
  have h_pl_22 := h_pl_21.below hb
  have h_pb_22 := h_pb_21.below hb
  have h_p_22 := h_p_21.later hb
  have h_al_22 := h_al_21.below hb
  have h_ab_22 := h_ab_21.below hb
  have h_a_22 := h_a_21.later hb
  have h_bl_22 := h_bl_21.below hb
  have h_bb_22 := h_bb_21.below hb
  have h_b_22 := h_b_21.later hb
  have h_z1l_22 := h_z1l_21.below hb
  have h_z1b_22 := h_z1b_21.below hb
  have h_z1_22 := h_z1_21.later hb
  have h_z2l_22 := h_z2l_21.below hb
  have h_z2b_22 := h_z2b_21.below hb
  have h_z2_22 := h_z2_21.later hb
  have h_z3l_22 := h_z3l_21.below hb
  have h_z3b_22 := h_z3b_21.below hb
  have h_z3_22 := h_z3_21.later hb
  clear hb B21 h_pl_21 h_pb_21 h_p_21 h_al_21 h_ab_21 h_a_21 h_bl_21 h_bb_21 h_b_21 h_z1l_21 h_z1b_21 h_z1_21 h_z2l_21 h_z2b_21 h_z2_21 h_z3l_21 h_z3b_21 h_z3_21
  refine wp_region_held_drew (S := (fun w' => w'.cell? ⟨w1.heap.size, 0, none⟩ = some (.int .i64 ((qN 500 0)).bet) ∧ w'.cell? ⟨w1.heap.size, 1, none⟩ = some (.int .i64 ((qN 500 0)).s0) ∧ w'.cell? ⟨w1.heap.size, 2, none⟩ = some (.int .i64 ((qN 500 0)).s1) ∧ w'.cell? ⟨w1.heap.size, 3, none⟩ = some (.int .i64 ((qN 500 0)).s2) ∧ w'.cell? ⟨w1.heap.size, 4, none⟩ = some (.slice a_p n_p c_p) ∧ w'.cell? ⟨w1.heap.size, 5, none⟩ = some (.slice b_p m_p d_p) ∧ True)) (by kernel_rfl) ?_ (fun hHeld => ?_)
  · exact ⟨h_p_22.cell 0 _ rfl, h_p_22.cell 1 _ rfl, h_p_22.cell 2 _ rfl, h_p_22.cell 3 _ rfl, h_p_22.cell 4 _ rfl, h_p_22.cell 5 _ rfl, trivial⟩
  generalize w21.drew = w22 at *
  refine wpAnyH_take (i := 0) (oi := ?oir1_0) (v := ?vr1_0) ?hir1_0 (by kernel_rfl) (by kernel_rfl) (by kernel_rfl) ?hqr1_0 ?hyr1_0 (by assumption) ?restr1_0
  case hir1_0 => simp only [List.getElem?_toArray, List.getElem?_cons_succ, List.getElem?_cons_zero]; rfl
  case hqr1_0 => exact fun _ _ _ h => h
  case hyr1_0 => (refine Or.inl ⟨by rfl, ?_⟩; intro w hSw; (try dsimp only at hSw); go_simp; all_goals with_reducible rfl)
  try simp only [Act.put, List.setIfInBounds_toArray, List.set_cons_zero, List.set_cons_succ]
  refine wpAnyH_ready (rs := [1]) (by kernel_rfl) (by simp) ?_
  refine AllReadyH.cons (o := ?or2_1) ?hor2_1 (fun K hK => ?kr2_1) AllReadyH.nil
  case hor2_1 => simp only [List.getElem?_toArray, List.getElem?_cons_succ, List.getElem?_cons_zero]; rfl
  go_simp
  have c := part_any w22 1 1 (by decide) (by decide) (by decide) (by decide)
  refine c.mono ?_
  rintro e w23 ⟨a_x, n_x, c_x, b_x, m_x, d_x, rfl, h_xn_23, h_xd_23, hb⟩
  clear c
  have B23 := B22.trans (hb.mono B22.size)
  have h_pl_23 := h_pl_22.below hb
  have h_pb_23 := h_pb_22.below hb
  have h_p_23 := h_p_22.later hb
  have h_al_23 := h_al_22.below hb
  have h_ab_23 := h_ab_22.below hb
  have h_a_23 := h_a_22.later hb
  have h_bl_23 := h_bl_22.below hb
  have h_bb_23 := h_bb_22.below hb
  have h_b_23 := h_b_22.later hb
  have h_z1l_23 := h_z1l_22.below hb
  have h_z1b_23 := h_z1b_22.below hb
  have h_z1_23 := h_z1_22.later hb
  have h_z2l_23 := h_z2l_22.below hb
  have h_z2b_23 := h_z2b_22.below hb
  have h_z2_23 := h_z2_22.later hb
  have h_z3l_23 := h_z3l_22.below hb
  have h_z3b_23 := h_z3b_22.below hb
  have h_z3_23 := h_z3_22.later hb
  clear hb B22 h_pl_22 h_pb_22 h_p_22 h_al_22 h_ab_22 h_a_22 h_bl_22 h_bb_22 h_b_22 h_z1l_22 h_z1b_22 h_z1_22 h_z2l_22 h_z2b_22 h_z2_22 h_z3l_22 h_z3b_22 h_z3_22
  go_wp2_with fail
  clear hHeld
  refine hK.out _ _ ?_ (fun hHeld => ?_)
  · exact ⟨h_p_23.cell 0 _ rfl, h_p_23.cell 1 _ rfl, h_p_23.cell 2 _ rfl, h_p_23.cell 3 _ rfl, h_p_23.cell 4 _ rfl, h_p_23.cell 5 _ rfl, trivial⟩
  clear hK K
  try simp only [Act.put, List.setIfInBounds_toArray, List.set_cons_zero, List.set_cons_succ]
  refine wpAnyH_ready (rs := [2]) (by kernel_rfl) (by simp) ?_
  refine AllReadyH.cons (o := ?or3_2) ?hor3_2 (fun K hK => ?kr3_2) AllReadyH.nil
  case hor3_2 => simp only [List.getElem?_toArray, List.getElem?_cons_succ, List.getElem?_cons_zero]; rfl
  go_simp
  have c := confirmed_any w23 h_pl_23 h_pb_23 (qN_pw ex_b (by decide)) (g := (ofC 1 1).1.neg) h_xn_23 h_xd_23
  rw [show (⟨(ofC 1 1).1.neg, (ofC 1 1).1.num, (ofC 1 1).1.den⟩ : QV) = (ofC 1 1).1 from rfl] at c
  rw [ex_conf11] at c
  refine c.mono ?_
  rintro e w24 ⟨rfl, hb⟩
  clear c
  have B24 := B23.trans (hb.mono B23.size)
  have h_pl_24 := h_pl_23.below hb
  have h_pb_24 := h_pb_23.below hb
  have h_p_24 := h_p_23.later hb
  have h_al_24 := h_al_23.below hb
  have h_ab_24 := h_ab_23.below hb
  have h_a_24 := h_a_23.later hb
  have h_bl_24 := h_bl_23.below hb
  have h_bb_24 := h_bb_23.below hb
  have h_b_24 := h_b_23.later hb
  have h_z1l_24 := h_z1l_23.below hb
  have h_z1b_24 := h_z1b_23.below hb
  have h_z1_24 := h_z1_23.later hb
  have h_z2l_24 := h_z2l_23.below hb
  have h_z2b_24 := h_z2b_23.below hb
  have h_z2_24 := h_z2_23.later hb
  have h_z3l_24 := h_z3l_23.below hb
  have h_z3b_24 := h_z3b_23.below hb
  have h_z3_24 := h_z3_23.later hb
  clear hb B23 h_pl_23 h_pb_23 h_p_23 h_al_23 h_ab_23 h_a_23 h_bl_23 h_bb_23 h_b_23 h_z1l_23 h_z1b_23 h_z1_23 h_z2l_23 h_z2b_23 h_z2_23 h_z3l_23 h_z3b_23 h_z3_23 h_xn_23 h_xd_23
  go_wp2_with fail
  clear hHeld
  refine hK.out _ _ ?_ (fun hHeld => ?_)
  · exact ⟨h_p_24.cell 0 _ rfl, h_p_24.cell 1 _ rfl, h_p_24.cell 2 _ rfl, h_p_24.cell 3 _ rfl, h_p_24.cell 4 _ rfl, h_p_24.cell 5 _ rfl, trivial⟩
  clear hK K
  try simp only [Act.put, List.setIfInBounds_toArray, List.set_cons_zero, List.set_cons_succ]
  refine wpAnyH_take (i := 3) (oi := ?oir4_3) (v := ?vr4_3) ?hir4_3 (by kernel_rfl) (by kernel_rfl) (by kernel_rfl) ?hqr4_3 ?hyr4_3 (by assumption) ?restr4_3
  case hir4_3 => simp only [List.getElem?_toArray, List.getElem?_cons_succ, List.getElem?_cons_zero]; rfl
  case hqr4_3 => exact fun _ _ _ h => h
  case hyr4_3 => (refine Or.inl ⟨by rfl, ?_⟩; intro w hSw; (try dsimp only at hSw); go_simp; all_goals with_reducible rfl)
  try simp only [Act.put, List.setIfInBounds_toArray, List.set_cons_zero, List.set_cons_succ]
  refine wpAnyH_take (i := 4) (oi := ?oir4_4) (v := ?vr4_4) ?hir4_4 (by kernel_rfl) (by kernel_rfl) (by kernel_rfl) ?hqr4_4 ?hyr4_4 (by assumption) ?restr4_4
  case hir4_4 => simp only [List.getElem?_toArray, List.getElem?_cons_succ, List.getElem?_cons_zero]; rfl
  case hqr4_4 => exact fun _ _ _ h => h
  case hyr4_4 => (refine Or.inl ⟨by rfl, ?_⟩; intro w hSw; (try dsimp only at hSw); go_simp; all_goals with_reducible rfl)
  try simp only [Act.put, List.setIfInBounds_toArray, List.set_cons_zero, List.set_cons_succ]
  refine wpAnyH_take (i := 5) (oi := ?oir4_5) (v := ?vr4_5) ?hir4_5 (by kernel_rfl) (by kernel_rfl) (by kernel_rfl) ?hqr4_5 ?hyr4_5 (by assumption) ?restr4_5
  case hir4_5 => simp only [List.getElem?_toArray, List.getElem?_cons_succ, List.getElem?_cons_zero]; rfl
  case hqr4_5 => exact fun _ _ _ h => h
  case hyr4_5 => (refine Or.inl ⟨by rfl, ?_⟩; intro w hSw; (try dsimp only at hSw); go_simp; all_goals with_reducible rfl)
  try simp only [Act.put, List.setIfInBounds_toArray, List.set_cons_zero, List.set_cons_succ]
  refine wpAnyH_take (i := 6) (oi := ?oir4_6) (v := ?vr4_6) ?hir4_6 (by kernel_rfl) (by kernel_rfl) (by kernel_rfl) ?hqr4_6 ?hyr4_6 (by assumption) ?restr4_6
  case hir4_6 => simp only [List.getElem?_toArray, List.getElem?_cons_succ, List.getElem?_cons_zero]; rfl
  case hqr4_6 => exact fun _ _ _ h => h
  case hyr4_6 => (refine Or.inl ⟨by rfl, ?_⟩; intro w hSw; (try dsimp only at hSw); go_simp; all_goals with_reducible rfl)
  try simp only [Act.put, List.setIfInBounds_toArray, List.set_cons_zero, List.set_cons_succ]
  refine wpAnyH_take (i := 7) (oi := ?oir4_7) (v := ?vr4_7) ?hir4_7 (by kernel_rfl) (by kernel_rfl) (by kernel_rfl) ?hqr4_7 ?hyr4_7 (by assumption) ?restr4_7
  case hir4_7 => simp only [List.getElem?_toArray, List.getElem?_cons_succ, List.getElem?_cons_zero]; rfl
  case hqr4_7 => exact fun _ _ _ h => h
  case hyr4_7 => (refine Or.inl ⟨by rfl, ?_⟩; intro w hSw; (try dsimp only at hSw); go_simp; all_goals with_reducible rfl)
  try simp only [Act.put, List.setIfInBounds_toArray, List.set_cons_zero, List.set_cons_succ]
  refine wpAnyH_done (by kernel_rfl) ?_ _
  clear hHeld
  go_wp2_with fail
  have hb := (Below.refl w24.heap.size w24).drew
  have B25 := B24.trans (hb.mono B24.size)
  have h_pl_25 := h_pl_24.below hb
  have h_pb_25 := h_pb_24.below hb
  have h_p_25 := h_p_24.later hb
  have h_al_25 := h_al_24.below hb
  have h_ab_25 := h_ab_24.below hb
  have h_a_25 := h_a_24.later hb
  have h_bl_25 := h_bl_24.below hb
  have h_bb_25 := h_bb_24.below hb
  have h_b_25 := h_b_24.later hb
  have h_z1l_25 := h_z1l_24.below hb
  have h_z1b_25 := h_z1b_24.below hb
  have h_z1_25 := h_z1_24.later hb
  have h_z2l_25 := h_z2l_24.below hb
  have h_z2b_25 := h_z2b_24.below hb
  have h_z2_25 := h_z2_24.later hb
  have h_z3l_25 := h_z3l_24.below hb
  have h_z3b_25 := h_z3b_24.below hb
  have h_z3_25 := h_z3_24.later hb
  clear hb B24 h_pl_24 h_pb_24 h_p_24 h_al_24 h_ab_24 h_a_24 h_bl_24 h_bb_24 h_b_24 h_z1l_24 h_z1b_24 h_z1_24 h_z2l_24 h_z2b_24 h_z2_24 h_z3l_24 h_z3b_24 h_z3_24
  refine wp_region_held_drew (S := (fun w' => w'.cell? ⟨w1.heap.size, 0, none⟩ = some (.int .i64 ((qN 500 0)).bet) ∧ w'.cell? ⟨w1.heap.size, 1, none⟩ = some (.int .i64 ((qN 500 0)).s0) ∧ w'.cell? ⟨w1.heap.size, 2, none⟩ = some (.int .i64 ((qN 500 0)).s1) ∧ w'.cell? ⟨w1.heap.size, 3, none⟩ = some (.int .i64 ((qN 500 0)).s2) ∧ w'.cell? ⟨w1.heap.size, 4, none⟩ = some (.slice a_p n_p c_p) ∧ w'.cell? ⟨w1.heap.size, 5, none⟩ = some (.slice b_p m_p d_p) ∧ True)) (by kernel_rfl) ?_ (fun hHeld => ?_)
  · exact ⟨h_p_25.cell 0 _ rfl, h_p_25.cell 1 _ rfl, h_p_25.cell 2 _ rfl, h_p_25.cell 3 _ rfl, h_p_25.cell 4 _ rfl, h_p_25.cell 5 _ rfl, trivial⟩
  generalize w24.drew = w25 at *
  refine wpAnyH_take (i := 0) (oi := ?oir5_0) (v := ?vr5_0) ?hir5_0 (by kernel_rfl) (by kernel_rfl) (by kernel_rfl) ?hqr5_0 ?hyr5_0 (by assumption) ?restr5_0
  case hir5_0 => simp only [List.getElem?_toArray, List.getElem?_cons_succ, List.getElem?_cons_zero]; rfl
  case hqr5_0 => exact fun _ _ _ h => h
  case hyr5_0 => (refine Or.inl ⟨by rfl, ?_⟩; intro w hSw; (try dsimp only at hSw); go_simp; all_goals with_reducible rfl)
  try simp only [Act.put, List.setIfInBounds_toArray, List.set_cons_zero, List.set_cons_succ]
  refine wpAnyH_ready (rs := [1]) (by kernel_rfl) (by simp) ?_
  refine AllReadyH.cons (o := ?or6_1) ?hor6_1 (fun K hK => ?kr6_1) AllReadyH.nil
  case hor6_1 => simp only [List.getElem?_toArray, List.getElem?_cons_succ, List.getElem?_cons_zero]; rfl
  go_simp
  have c := part_any w25 1 2 (by decide) (by decide) (by decide) (by decide)
  refine c.mono ?_
  rintro e w26 ⟨a_x, n_x, c_x, b_x, m_x, d_x, rfl, h_xn_26, h_xd_26, hb⟩
  clear c
  have B26 := B25.trans (hb.mono B25.size)
  have h_pl_26 := h_pl_25.below hb
  have h_pb_26 := h_pb_25.below hb
  have h_p_26 := h_p_25.later hb
  have h_al_26 := h_al_25.below hb
  have h_ab_26 := h_ab_25.below hb
  have h_a_26 := h_a_25.later hb
  have h_bl_26 := h_bl_25.below hb
  have h_bb_26 := h_bb_25.below hb
  have h_b_26 := h_b_25.later hb
  have h_z1l_26 := h_z1l_25.below hb
  have h_z1b_26 := h_z1b_25.below hb
  have h_z1_26 := h_z1_25.later hb
  have h_z2l_26 := h_z2l_25.below hb
  have h_z2b_26 := h_z2b_25.below hb
  have h_z2_26 := h_z2_25.later hb
  have h_z3l_26 := h_z3l_25.below hb
  have h_z3b_26 := h_z3b_25.below hb
  have h_z3_26 := h_z3_25.later hb
  clear hb B25 h_pl_25 h_pb_25 h_p_25 h_al_25 h_ab_25 h_a_25 h_bl_25 h_bb_25 h_b_25 h_z1l_25 h_z1b_25 h_z1_25 h_z2l_25 h_z2b_25 h_z2_25 h_z3l_25 h_z3b_25 h_z3_25
  go_wp2_with fail
  clear hHeld
  refine hK.out _ _ ?_ (fun hHeld => ?_)
  · exact ⟨h_p_26.cell 0 _ rfl, h_p_26.cell 1 _ rfl, h_p_26.cell 2 _ rfl, h_p_26.cell 3 _ rfl, h_p_26.cell 4 _ rfl, h_p_26.cell 5 _ rfl, trivial⟩
  clear hK K
  try simp only [Act.put, List.setIfInBounds_toArray, List.set_cons_zero, List.set_cons_succ]
  refine wpAnyH_ready (rs := [2]) (by kernel_rfl) (by simp) ?_
  refine AllReadyH.cons (o := ?or7_2) ?hor7_2 (fun K hK => ?kr7_2) AllReadyH.nil
  case hor7_2 => simp only [List.getElem?_toArray, List.getElem?_cons_succ, List.getElem?_cons_zero]; rfl
  go_simp
  have c := confirmed_any w26 h_pl_26 h_pb_26 (qN_pw ex_b (by decide)) (g := (ofC 1 2).1.neg) h_xn_26 h_xd_26
  rw [show (⟨(ofC 1 2).1.neg, (ofC 1 2).1.num, (ofC 1 2).1.den⟩ : QV) = (ofC 1 2).1 from rfl] at c
  rw [ex_conf12] at c
  refine c.mono ?_
  rintro e w27 ⟨rfl, hb⟩
  clear c
  have B27 := B26.trans (hb.mono B26.size)
  have h_pl_27 := h_pl_26.below hb
  have h_pb_27 := h_pb_26.below hb
  have h_p_27 := h_p_26.later hb
  have h_al_27 := h_al_26.below hb
  have h_ab_27 := h_ab_26.below hb
  have h_a_27 := h_a_26.later hb
  have h_bl_27 := h_bl_26.below hb
  have h_bb_27 := h_bb_26.below hb
  have h_b_27 := h_b_26.later hb
  have h_z1l_27 := h_z1l_26.below hb
  have h_z1b_27 := h_z1b_26.below hb
  have h_z1_27 := h_z1_26.later hb
  have h_z2l_27 := h_z2l_26.below hb
  have h_z2b_27 := h_z2b_26.below hb
  have h_z2_27 := h_z2_26.later hb
  have h_z3l_27 := h_z3l_26.below hb
  have h_z3b_27 := h_z3b_26.below hb
  have h_z3_27 := h_z3_26.later hb
  clear hb B26 h_pl_26 h_pb_26 h_p_26 h_al_26 h_ab_26 h_a_26 h_bl_26 h_bb_26 h_b_26 h_z1l_26 h_z1b_26 h_z1_26 h_z2l_26 h_z2b_26 h_z2_26 h_z3l_26 h_z3b_26 h_z3_26 h_xn_26 h_xd_26
  go_wp2_with fail
  clear hHeld
  refine hK.out _ _ ?_ (fun hHeld => ?_)
  · exact ⟨h_p_27.cell 0 _ rfl, h_p_27.cell 1 _ rfl, h_p_27.cell 2 _ rfl, h_p_27.cell 3 _ rfl, h_p_27.cell 4 _ rfl, h_p_27.cell 5 _ rfl, trivial⟩
  clear hK K
  try simp only [Act.put, List.setIfInBounds_toArray, List.set_cons_zero, List.set_cons_succ]
  refine wpAnyH_take (i := 3) (oi := ?oir8_3) (v := ?vr8_3) ?hir8_3 (by kernel_rfl) (by kernel_rfl) (by kernel_rfl) ?hqr8_3 ?hyr8_3 (by assumption) ?restr8_3
  case hir8_3 => simp only [List.getElem?_toArray, List.getElem?_cons_succ, List.getElem?_cons_zero]; rfl
  case hqr8_3 => exact fun _ _ _ h => h
  case hyr8_3 => (refine Or.inl ⟨by rfl, ?_⟩; intro w hSw; (try dsimp only at hSw); go_simp; all_goals with_reducible rfl)
  try simp only [Act.put, List.setIfInBounds_toArray, List.set_cons_zero, List.set_cons_succ]
  refine wpAnyH_take (i := 4) (oi := ?oir8_4) (v := ?vr8_4) ?hir8_4 (by kernel_rfl) (by kernel_rfl) (by kernel_rfl) ?hqr8_4 ?hyr8_4 (by assumption) ?restr8_4
  case hir8_4 => simp only [List.getElem?_toArray, List.getElem?_cons_succ, List.getElem?_cons_zero]; rfl
  case hqr8_4 => exact fun _ _ _ h => h
  case hyr8_4 => (refine Or.inl ⟨by rfl, ?_⟩; intro w hSw; (try dsimp only at hSw); go_simp; all_goals with_reducible rfl)
  try simp only [Act.put, List.setIfInBounds_toArray, List.set_cons_zero, List.set_cons_succ]
  refine wpAnyH_take (i := 5) (oi := ?oir8_5) (v := ?vr8_5) ?hir8_5 (by kernel_rfl) (by kernel_rfl) (by kernel_rfl) ?hqr8_5 ?hyr8_5 (by assumption) ?restr8_5
  case hir8_5 => simp only [List.getElem?_toArray, List.getElem?_cons_succ, List.getElem?_cons_zero]; rfl
  case hqr8_5 => exact fun _ _ _ h => h
  case hyr8_5 => (refine Or.inl ⟨by rfl, ?_⟩; intro w hSw; (try dsimp only at hSw); go_simp; all_goals with_reducible rfl)
  try simp only [Act.put, List.setIfInBounds_toArray, List.set_cons_zero, List.set_cons_succ]
  refine wpAnyH_take (i := 6) (oi := ?oir8_6) (v := ?vr8_6) ?hir8_6 (by kernel_rfl) (by kernel_rfl) (by kernel_rfl) ?hqr8_6 ?hyr8_6 (by assumption) ?restr8_6
  case hir8_6 => simp only [List.getElem?_toArray, List.getElem?_cons_succ, List.getElem?_cons_zero]; rfl
  case hqr8_6 => exact fun _ _ _ h => h
  case hyr8_6 => (refine Or.inl ⟨by rfl, ?_⟩; intro w hSw; (try dsimp only at hSw); go_simp; all_goals with_reducible rfl)
  try simp only [Act.put, List.setIfInBounds_toArray, List.set_cons_zero, List.set_cons_succ]
  refine wpAnyH_take (i := 7) (oi := ?oir8_7) (v := ?vr8_7) ?hir8_7 (by kernel_rfl) (by kernel_rfl) (by kernel_rfl) ?hqr8_7 ?hyr8_7 (by assumption) ?restr8_7
  case hir8_7 => simp only [List.getElem?_toArray, List.getElem?_cons_succ, List.getElem?_cons_zero]; rfl
  case hqr8_7 => exact fun _ _ _ h => h
  case hyr8_7 => (refine Or.inl ⟨by rfl, ?_⟩; intro w hSw; (try dsimp only at hSw); go_simp; all_goals with_reducible rfl)
  try simp only [Act.put, List.setIfInBounds_toArray, List.set_cons_zero, List.set_cons_succ]
  refine wpAnyH_done (by kernel_rfl) ?_ _
  clear hHeld
  have k_a_0 := h_a_27.cell 0 _ rfl
  have k_a_1 := h_a_27.cell 1 _ rfl
  have k_a_2 := h_a_27.cell 2 _ rfl
  have k_a_3 := h_a_27.cell 3 _ rfl
  have k_a_4 := h_a_27.cell 4 _ rfl
  have k_a_5 := h_a_27.cell 5 _ rfl
  go_wp2_with fail
  clear k_a_0 k_a_1 k_a_2 k_a_3 k_a_4 k_a_5
  have c := risk_any w27 h_al_27 h_ab_27 (qN_pw ex_b (by decide))
  rw [ex_risk] at c
  refine c.mono ?_
  rintro e w28 ⟨a_r, n_r, c_r, b_r, m_r, d_r, rfl, h_rn_28, h_rd_28, hb⟩
  clear c
  have B28 := B27.trans (hb.mono B27.size)
  have h_pl_28 := h_pl_27.below hb
  have h_pb_28 := h_pb_27.below hb
  have h_p_28 := h_p_27.later hb
  have h_al_28 := h_al_27.below hb
  have h_ab_28 := h_ab_27.below hb
  have h_a_28 := h_a_27.later hb
  have h_bl_28 := h_bl_27.below hb
  have h_bb_28 := h_bb_27.below hb
  have h_b_28 := h_b_27.later hb
  have h_z1l_28 := h_z1l_27.below hb
  have h_z1b_28 := h_z1b_27.below hb
  have h_z1_28 := h_z1_27.later hb
  have h_z2l_28 := h_z2l_27.below hb
  have h_z2b_28 := h_z2b_27.below hb
  have h_z2_28 := h_z2_27.later hb
  have h_z3l_28 := h_z3l_27.below hb
  have h_z3b_28 := h_z3b_27.below hb
  have h_z3_28 := h_z3_27.later hb
  clear hb B27 h_pl_27 h_pb_27 h_p_27 h_al_27 h_ab_27 h_a_27 h_bl_27 h_bb_27 h_b_27 h_z1l_27 h_z1b_27 h_z1_27 h_z2l_27 h_z2b_27 h_z2_27 h_z3l_27 h_z3b_27 h_z3_27
  have hb := below_al w28 (.cells #[.bool ((ofC 2 3).1).neg, .slice a_r n_r c_r, .slice b_r m_r d_r] 33)
  have B29 := B28.trans (hb.mono B28.size)
  have h_pl_29 := h_pl_28.below hb
  have h_pb_29 := h_pb_28.below hb
  have h_p_29 := h_p_28.later hb
  have h_al_29 := h_al_28.below hb
  have h_ab_29 := h_ab_28.below hb
  have h_a_29 := h_a_28.later hb
  have h_bl_29 := h_bl_28.below hb
  have h_bb_29 := h_bb_28.below hb
  have h_b_29 := h_b_28.later hb
  have h_z1l_29 := h_z1l_28.below hb
  have h_z1b_29 := h_z1b_28.below hb
  have h_z1_29 := h_z1_28.later hb
  have h_z2l_29 := h_z2l_28.below hb
  have h_z2b_29 := h_z2b_28.below hb
  have h_z2_29 := h_z2_28.later hb
  have h_z3l_29 := h_z3l_28.below hb
  have h_z3b_29 := h_z3b_28.below hb
  have h_z3_29 := h_z3_28.later hb
  have h_rn_29 := h_rn_28.below hb
  have h_rd_29 := h_rd_28.below hb
  clear hb B28 h_pl_28 h_pb_28 h_p_28 h_al_28 h_ab_28 h_a_28 h_bl_28 h_bb_28 h_b_28 h_z1l_28 h_z1b_28 h_z1_28 h_z2l_28 h_z2b_28 h_z2_28 h_z3l_28 h_z3b_28 h_z3_28 h_rn_28 h_rd_28
  have h_r_29 := Has.new w28 #[.bool ((ofC 2 3).1).neg, .slice a_r n_r c_r, .slice b_r m_r d_r] 33
  have k_p_4 := h_p_29.cell 4 _ rfl
  have hb := below_al (w28.alloc (.cells #[.bool ((ofC 2 3).1).neg, .slice a_r n_r c_r, .slice b_r m_r d_r] 33)) (.cells #[.int .u32 0, .int .u32 0, .int .u32 1] 40)
  have B30 := B29.trans (hb.mono B29.size)
  have h_pl_30 := h_pl_29.below hb
  have h_pb_30 := h_pb_29.below hb
  have h_p_30 := h_p_29.later hb
  have h_al_30 := h_al_29.below hb
  have h_ab_30 := h_ab_29.below hb
  have h_a_30 := h_a_29.later hb
  have h_bl_30 := h_bl_29.below hb
  have h_bb_30 := h_bb_29.below hb
  have h_b_30 := h_b_29.later hb
  have h_z1l_30 := h_z1l_29.below hb
  have h_z1b_30 := h_z1b_29.below hb
  have h_z1_30 := h_z1_29.later hb
  have h_z2l_30 := h_z2l_29.below hb
  have h_z2b_30 := h_z2b_29.below hb
  have h_z2_30 := h_z2_29.later hb
  have h_z3l_30 := h_z3l_29.below hb
  have h_z3b_30 := h_z3b_29.below hb
  have h_z3_30 := h_z3_29.later hb
  have h_rn_30 := h_rn_29.below hb
  have h_rd_30 := h_rd_29.below hb
  have h_r_30 := h_r_29.later hb
  clear hb B29 h_pl_29 h_pb_29 h_p_29 h_al_29 h_ab_29 h_a_29 h_bl_29 h_bb_29 h_b_29 h_z1l_29 h_z1b_29 h_z1_29 h_z2l_29 h_z2b_29 h_z2_29 h_z3l_29 h_z3b_29 h_z3_29 h_rn_29 h_rd_29 h_r_29
  have h_l_30 := lit_three (w28.alloc (.cells #[.bool ((ofC 2 3).1).neg, .slice a_r n_r c_r, .slice b_r m_r d_r] 33))
  simp only [World.size_alloc] at h_l_30
  go_wp2_with first | refine wpList_store_new rfl 33 _ _ rfl atRat _ _ _ rfl rfl rfl rfl (rat_one _ _ _ _ _ _ _) ?_
  clear k_p_4
  generalize ((w28.alloc (.cells #[.bool ((ofC 2 3).1).neg, .slice a_r n_r c_r, .slice b_r m_r d_r] 33)).alloc (.cells #[.int .u32 0, .int .u32 0, .int .u32 1] 40)) = w30 at *
  have c := refSame_any w30 h_pl_30 h_l_30
  rw [ex_lev0] at c
  refine c.mono ?_
  rintro e w31 ⟨rfl, nq, rfl⟩
  clear c
  have hb := below_drewN (Below.refl w30.heap.size w30) nq
  have B31 := B30.trans (hb.mono B30.size)
  have h_pl_31 := h_pl_30.below hb
  have h_pb_31 := h_pb_30.below hb
  have h_p_31 := h_p_30.later hb
  have h_al_31 := h_al_30.below hb
  have h_ab_31 := h_ab_30.below hb
  have h_a_31 := h_a_30.later hb
  have h_bl_31 := h_bl_30.below hb
  have h_bb_31 := h_bb_30.below hb
  have h_b_31 := h_b_30.later hb
  have h_z1l_31 := h_z1l_30.below hb
  have h_z1b_31 := h_z1b_30.below hb
  have h_z1_31 := h_z1_30.later hb
  have h_z2l_31 := h_z2l_30.below hb
  have h_z2b_31 := h_z2b_30.below hb
  have h_z2_31 := h_z2_30.later hb
  have h_z3l_31 := h_z3l_30.below hb
  have h_z3b_31 := h_z3b_30.below hb
  have h_z3_31 := h_z3_30.later hb
  have h_rn_31 := h_rn_30.below hb
  have h_rd_31 := h_rd_30.below hb
  have h_r_31 := h_r_30.later hb
  clear hb B30 h_pl_30 h_pb_30 h_p_30 h_al_30 h_ab_30 h_a_30 h_bl_30 h_bb_30 h_b_30 h_z1l_30 h_z1b_30 h_z1_30 h_z2l_30 h_z2b_30 h_z2_30 h_z3l_30 h_z3b_30 h_z3_30 h_rn_30 h_rd_30 h_r_30 h_l_30
  generalize w30.drewN nq = w31 at *
  have k_a_4 := h_a_31.cell 4 _ rfl
  have hb := below_al w31 (.cells #[.int .u32 0, .int .u32 2147483648, .int .u32 1] 40)
  have B32 := B31.trans (hb.mono B31.size)
  have h_pl_32 := h_pl_31.below hb
  have h_pb_32 := h_pb_31.below hb
  have h_p_32 := h_p_31.later hb
  have h_al_32 := h_al_31.below hb
  have h_ab_32 := h_ab_31.below hb
  have h_a_32 := h_a_31.later hb
  have h_bl_32 := h_bl_31.below hb
  have h_bb_32 := h_bb_31.below hb
  have h_b_32 := h_b_31.later hb
  have h_z1l_32 := h_z1l_31.below hb
  have h_z1b_32 := h_z1b_31.below hb
  have h_z1_32 := h_z1_31.later hb
  have h_z2l_32 := h_z2l_31.below hb
  have h_z2b_32 := h_z2b_31.below hb
  have h_z2_32 := h_z2_31.later hb
  have h_z3l_32 := h_z3l_31.below hb
  have h_z3b_32 := h_z3b_31.below hb
  have h_z3_32 := h_z3_31.later hb
  have h_rn_32 := h_rn_31.below hb
  have h_rd_32 := h_rd_31.below hb
  have h_r_32 := h_r_31.later hb
  clear hb B31 h_pl_31 h_pb_31 h_p_31 h_al_31 h_ab_31 h_a_31 h_bl_31 h_bb_31 h_b_31 h_z1l_31 h_z1b_31 h_z1_31 h_z2l_31 h_z2b_31 h_z2_31 h_z3l_31 h_z3b_31 h_z3_31 h_rn_31 h_rd_31 h_r_31
  have h_l_32 := lit_lev1 w31
  go_wp2_with fail
  clear k_a_4
  generalize (w31.alloc (.cells #[.int .u32 0, .int .u32 2147483648, .int .u32 1] 40)) = w32 at *
  have c := refSame_any w32 h_al_32 h_l_32
  rw [ex_lev1] at c
  refine c.mono ?_
  rintro e w33 ⟨rfl, nq, rfl⟩
  clear c
  have hb := below_drewN (Below.refl w32.heap.size w32) nq
  have B33 := B32.trans (hb.mono B32.size)
  have h_pl_33 := h_pl_32.below hb
  have h_pb_33 := h_pb_32.below hb
  have h_p_33 := h_p_32.later hb
  have h_al_33 := h_al_32.below hb
  have h_ab_33 := h_ab_32.below hb
  have h_a_33 := h_a_32.later hb
  have h_bl_33 := h_bl_32.below hb
  have h_bb_33 := h_bb_32.below hb
  have h_b_33 := h_b_32.later hb
  have h_z1l_33 := h_z1l_32.below hb
  have h_z1b_33 := h_z1b_32.below hb
  have h_z1_33 := h_z1_32.later hb
  have h_z2l_33 := h_z2l_32.below hb
  have h_z2b_33 := h_z2b_32.below hb
  have h_z2_33 := h_z2_32.later hb
  have h_z3l_33 := h_z3l_32.below hb
  have h_z3b_33 := h_z3b_32.below hb
  have h_z3_33 := h_z3_32.later hb
  have h_rn_33 := h_rn_32.below hb
  have h_rd_33 := h_rd_32.below hb
  have h_r_33 := h_r_32.later hb
  clear hb B32 h_pl_32 h_pb_32 h_p_32 h_al_32 h_ab_32 h_a_32 h_bl_32 h_bb_32 h_b_32 h_z1l_32 h_z1b_32 h_z1_32 h_z2l_32 h_z2b_32 h_z2_32 h_z3l_32 h_z3b_32 h_z3_32 h_rn_32 h_rd_32 h_r_32 h_l_32
  generalize w32.drewN nq = w33 at *
  have k_b_4 := h_b_33.cell 4 _ rfl
  have hb := below_al w33 (.cells #[.int .u32 0, .int .u32 3221225472] 40)
  have B34 := B33.trans (hb.mono B33.size)
  have h_pl_34 := h_pl_33.below hb
  have h_pb_34 := h_pb_33.below hb
  have h_p_34 := h_p_33.later hb
  have h_al_34 := h_al_33.below hb
  have h_ab_34 := h_ab_33.below hb
  have h_a_34 := h_a_33.later hb
  have h_bl_34 := h_bl_33.below hb
  have h_bb_34 := h_bb_33.below hb
  have h_b_34 := h_b_33.later hb
  have h_z1l_34 := h_z1l_33.below hb
  have h_z1b_34 := h_z1b_33.below hb
  have h_z1_34 := h_z1_33.later hb
  have h_z2l_34 := h_z2l_33.below hb
  have h_z2b_34 := h_z2b_33.below hb
  have h_z2_34 := h_z2_33.later hb
  have h_z3l_34 := h_z3l_33.below hb
  have h_z3b_34 := h_z3b_33.below hb
  have h_z3_34 := h_z3_33.later hb
  have h_rn_34 := h_rn_33.below hb
  have h_rd_34 := h_rd_33.below hb
  have h_r_34 := h_r_33.later hb
  clear hb B33 h_pl_33 h_pb_33 h_p_33 h_al_33 h_ab_33 h_a_33 h_bl_33 h_bb_33 h_b_33 h_z1l_33 h_z1b_33 h_z1_33 h_z2l_33 h_z2b_33 h_z2_33 h_z3l_33 h_z3b_33 h_z3_33 h_rn_33 h_rd_33 h_r_33
  have h_l_34 := lit_levB w33
  go_wp2_with fail
  clear k_b_4
  generalize (w33.alloc (.cells #[.int .u32 0, .int .u32 3221225472] 40)) = w34 at *
  have c := refSame_any w34 h_bl_34 h_l_34
  rw [ex_levB] at c
  refine c.mono ?_
  rintro e w35 ⟨rfl, nq, rfl⟩
  clear c
  have hb := below_drewN (Below.refl w34.heap.size w34) nq
  have B35 := B34.trans (hb.mono B34.size)
  have h_pl_35 := h_pl_34.below hb
  have h_pb_35 := h_pb_34.below hb
  have h_p_35 := h_p_34.later hb
  have h_al_35 := h_al_34.below hb
  have h_ab_35 := h_ab_34.below hb
  have h_a_35 := h_a_34.later hb
  have h_bl_35 := h_bl_34.below hb
  have h_bb_35 := h_bb_34.below hb
  have h_b_35 := h_b_34.later hb
  have h_z1l_35 := h_z1l_34.below hb
  have h_z1b_35 := h_z1b_34.below hb
  have h_z1_35 := h_z1_34.later hb
  have h_z2l_35 := h_z2l_34.below hb
  have h_z2b_35 := h_z2b_34.below hb
  have h_z2_35 := h_z2_34.later hb
  have h_z3l_35 := h_z3l_34.below hb
  have h_z3b_35 := h_z3b_34.below hb
  have h_z3_35 := h_z3_34.later hb
  have h_rn_35 := h_rn_34.below hb
  have h_rd_35 := h_rd_34.below hb
  have h_r_35 := h_r_34.later hb
  clear hb B34 h_pl_34 h_pb_34 h_p_34 h_al_34 h_ab_34 h_a_34 h_bl_34 h_bb_34 h_b_34 h_z1l_34 h_z1b_34 h_z1_34 h_z2l_34 h_z2b_34 h_z2_34 h_z3l_34 h_z3b_34 h_z3_34 h_rn_34 h_rd_34 h_r_34 h_l_34
  generalize w34.drewN nq = w35 at *
  have k_b_5 := h_b_35.cell 5 _ rfl
  have k_a_4 := h_a_35.cell 4 _ rfl
  go_wp2_with fail
  clear k_b_5 k_a_4
  have c := refSame_any w35 h_bb_35 h_al_35
  rw [ex_best] at c
  refine c.mono ?_
  rintro e w36 ⟨rfl, nq, rfl⟩
  clear c
  have hb := below_drewN (Below.refl w35.heap.size w35) nq
  have B36 := B35.trans (hb.mono B35.size)
  have h_pl_36 := h_pl_35.below hb
  have h_pb_36 := h_pb_35.below hb
  have h_p_36 := h_p_35.later hb
  have h_al_36 := h_al_35.below hb
  have h_ab_36 := h_ab_35.below hb
  have h_a_36 := h_a_35.later hb
  have h_bl_36 := h_bl_35.below hb
  have h_bb_36 := h_bb_35.below hb
  have h_b_36 := h_b_35.later hb
  have h_z1l_36 := h_z1l_35.below hb
  have h_z1b_36 := h_z1b_35.below hb
  have h_z1_36 := h_z1_35.later hb
  have h_z2l_36 := h_z2l_35.below hb
  have h_z2b_36 := h_z2b_35.below hb
  have h_z2_36 := h_z2_35.later hb
  have h_z3l_36 := h_z3l_35.below hb
  have h_z3b_36 := h_z3b_35.below hb
  have h_z3_36 := h_z3_35.later hb
  have h_rn_36 := h_rn_35.below hb
  have h_rd_36 := h_rd_35.below hb
  have h_r_36 := h_r_35.later hb
  clear hb B35 h_pl_35 h_pb_35 h_p_35 h_al_35 h_ab_35 h_a_35 h_bl_35 h_bb_35 h_b_35 h_z1l_35 h_z1b_35 h_z1_35 h_z2l_35 h_z2b_35 h_z2_35 h_z3l_35 h_z3b_35 h_z3_35 h_rn_35 h_rd_35 h_r_35
  generalize w35.drewN nq = w36 at *
  go_wp2_with fail
  have q1 : ∀ w, (Op.equalIn 10000 22 (.agg #[.int .i64 (qN 500 1).s0, .int .i64 (qN 500 1).s1, .int .i64 (qN 500 1).s2]) (.agg #[.int .i64 0, .int .i64 0, .int .i64 1])).run Try.prog w = .ok true w := fun w => by rw [eqSeen]; rfl
  have q2 : ∀ w, (Op.equalIn 10000 22 (.agg #[.int .i64 pB.s0, .int .i64 pB.s1, .int .i64 pB.s2]) (.agg #[.int .i64 1, .int .i64 0, .int .i64 1])).run Try.prog w = .ok true w := fun w => by rw [eqSeen]; rfl
  have hb := (Below.refl w36.heap.size w36).drew
  have B37 := B36.trans (hb.mono B36.size)
  have h_pl_37 := h_pl_36.below hb
  have h_pb_37 := h_pb_36.below hb
  have h_p_37 := h_p_36.later hb
  have h_al_37 := h_al_36.below hb
  have h_ab_37 := h_ab_36.below hb
  have h_a_37 := h_a_36.later hb
  have h_bl_37 := h_bl_36.below hb
  have h_bb_37 := h_bb_36.below hb
  have h_b_37 := h_b_36.later hb
  have h_z1l_37 := h_z1l_36.below hb
  have h_z1b_37 := h_z1b_36.below hb
  have h_z1_37 := h_z1_36.later hb
  have h_z2l_37 := h_z2l_36.below hb
  have h_z2b_37 := h_z2b_36.below hb
  have h_z2_37 := h_z2_36.later hb
  have h_z3l_37 := h_z3l_36.below hb
  have h_z3b_37 := h_z3b_36.below hb
  have h_z3_37 := h_z3_36.later hb
  have h_rn_37 := h_rn_36.below hb
  have h_rd_37 := h_rd_36.below hb
  have h_r_37 := h_r_36.later hb
  clear hb B36 h_pl_36 h_pb_36 h_p_36 h_al_36 h_ab_36 h_a_36 h_bl_36 h_bb_36 h_b_36 h_z1l_36 h_z1b_36 h_z1_36 h_z2l_36 h_z2b_36 h_z2_36 h_z3l_36 h_z3b_36 h_z3_36 h_rn_36 h_rd_36 h_r_36
  refine wp_region_held_drew (S := (fun w' => w'.cell? ⟨w1.heap.size, 0, none⟩ = some (.int .i64 ((qN 500 0)).bet) ∧ w'.cell? ⟨w1.heap.size, 1, none⟩ = some (.int .i64 ((qN 500 0)).s0) ∧ w'.cell? ⟨w1.heap.size, 2, none⟩ = some (.int .i64 ((qN 500 0)).s1) ∧ w'.cell? ⟨w1.heap.size, 3, none⟩ = some (.int .i64 ((qN 500 0)).s2) ∧ w'.cell? ⟨w1.heap.size, 4, none⟩ = some (.slice a_p n_p c_p) ∧ w'.cell? ⟨w1.heap.size, 5, none⟩ = some (.slice b_p m_p d_p) ∧ w'.cell? ⟨w4.heap.size, 0, none⟩ = some (.int .i64 ((qN 500 1)).bet) ∧ w'.cell? ⟨w4.heap.size, 1, none⟩ = some (.int .i64 ((qN 500 1)).s0) ∧ w'.cell? ⟨w4.heap.size, 2, none⟩ = some (.int .i64 ((qN 500 1)).s1) ∧ w'.cell? ⟨w4.heap.size, 3, none⟩ = some (.int .i64 ((qN 500 1)).s2) ∧ w'.cell? ⟨w4.heap.size, 4, none⟩ = some (.slice a_a n_a c_a) ∧ w'.cell? ⟨w4.heap.size, 5, none⟩ = some (.slice b_a m_a d_a) ∧ w'.cell? ⟨w7.heap.size, 0, none⟩ = some (.int .i64 (pB).bet) ∧ w'.cell? ⟨w7.heap.size, 1, none⟩ = some (.int .i64 (pB).s0) ∧ w'.cell? ⟨w7.heap.size, 2, none⟩ = some (.int .i64 (pB).s1) ∧ w'.cell? ⟨w7.heap.size, 3, none⟩ = some (.int .i64 (pB).s2) ∧ w'.cell? ⟨w7.heap.size, 4, none⟩ = some (.slice a_b n_b c_b) ∧ w'.cell? ⟨w7.heap.size, 5, none⟩ = some (.slice b_b m_b d_b) ∧ w'.cell? ⟨w28.heap.size, 0, none⟩ = some (.bool ((ofC 2 3).1).neg) ∧ w'.cell? ⟨w28.heap.size, 1, none⟩ = some (.slice a_r n_r c_r) ∧ w'.cell? ⟨w28.heap.size, 2, none⟩ = some (.slice b_r m_r d_r) ∧ True)) (by kernel_rfl) ?_ (fun hHeld => ?_)
  · exact ⟨h_p_37.cell 0 _ rfl, h_p_37.cell 1 _ rfl, h_p_37.cell 2 _ rfl, h_p_37.cell 3 _ rfl, h_p_37.cell 4 _ rfl, h_p_37.cell 5 _ rfl, h_a_37.cell 0 _ rfl, h_a_37.cell 1 _ rfl, h_a_37.cell 2 _ rfl, h_a_37.cell 3 _ rfl, h_a_37.cell 4 _ rfl, h_a_37.cell 5 _ rfl, h_b_37.cell 0 _ rfl, h_b_37.cell 1 _ rfl, h_b_37.cell 2 _ rfl, h_b_37.cell 3 _ rfl, h_b_37.cell 4 _ rfl, h_b_37.cell 5 _ rfl, h_r_37.cell 0 _ rfl, h_r_37.cell 1 _ rfl, h_r_37.cell 2 _ rfl, trivial⟩
  generalize w36.drew = w37 at *
  refine wpAnyH_take (i := 0) (oi := ?oir9_0) (v := ?vr9_0) ?hir9_0 (by kernel_rfl) (by kernel_rfl) (by kernel_rfl) ?hqr9_0 ?hyr9_0 (by assumption) ?restr9_0
  case hir9_0 => simp only [List.getElem?_toArray, List.getElem?_cons_succ, List.getElem?_cons_zero]; rfl
  case hqr9_0 => exact fun _ _ _ h => h
  case hyr9_0 => (refine Or.inl ⟨by rfl, ?_⟩; intro w hSw; (try dsimp only at hSw); go_simp; all_goals with_reducible rfl)
  try simp only [Act.put, List.setIfInBounds_toArray, List.set_cons_zero, List.set_cons_succ]
  refine wpAnyH_take (i := 1) (oi := ?oir9_1) (v := ?vr9_1) ?hir9_1 (by kernel_rfl) (by kernel_rfl) (by kernel_rfl) ?hqr9_1 ?hyr9_1 (by assumption) ?restr9_1
  case hir9_1 => simp only [List.getElem?_toArray, List.getElem?_cons_succ, List.getElem?_cons_zero]; rfl
  case hqr9_1 => exact fun _ _ _ h => h
  case hyr9_1 => (refine Or.inl ⟨by rfl, ?_⟩; intro w hSw; (try dsimp only at hSw); go_simp; all_goals with_reducible rfl)
  try simp only [Act.put, List.setIfInBounds_toArray, List.set_cons_zero, List.set_cons_succ]
  refine wpAnyH_take (i := 2) (oi := ?oir9_2) (v := ?vr9_2) ?hir9_2 (by kernel_rfl) (by kernel_rfl) (by kernel_rfl) ?hqr9_2 ?hyr9_2 (by assumption) ?restr9_2
  case hir9_2 => simp only [List.getElem?_toArray, List.getElem?_cons_succ, List.getElem?_cons_zero]; rfl
  case hqr9_2 => exact fun _ _ _ h => h
  case hyr9_2 => (refine Or.inl ⟨by rfl, ?_⟩; intro w hSw; (try dsimp only at hSw); go_simp; all_goals with_reducible rfl)
  try simp only [Act.put, List.setIfInBounds_toArray, List.set_cons_zero, List.set_cons_succ]
  refine wpAnyH_take (i := 3) (oi := ?oir9_3) (v := ?vr9_3) ?hir9_3 (by kernel_rfl) (by kernel_rfl) (by kernel_rfl) ?hqr9_3 ?hyr9_3 (by assumption) ?restr9_3
  case hir9_3 => simp only [List.getElem?_toArray, List.getElem?_cons_succ, List.getElem?_cons_zero]; rfl
  case hqr9_3 => exact fun _ _ _ h => h
  case hyr9_3 => (refine Or.inl ⟨by rfl, ?_⟩; intro w hSw; (try dsimp only at hSw); go_simp; all_goals with_reducible rfl)
  try simp only [Act.put, List.setIfInBounds_toArray, List.set_cons_zero, List.set_cons_succ]
  refine wpAnyH_take (i := 4) (oi := ?oir9_4) (v := ?vr9_4) ?hir9_4 (by kernel_rfl) (by kernel_rfl) (by kernel_rfl) ?hqr9_4 ?hyr9_4 (by assumption) ?restr9_4
  case hir9_4 => simp only [List.getElem?_toArray, List.getElem?_cons_succ, List.getElem?_cons_zero]; rfl
  case hqr9_4 => exact fun _ _ _ h => h
  case hyr9_4 => (refine Or.inl ⟨by rfl, ?_⟩; intro w hSw; (try dsimp only at hSw); go_simp; all_goals with_reducible rfl)
  try simp only [Act.put, List.setIfInBounds_toArray, List.set_cons_zero, List.set_cons_succ]
  refine wpAnyH_take (i := 5) (oi := ?oir9_5) (v := ?vr9_5) ?hir9_5 (by kernel_rfl) (by kernel_rfl) (by kernel_rfl) ?hqr9_5 ?hyr9_5 (by assumption) ?restr9_5
  case hir9_5 => simp only [List.getElem?_toArray, List.getElem?_cons_succ, List.getElem?_cons_zero]; rfl
  case hqr9_5 => exact fun _ _ _ h => h
  case hyr9_5 => (refine Or.inl ⟨by rfl, ?_⟩; intro w hSw; (try dsimp only at hSw); go_simp; all_goals with_reducible rfl)
  try simp only [Act.put, List.setIfInBounds_toArray, List.set_cons_zero, List.set_cons_succ]
  refine wpAnyH_take (i := 6) (oi := ?oir9_6) (v := ?vr9_6) ?hir9_6 (by kernel_rfl) (by kernel_rfl) (by kernel_rfl) ?hqr9_6 ?hyr9_6 (by assumption) ?restr9_6
  case hir9_6 => simp only [List.getElem?_toArray, List.getElem?_cons_succ, List.getElem?_cons_zero]; rfl
  case hqr9_6 => exact fun _ _ _ h => h
  case hyr9_6 => (refine Or.inl ⟨by rfl, ?_⟩; intro w hSw; (try dsimp only at hSw); go_simp; all_goals with_reducible rfl)
  try simp only [Act.put, List.setIfInBounds_toArray, List.set_cons_zero, List.set_cons_succ]
  refine wpAnyH_take (i := 7) (oi := ?oir9_7) (v := ?vr9_7) ?hir9_7 (by kernel_rfl) (by kernel_rfl) (by kernel_rfl) ?hqr9_7 ?hyr9_7 (by assumption) ?restr9_7
  case hir9_7 => simp only [List.getElem?_toArray, List.getElem?_cons_succ, List.getElem?_cons_zero]; rfl
  case hqr9_7 => exact fun _ _ _ h => h
  case hyr9_7 => (refine Or.inl ⟨by rfl, ?_⟩; intro w hSw; (try dsimp only at hSw); go_simp; all_goals with_reducible rfl)
  try simp only [Act.put, List.setIfInBounds_toArray, List.set_cons_zero, List.set_cons_succ]
  refine wpAnyH_take (i := 8) (oi := ?oir9_8) (v := ?vr9_8) ?hir9_8 (by kernel_rfl) (by kernel_rfl) (by kernel_rfl) ?hqr9_8 ?hyr9_8 (by assumption) ?restr9_8
  case hir9_8 => simp only [List.getElem?_toArray, List.getElem?_cons_succ, List.getElem?_cons_zero]; rfl
  case hqr9_8 => exact fun _ _ _ h => h
  case hyr9_8 => (refine Or.inl ⟨by rfl, ?_⟩; intro w hSw; (try dsimp only at hSw); go_simp; all_goals with_reducible rfl)
  try simp only [Act.put, List.setIfInBounds_toArray, List.set_cons_zero, List.set_cons_succ]
  refine wpAnyH_take (i := 9) (oi := ?oir9_9) (v := ?vr9_9) ?hir9_9 (by kernel_rfl) (by kernel_rfl) (by kernel_rfl) ?hqr9_9 ?hyr9_9 (by assumption) ?restr9_9
  case hir9_9 => simp only [List.getElem?_toArray, List.getElem?_cons_succ, List.getElem?_cons_zero]; rfl
  case hqr9_9 => exact fun _ _ _ h => h
  case hyr9_9 => (refine Or.inl ⟨by rfl, ?_⟩; intro w hSw; (try dsimp only at hSw); go_simp; all_goals with_reducible rfl)
  try simp only [Act.put, List.setIfInBounds_toArray, List.set_cons_zero, List.set_cons_succ]
  refine wpAnyH_take (i := 10) (oi := ?oir9_10) (v := ?vr9_10) ?hir9_10 (by kernel_rfl) (by kernel_rfl) (by kernel_rfl) ?hqr9_10 ?hyr9_10 (by assumption) ?restr9_10
  case hir9_10 => simp only [List.getElem?_toArray, List.getElem?_cons_succ, List.getElem?_cons_zero]; rfl
  case hqr9_10 => exact fun _ _ _ h => h
  case hyr9_10 => (refine Or.inl ⟨by rfl, ?_⟩; intro w hSw; (try dsimp only at hSw); go_simp; all_goals with_reducible rfl)
  try simp only [Act.put, List.setIfInBounds_toArray, List.set_cons_zero, List.set_cons_succ]
  refine wpAnyH_take (i := 11) (oi := ?oir9_11) (v := ?vr9_11) ?hir9_11 (by kernel_rfl) (by kernel_rfl) (by kernel_rfl) ?hqr9_11 ?hyr9_11 (by assumption) ?restr9_11
  case hir9_11 => simp only [List.getElem?_toArray, List.getElem?_cons_succ, List.getElem?_cons_zero]; rfl
  case hqr9_11 => exact fun _ _ _ h => h
  case hyr9_11 => (refine Or.inl ⟨by rfl, ?_⟩; intro w hSw; (try dsimp only at hSw); go_simp; all_goals with_reducible rfl)
  try simp only [Act.put, List.setIfInBounds_toArray, List.set_cons_zero, List.set_cons_succ]
  refine wpAnyH_take (i := 12) (oi := ?oir9_12) (v := ?vr9_12) ?hir9_12 (by kernel_rfl) (by kernel_rfl) (by kernel_rfl) ?hqr9_12 ?hyr9_12 (by assumption) ?restr9_12
  case hir9_12 => simp only [List.getElem?_toArray, List.getElem?_cons_succ, List.getElem?_cons_zero]; rfl
  case hqr9_12 => exact fun _ _ _ h => h
  case hyr9_12 => (refine Or.inl ⟨by rfl, ?_⟩; intro w hSw; (try dsimp only at hSw); go_simp; all_goals with_reducible rfl)
  try simp only [Act.put, List.setIfInBounds_toArray, List.set_cons_zero, List.set_cons_succ]
  refine wpAnyH_take (i := 13) (oi := ?oir9_13) (v := ?vr9_13) ?hir9_13 (by kernel_rfl) (by kernel_rfl) (by kernel_rfl) ?hqr9_13 ?hyr9_13 (by assumption) ?restr9_13
  case hir9_13 => simp only [List.getElem?_toArray, List.getElem?_cons_succ, List.getElem?_cons_zero]; rfl
  case hqr9_13 => exact fun _ _ _ h => h
  case hyr9_13 => (refine Or.inl ⟨by rfl, ?_⟩; intro w hSw; (try dsimp only at hSw); go_simp; all_goals with_reducible rfl)
  try simp only [Act.put, List.setIfInBounds_toArray, List.set_cons_zero, List.set_cons_succ]
  refine wpAnyH_take (i := 14) (oi := ?oir9_14) (v := ?vr9_14) ?hir9_14 (by kernel_rfl) (by kernel_rfl) (by kernel_rfl) ?hqr9_14 ?hyr9_14 (by assumption) ?restr9_14
  case hir9_14 => simp only [List.getElem?_toArray, List.getElem?_cons_succ, List.getElem?_cons_zero]; rfl
  case hqr9_14 => exact fun _ _ _ h => h
  case hyr9_14 => (refine Or.inl ⟨by rfl, ?_⟩; intro w hSw; (try dsimp only at hSw); go_simp; all_goals with_reducible rfl)
  try simp only [Act.put, List.setIfInBounds_toArray, List.set_cons_zero, List.set_cons_succ]
  refine wpAnyH_take (i := 15) (oi := ?oir9_15) (v := ?vr9_15) ?hir9_15 (by kernel_rfl) (by kernel_rfl) (by kernel_rfl) ?hqr9_15 ?hyr9_15 (by assumption) ?restr9_15
  case hir9_15 => simp only [List.getElem?_toArray, List.getElem?_cons_succ, List.getElem?_cons_zero]; rfl
  case hqr9_15 => exact fun _ _ _ h => h
  case hyr9_15 => (refine Or.inl ⟨by rfl, ?_⟩; intro w hSw; (try dsimp only at hSw); go_simp; all_goals with_reducible rfl)
  try simp only [Act.put, List.setIfInBounds_toArray, List.set_cons_zero, List.set_cons_succ]
  refine wpAnyH_take (i := 16) (oi := ?oir9_16) (v := ?vr9_16) ?hir9_16 (by kernel_rfl) (by kernel_rfl) (by kernel_rfl) ?hqr9_16 ?hyr9_16 (by assumption) ?restr9_16
  case hir9_16 => simp only [List.getElem?_toArray, List.getElem?_cons_succ, List.getElem?_cons_zero]; rfl
  case hqr9_16 => exact fun _ _ _ h => h
  case hyr9_16 => (refine Or.inl ⟨by rfl, ?_⟩; intro w hSw; (try dsimp only at hSw); go_simp; all_goals with_reducible rfl)
  try simp only [Act.put, List.setIfInBounds_toArray, List.set_cons_zero, List.set_cons_succ]
  refine wpAnyH_take (i := 17) (oi := ?oir9_17) (v := ?vr9_17) ?hir9_17 (by kernel_rfl) (by kernel_rfl) (by kernel_rfl) ?hqr9_17 ?hyr9_17 (by assumption) ?restr9_17
  case hir9_17 => simp only [List.getElem?_toArray, List.getElem?_cons_succ, List.getElem?_cons_zero]; rfl
  case hqr9_17 => exact fun _ _ _ h => h
  case hyr9_17 => (refine Or.inl ⟨by rfl, ?_⟩; intro w hSw; (try dsimp only at hSw); go_simp; all_goals with_reducible rfl)
  try simp only [Act.put, List.setIfInBounds_toArray, List.set_cons_zero, List.set_cons_succ]
  refine wpAnyH_take (i := 18) (oi := ?oir9_18) (v := ?vr9_18) ?hir9_18 (by kernel_rfl) (by kernel_rfl) (by kernel_rfl) ?hqr9_18 ?hyr9_18 (by assumption) ?restr9_18
  case hir9_18 => simp only [List.getElem?_toArray, List.getElem?_cons_succ, List.getElem?_cons_zero]; rfl
  case hqr9_18 => exact fun _ _ _ h => h
  case hyr9_18 => (refine Or.inl ⟨by rfl, ?_⟩; intro w hSw; (try dsimp only at hSw); go_simp; all_goals with_reducible rfl)
  try simp only [Act.put, List.setIfInBounds_toArray, List.set_cons_zero, List.set_cons_succ]
  refine wpAnyH_ready (rs := [19]) (by kernel_rfl) (by simp) ?_
  refine AllReadyH.cons (o := ?or10_19) ?hor10_19 (fun K hK => ?kr10_19) AllReadyH.nil
  case hor10_19 => simp only [List.getElem?_toArray, List.getElem?_cons_succ, List.getElem?_cons_zero]; rfl
  go_simp
  have c := part_any w37 2 3 (by decide) (by decide) (by decide) (by decide)
  refine c.mono ?_
  rintro e w38 ⟨a_x, n_x, c_x, b_x, m_x, d_x, rfl, h_xn_38, h_xd_38, hb⟩
  clear c
  have B38 := B37.trans (hb.mono B37.size)
  have h_pl_38 := h_pl_37.below hb
  have h_pb_38 := h_pb_37.below hb
  have h_p_38 := h_p_37.later hb
  have h_al_38 := h_al_37.below hb
  have h_ab_38 := h_ab_37.below hb
  have h_a_38 := h_a_37.later hb
  have h_bl_38 := h_bl_37.below hb
  have h_bb_38 := h_bb_37.below hb
  have h_b_38 := h_b_37.later hb
  have h_z1l_38 := h_z1l_37.below hb
  have h_z1b_38 := h_z1b_37.below hb
  have h_z1_38 := h_z1_37.later hb
  have h_z2l_38 := h_z2l_37.below hb
  have h_z2b_38 := h_z2b_37.below hb
  have h_z2_38 := h_z2_37.later hb
  have h_z3l_38 := h_z3l_37.below hb
  have h_z3b_38 := h_z3b_37.below hb
  have h_z3_38 := h_z3_37.later hb
  have h_rn_38 := h_rn_37.below hb
  have h_rd_38 := h_rd_37.below hb
  have h_r_38 := h_r_37.later hb
  clear hb B37 h_pl_37 h_pb_37 h_p_37 h_al_37 h_ab_37 h_a_37 h_bl_37 h_bb_37 h_b_37 h_z1l_37 h_z1b_37 h_z1_37 h_z2l_37 h_z2b_37 h_z2_37 h_z3l_37 h_z3b_37 h_z3_37 h_rn_37 h_rd_37 h_r_37
  go_wp2_with fail
  clear hHeld
  refine hK.out _ _ ?_ (fun hHeld => ?_)
  · exact ⟨h_p_38.cell 0 _ rfl, h_p_38.cell 1 _ rfl, h_p_38.cell 2 _ rfl, h_p_38.cell 3 _ rfl, h_p_38.cell 4 _ rfl, h_p_38.cell 5 _ rfl, h_a_38.cell 0 _ rfl, h_a_38.cell 1 _ rfl, h_a_38.cell 2 _ rfl, h_a_38.cell 3 _ rfl, h_a_38.cell 4 _ rfl, h_a_38.cell 5 _ rfl, h_b_38.cell 0 _ rfl, h_b_38.cell 1 _ rfl, h_b_38.cell 2 _ rfl, h_b_38.cell 3 _ rfl, h_b_38.cell 4 _ rfl, h_b_38.cell 5 _ rfl, h_r_38.cell 0 _ rfl, h_r_38.cell 1 _ rfl, h_r_38.cell 2 _ rfl, trivial⟩
  clear hK K
  try simp only [Act.put, List.setIfInBounds_toArray, List.set_cons_zero, List.set_cons_succ]
  refine wpAnyH_ready (rs := [20]) (by kernel_rfl) (by simp) ?_
  refine AllReadyH.cons (o := ?or11_20) ?hor11_20 (fun K hK => ?kr11_20) AllReadyH.nil
  case hor11_20 => simp only [List.getElem?_toArray, List.getElem?_cons_succ, List.getElem?_cons_zero]; rfl
  go_simp
  have c := refRatSame_any w38 (g1 := (ofC 2 3).1.neg) (g2 := (ofC 2 3).1.neg) h_rn_38 h_rd_38 h_xn_38 h_xd_38
  rw [show (⟨(ofC 2 3).1.neg, (ofC 2 3).1.num, (ofC 2 3).1.den⟩ : QV) = (ofC 2 3).1 from rfl] at c
  rw [ex_sameq] at c
  refine c.mono ?_
  rintro e w39 ⟨rfl, hb⟩
  clear c
  have B39 := B38.trans (hb.mono B38.size)
  have h_pl_39 := h_pl_38.below hb
  have h_pb_39 := h_pb_38.below hb
  have h_p_39 := h_p_38.later hb
  have h_al_39 := h_al_38.below hb
  have h_ab_39 := h_ab_38.below hb
  have h_a_39 := h_a_38.later hb
  have h_bl_39 := h_bl_38.below hb
  have h_bb_39 := h_bb_38.below hb
  have h_b_39 := h_b_38.later hb
  have h_z1l_39 := h_z1l_38.below hb
  have h_z1b_39 := h_z1b_38.below hb
  have h_z1_39 := h_z1_38.later hb
  have h_z2l_39 := h_z2l_38.below hb
  have h_z2b_39 := h_z2b_38.below hb
  have h_z2_39 := h_z2_38.later hb
  have h_z3l_39 := h_z3l_38.below hb
  have h_z3b_39 := h_z3b_38.below hb
  have h_z3_39 := h_z3_38.later hb
  have h_rn_39 := h_rn_38.below hb
  have h_rd_39 := h_rd_38.below hb
  have h_r_39 := h_r_38.later hb
  clear hb B38 h_pl_38 h_pb_38 h_p_38 h_al_38 h_ab_38 h_a_38 h_bl_38 h_bb_38 h_b_38 h_z1l_38 h_z1b_38 h_z1_38 h_z2l_38 h_z2b_38 h_z2_38 h_z3l_38 h_z3b_38 h_z3_38 h_rn_38 h_rd_38 h_r_38 h_xn_38 h_xd_38
  go_wp2_with fail
  clear hHeld
  refine hK.out _ _ ?_ (fun hHeld => ?_)
  · exact ⟨h_p_39.cell 0 _ rfl, h_p_39.cell 1 _ rfl, h_p_39.cell 2 _ rfl, h_p_39.cell 3 _ rfl, h_p_39.cell 4 _ rfl, h_p_39.cell 5 _ rfl, h_a_39.cell 0 _ rfl, h_a_39.cell 1 _ rfl, h_a_39.cell 2 _ rfl, h_a_39.cell 3 _ rfl, h_a_39.cell 4 _ rfl, h_a_39.cell 5 _ rfl, h_b_39.cell 0 _ rfl, h_b_39.cell 1 _ rfl, h_b_39.cell 2 _ rfl, h_b_39.cell 3 _ rfl, h_b_39.cell 4 _ rfl, h_b_39.cell 5 _ rfl, h_r_39.cell 0 _ rfl, h_r_39.cell 1 _ rfl, h_r_39.cell 2 _ rfl, trivial⟩
  clear hK K
  try simp only [Act.put, List.setIfInBounds_toArray, List.set_cons_zero, List.set_cons_succ]
  refine wpAnyH_take (i := 21) (oi := ?oir12_21) (v := ?vr12_21) ?hir12_21 (by kernel_rfl) (by kernel_rfl) (by kernel_rfl) ?hqr12_21 ?hyr12_21 (by assumption) ?restr12_21
  case hir12_21 => simp only [List.getElem?_toArray, List.getElem?_cons_succ, List.getElem?_cons_zero]; rfl
  case hqr12_21 => exact fun _ _ _ h => h
  case hyr12_21 => (refine Or.inl ⟨by rfl, ?_⟩; intro w hSw; (try dsimp only at hSw); go_simp; all_goals with_reducible rfl)
  try simp only [Act.put, List.setIfInBounds_toArray, List.set_cons_zero, List.set_cons_succ]
  refine wpAnyH_take (i := 22) (oi := ?oir12_22) (v := ?vr12_22) ?hir12_22 (by kernel_rfl) (by kernel_rfl) (by kernel_rfl) ?hqr12_22 ?hyr12_22 (by assumption) ?restr12_22
  case hir12_22 => simp only [List.getElem?_toArray, List.getElem?_cons_succ, List.getElem?_cons_zero]; rfl
  case hqr12_22 => exact fun _ _ _ h => h
  case hyr12_22 => (refine Or.inl ⟨by rfl, ?_⟩; intro w hSw; (try dsimp only at hSw); go_simp; all_goals with_reducible rfl)
  try simp only [Act.put, List.setIfInBounds_toArray, List.set_cons_zero, List.set_cons_succ]
  refine wpAnyH_take (i := 23) (oi := ?oir12_23) (v := ?vr12_23) ?hir12_23 (by kernel_rfl) (by kernel_rfl) (by kernel_rfl) ?hqr12_23 ?hyr12_23 (by assumption) ?restr12_23
  case hir12_23 => simp only [List.getElem?_toArray, List.getElem?_cons_succ, List.getElem?_cons_zero]; rfl
  case hqr12_23 => exact fun _ _ _ h => h
  case hyr12_23 => (refine Or.inl ⟨by rfl, ?_⟩; intro w hSw; (try dsimp only at hSw); go_simp; all_goals with_reducible rfl)
  try simp only [Act.put, List.setIfInBounds_toArray, List.set_cons_zero, List.set_cons_succ]
  refine wpAnyH_ready (rs := [24]) (by kernel_rfl) (by simp) ?_
  refine AllReadyH.cons (o := ?or13_24) ?hor13_24 (fun K hK => ?kr13_24) AllReadyH.nil
  case hor13_24 => simp only [List.getElem?_toArray, List.getElem?_cons_succ, List.getElem?_cons_zero]; rfl
  go_simp
  have c := check_any w39 (q := zeroP) (Rd.nil _ _) (Rd.nil _ _) zeroP_pw
  rw [ex_chkz] at c
  refine c.mono ?_
  rintro e w40 ⟨rfl, hb⟩
  clear c
  have B40 := B39.trans (hb.mono B39.size)
  have h_pl_40 := h_pl_39.below hb
  have h_pb_40 := h_pb_39.below hb
  have h_p_40 := h_p_39.later hb
  have h_al_40 := h_al_39.below hb
  have h_ab_40 := h_ab_39.below hb
  have h_a_40 := h_a_39.later hb
  have h_bl_40 := h_bl_39.below hb
  have h_bb_40 := h_bb_39.below hb
  have h_b_40 := h_b_39.later hb
  have h_z1l_40 := h_z1l_39.below hb
  have h_z1b_40 := h_z1b_39.below hb
  have h_z1_40 := h_z1_39.later hb
  have h_z2l_40 := h_z2l_39.below hb
  have h_z2b_40 := h_z2b_39.below hb
  have h_z2_40 := h_z2_39.later hb
  have h_z3l_40 := h_z3l_39.below hb
  have h_z3b_40 := h_z3b_39.below hb
  have h_z3_40 := h_z3_39.later hb
  have h_rn_40 := h_rn_39.below hb
  have h_rd_40 := h_rd_39.below hb
  have h_r_40 := h_r_39.later hb
  clear hb B39 h_pl_39 h_pb_39 h_p_39 h_al_39 h_ab_39 h_a_39 h_bl_39 h_bb_39 h_b_39 h_z1l_39 h_z1b_39 h_z1_39 h_z2l_39 h_z2b_39 h_z2_39 h_z3l_39 h_z3b_39 h_z3_39 h_rn_39 h_rd_39 h_r_39
  go_wp2_with fail
  clear hHeld
  refine hK.out _ _ ?_ (fun hHeld => ?_)
  · exact ⟨h_p_40.cell 0 _ rfl, h_p_40.cell 1 _ rfl, h_p_40.cell 2 _ rfl, h_p_40.cell 3 _ rfl, h_p_40.cell 4 _ rfl, h_p_40.cell 5 _ rfl, h_a_40.cell 0 _ rfl, h_a_40.cell 1 _ rfl, h_a_40.cell 2 _ rfl, h_a_40.cell 3 _ rfl, h_a_40.cell 4 _ rfl, h_a_40.cell 5 _ rfl, h_b_40.cell 0 _ rfl, h_b_40.cell 1 _ rfl, h_b_40.cell 2 _ rfl, h_b_40.cell 3 _ rfl, h_b_40.cell 4 _ rfl, h_b_40.cell 5 _ rfl, h_r_40.cell 0 _ rfl, h_r_40.cell 1 _ rfl, h_r_40.cell 2 _ rfl, trivial⟩
  clear hK K
  try simp only [Act.put, List.setIfInBounds_toArray, List.set_cons_zero, List.set_cons_succ]
  refine wpAnyH_take (i := 25) (oi := ?oir14_25) (v := ?vr14_25) ?hir14_25 (by kernel_rfl) (by kernel_rfl) (by kernel_rfl) ?hqr14_25 ?hyr14_25 (by assumption) ?restr14_25
  case hir14_25 => simp only [List.getElem?_toArray, List.getElem?_cons_succ, List.getElem?_cons_zero]; rfl
  case hqr14_25 => exact fun _ _ _ h => h
  case hyr14_25 => (refine Or.inl ⟨by rfl, ?_⟩; intro w hSw; (try dsimp only at hSw); go_simp; all_goals with_reducible rfl)
  try simp only [Act.put, List.setIfInBounds_toArray, List.set_cons_zero, List.set_cons_succ]
  refine wpAnyH_take (i := 26) (oi := ?oir14_26) (v := ?vr14_26) ?hir14_26 (by kernel_rfl) (by kernel_rfl) (by kernel_rfl) ?hqr14_26 ?hyr14_26 (by assumption) ?restr14_26
  case hir14_26 => simp only [List.getElem?_toArray, List.getElem?_cons_succ, List.getElem?_cons_zero]; rfl
  case hqr14_26 => exact fun _ _ _ h => h
  case hyr14_26 => (refine Or.inl ⟨by rfl, ?_⟩; intro w hSw; (try dsimp only at hSw); go_simp; all_goals with_reducible rfl)
  try simp only [Act.put, List.setIfInBounds_toArray, List.set_cons_zero, List.set_cons_succ]
  refine wpAnyH_take (i := 27) (oi := ?oir14_27) (v := ?vr14_27) ?hir14_27 (by kernel_rfl) (by kernel_rfl) (by kernel_rfl) ?hqr14_27 ?hyr14_27 (by assumption) ?restr14_27
  case hir14_27 => simp only [List.getElem?_toArray, List.getElem?_cons_succ, List.getElem?_cons_zero]; rfl
  case hqr14_27 => exact fun _ _ _ h => h
  case hyr14_27 => (refine Or.inl ⟨by rfl, ?_⟩; intro w hSw; (try dsimp only at hSw); go_simp; all_goals with_reducible rfl)
  try simp only [Act.put, List.setIfInBounds_toArray, List.set_cons_zero, List.set_cons_succ]
  refine wpAnyH_ready (rs := [28]) (by kernel_rfl) (by simp) ?_
  refine AllReadyH.cons (o := ?or15_28) ?hor15_28 (fun K hK => ?kr15_28) AllReadyH.nil
  case hor15_28 => simp only [List.getElem?_toArray, List.getElem?_cons_succ, List.getElem?_cons_zero]; rfl
  go_simp
  have c := part_any w40 0 1 (by decide) (by decide) (by decide) (by decide)
  refine c.mono ?_
  rintro e w41 ⟨a_x, n_x, c_x, b_x, m_x, d_x, rfl, h_xn_41, h_xd_41, hb⟩
  clear c
  have B41 := B40.trans (hb.mono B40.size)
  have h_pl_41 := h_pl_40.below hb
  have h_pb_41 := h_pb_40.below hb
  have h_p_41 := h_p_40.later hb
  have h_al_41 := h_al_40.below hb
  have h_ab_41 := h_ab_40.below hb
  have h_a_41 := h_a_40.later hb
  have h_bl_41 := h_bl_40.below hb
  have h_bb_41 := h_bb_40.below hb
  have h_b_41 := h_b_40.later hb
  have h_z1l_41 := h_z1l_40.below hb
  have h_z1b_41 := h_z1b_40.below hb
  have h_z1_41 := h_z1_40.later hb
  have h_z2l_41 := h_z2l_40.below hb
  have h_z2b_41 := h_z2b_40.below hb
  have h_z2_41 := h_z2_40.later hb
  have h_z3l_41 := h_z3l_40.below hb
  have h_z3b_41 := h_z3b_40.below hb
  have h_z3_41 := h_z3_40.later hb
  have h_rn_41 := h_rn_40.below hb
  have h_rd_41 := h_rd_40.below hb
  have h_r_41 := h_r_40.later hb
  clear hb B40 h_pl_40 h_pb_40 h_p_40 h_al_40 h_ab_40 h_a_40 h_bl_40 h_bb_40 h_b_40 h_z1l_40 h_z1b_40 h_z1_40 h_z2l_40 h_z2b_40 h_z2_40 h_z3l_40 h_z3b_40 h_z3_40 h_rn_40 h_rd_40 h_r_40
  go_wp2_with fail
  clear hHeld
  refine hK.out _ _ ?_ (fun hHeld => ?_)
  · exact ⟨h_p_41.cell 0 _ rfl, h_p_41.cell 1 _ rfl, h_p_41.cell 2 _ rfl, h_p_41.cell 3 _ rfl, h_p_41.cell 4 _ rfl, h_p_41.cell 5 _ rfl, h_a_41.cell 0 _ rfl, h_a_41.cell 1 _ rfl, h_a_41.cell 2 _ rfl, h_a_41.cell 3 _ rfl, h_a_41.cell 4 _ rfl, h_a_41.cell 5 _ rfl, h_b_41.cell 0 _ rfl, h_b_41.cell 1 _ rfl, h_b_41.cell 2 _ rfl, h_b_41.cell 3 _ rfl, h_b_41.cell 4 _ rfl, h_b_41.cell 5 _ rfl, h_r_41.cell 0 _ rfl, h_r_41.cell 1 _ rfl, h_r_41.cell 2 _ rfl, trivial⟩
  clear hK K
  try simp only [Act.put, List.setIfInBounds_toArray, List.set_cons_zero, List.set_cons_succ]
  refine wpAnyH_ready (rs := [29]) (by kernel_rfl) (by simp) ?_
  refine AllReadyH.cons (o := ?or16_29) ?hor16_29 (fun K hK => ?kr16_29) AllReadyH.nil
  case hor16_29 => simp only [List.getElem?_toArray, List.getElem?_cons_succ, List.getElem?_cons_zero]; rfl
  go_simp
  have c := checkLimit_any w41 (g := (ofC 0 1).1.neg) h_xn_41 h_xd_41
  rw [show (⟨(ofC 0 1).1.neg, (ofC 0 1).1.num, (ofC 0 1).1.den⟩ : QV) = (ofC 0 1).1 from rfl] at c
  rw [ex_lim01] at c
  refine c.mono ?_
  rintro e w42 ⟨rfl, hb⟩
  clear c
  have B42 := B41.trans (hb.mono B41.size)
  have h_pl_42 := h_pl_41.below hb
  have h_pb_42 := h_pb_41.below hb
  have h_p_42 := h_p_41.later hb
  have h_al_42 := h_al_41.below hb
  have h_ab_42 := h_ab_41.below hb
  have h_a_42 := h_a_41.later hb
  have h_bl_42 := h_bl_41.below hb
  have h_bb_42 := h_bb_41.below hb
  have h_b_42 := h_b_41.later hb
  have h_z1l_42 := h_z1l_41.below hb
  have h_z1b_42 := h_z1b_41.below hb
  have h_z1_42 := h_z1_41.later hb
  have h_z2l_42 := h_z2l_41.below hb
  have h_z2b_42 := h_z2b_41.below hb
  have h_z2_42 := h_z2_41.later hb
  have h_z3l_42 := h_z3l_41.below hb
  have h_z3b_42 := h_z3b_41.below hb
  have h_z3_42 := h_z3_41.later hb
  have h_rn_42 := h_rn_41.below hb
  have h_rd_42 := h_rd_41.below hb
  have h_r_42 := h_r_41.later hb
  clear hb B41 h_pl_41 h_pb_41 h_p_41 h_al_41 h_ab_41 h_a_41 h_bl_41 h_bb_41 h_b_41 h_z1l_41 h_z1b_41 h_z1_41 h_z2l_41 h_z2b_41 h_z2_41 h_z3l_41 h_z3b_41 h_z3_41 h_rn_41 h_rd_41 h_r_41 h_xn_41 h_xd_41
  go_wp2_with fail
  clear hHeld
  refine hK.out _ _ ?_ (fun hHeld => ?_)
  · exact ⟨h_p_42.cell 0 _ rfl, h_p_42.cell 1 _ rfl, h_p_42.cell 2 _ rfl, h_p_42.cell 3 _ rfl, h_p_42.cell 4 _ rfl, h_p_42.cell 5 _ rfl, h_a_42.cell 0 _ rfl, h_a_42.cell 1 _ rfl, h_a_42.cell 2 _ rfl, h_a_42.cell 3 _ rfl, h_a_42.cell 4 _ rfl, h_a_42.cell 5 _ rfl, h_b_42.cell 0 _ rfl, h_b_42.cell 1 _ rfl, h_b_42.cell 2 _ rfl, h_b_42.cell 3 _ rfl, h_b_42.cell 4 _ rfl, h_b_42.cell 5 _ rfl, h_r_42.cell 0 _ rfl, h_r_42.cell 1 _ rfl, h_r_42.cell 2 _ rfl, trivial⟩
  clear hK K
  try simp only [Act.put, List.setIfInBounds_toArray, List.set_cons_zero, List.set_cons_succ]
  refine wpAnyH_take (i := 30) (oi := ?oir17_30) (v := ?vr17_30) ?hir17_30 (by kernel_rfl) (by kernel_rfl) (by kernel_rfl) ?hqr17_30 ?hyr17_30 (by assumption) ?restr17_30
  case hir17_30 => simp only [List.getElem?_toArray, List.getElem?_cons_succ, List.getElem?_cons_zero]; rfl
  case hqr17_30 => exact fun _ _ _ h => h
  case hyr17_30 => (refine Or.inl ⟨by rfl, ?_⟩; intro w hSw; (try dsimp only at hSw); go_simp; all_goals with_reducible rfl)
  try simp only [Act.put, List.setIfInBounds_toArray, List.set_cons_zero, List.set_cons_succ]
  refine wpAnyH_take (i := 31) (oi := ?oir17_31) (v := ?vr17_31) ?hir17_31 (by kernel_rfl) (by kernel_rfl) (by kernel_rfl) ?hqr17_31 ?hyr17_31 (by assumption) ?restr17_31
  case hir17_31 => simp only [List.getElem?_toArray, List.getElem?_cons_succ, List.getElem?_cons_zero]; rfl
  case hqr17_31 => exact fun _ _ _ h => h
  case hyr17_31 => (refine Or.inl ⟨by rfl, ?_⟩; intro w hSw; (try dsimp only at hSw); go_simp; all_goals with_reducible rfl)
  try simp only [Act.put, List.setIfInBounds_toArray, List.set_cons_zero, List.set_cons_succ]
  refine wpAnyH_take (i := 32) (oi := ?oir17_32) (v := ?vr17_32) ?hir17_32 (by kernel_rfl) (by kernel_rfl) (by kernel_rfl) ?hqr17_32 ?hyr17_32 (by assumption) ?restr17_32
  case hir17_32 => simp only [List.getElem?_toArray, List.getElem?_cons_succ, List.getElem?_cons_zero]; rfl
  case hqr17_32 => exact fun _ _ _ h => h
  case hyr17_32 => (refine Or.inl ⟨by rfl, ?_⟩; intro w hSw; (try dsimp only at hSw); go_simp; all_goals with_reducible rfl)
  try simp only [Act.put, List.setIfInBounds_toArray, List.set_cons_zero, List.set_cons_succ]
  refine wpAnyH_ready (rs := [33]) (by kernel_rfl) (by simp) ?_
  refine AllReadyH.cons (o := ?or18_33) ?hor18_33 (fun K hK => ?kr18_33) AllReadyH.nil
  case hor18_33 => simp only [List.getElem?_toArray, List.getElem?_cons_succ, List.getElem?_cons_zero]; rfl
  go_simp
  have c := part_any w42 3 2 (by decide) (by decide) (by decide) (by decide)
  refine c.mono ?_
  rintro e w43 ⟨a_x, n_x, c_x, b_x, m_x, d_x, rfl, h_xn_43, h_xd_43, hb⟩
  clear c
  have B43 := B42.trans (hb.mono B42.size)
  have h_pl_43 := h_pl_42.below hb
  have h_pb_43 := h_pb_42.below hb
  have h_p_43 := h_p_42.later hb
  have h_al_43 := h_al_42.below hb
  have h_ab_43 := h_ab_42.below hb
  have h_a_43 := h_a_42.later hb
  have h_bl_43 := h_bl_42.below hb
  have h_bb_43 := h_bb_42.below hb
  have h_b_43 := h_b_42.later hb
  have h_z1l_43 := h_z1l_42.below hb
  have h_z1b_43 := h_z1b_42.below hb
  have h_z1_43 := h_z1_42.later hb
  have h_z2l_43 := h_z2l_42.below hb
  have h_z2b_43 := h_z2b_42.below hb
  have h_z2_43 := h_z2_42.later hb
  have h_z3l_43 := h_z3l_42.below hb
  have h_z3b_43 := h_z3b_42.below hb
  have h_z3_43 := h_z3_42.later hb
  have h_rn_43 := h_rn_42.below hb
  have h_rd_43 := h_rd_42.below hb
  have h_r_43 := h_r_42.later hb
  clear hb B42 h_pl_42 h_pb_42 h_p_42 h_al_42 h_ab_42 h_a_42 h_bl_42 h_bb_42 h_b_42 h_z1l_42 h_z1b_42 h_z1_42 h_z2l_42 h_z2b_42 h_z2_42 h_z3l_42 h_z3b_42 h_z3_42 h_rn_42 h_rd_42 h_r_42
  go_wp2_with fail
  clear hHeld
  refine hK.out _ _ ?_ (fun hHeld => ?_)
  · exact ⟨h_p_43.cell 0 _ rfl, h_p_43.cell 1 _ rfl, h_p_43.cell 2 _ rfl, h_p_43.cell 3 _ rfl, h_p_43.cell 4 _ rfl, h_p_43.cell 5 _ rfl, h_a_43.cell 0 _ rfl, h_a_43.cell 1 _ rfl, h_a_43.cell 2 _ rfl, h_a_43.cell 3 _ rfl, h_a_43.cell 4 _ rfl, h_a_43.cell 5 _ rfl, h_b_43.cell 0 _ rfl, h_b_43.cell 1 _ rfl, h_b_43.cell 2 _ rfl, h_b_43.cell 3 _ rfl, h_b_43.cell 4 _ rfl, h_b_43.cell 5 _ rfl, h_r_43.cell 0 _ rfl, h_r_43.cell 1 _ rfl, h_r_43.cell 2 _ rfl, trivial⟩
  clear hK K
  try simp only [Act.put, List.setIfInBounds_toArray, List.set_cons_zero, List.set_cons_succ]
  refine wpAnyH_ready (rs := [34]) (by kernel_rfl) (by simp) ?_
  refine AllReadyH.cons (o := ?or19_34) ?hor19_34 (fun K hK => ?kr19_34) AllReadyH.nil
  case hor19_34 => simp only [List.getElem?_toArray, List.getElem?_cons_succ, List.getElem?_cons_zero]; rfl
  go_simp
  have c := checkLimit_any w43 (g := (ofC 3 2).1.neg) h_xn_43 h_xd_43
  rw [show (⟨(ofC 3 2).1.neg, (ofC 3 2).1.num, (ofC 3 2).1.den⟩ : QV) = (ofC 3 2).1 from rfl] at c
  rw [ex_lim32] at c
  refine c.mono ?_
  rintro e w44 ⟨rfl, hb⟩
  clear c
  have B44 := B43.trans (hb.mono B43.size)
  have h_pl_44 := h_pl_43.below hb
  have h_pb_44 := h_pb_43.below hb
  have h_p_44 := h_p_43.later hb
  have h_al_44 := h_al_43.below hb
  have h_ab_44 := h_ab_43.below hb
  have h_a_44 := h_a_43.later hb
  have h_bl_44 := h_bl_43.below hb
  have h_bb_44 := h_bb_43.below hb
  have h_b_44 := h_b_43.later hb
  have h_z1l_44 := h_z1l_43.below hb
  have h_z1b_44 := h_z1b_43.below hb
  have h_z1_44 := h_z1_43.later hb
  have h_z2l_44 := h_z2l_43.below hb
  have h_z2b_44 := h_z2b_43.below hb
  have h_z2_44 := h_z2_43.later hb
  have h_z3l_44 := h_z3l_43.below hb
  have h_z3b_44 := h_z3b_43.below hb
  have h_z3_44 := h_z3_43.later hb
  have h_rn_44 := h_rn_43.below hb
  have h_rd_44 := h_rd_43.below hb
  have h_r_44 := h_r_43.later hb
  clear hb B43 h_pl_43 h_pb_43 h_p_43 h_al_43 h_ab_43 h_a_43 h_bl_43 h_bb_43 h_b_43 h_z1l_43 h_z1b_43 h_z1_43 h_z2l_43 h_z2b_43 h_z2_43 h_z3l_43 h_z3b_43 h_z3_43 h_rn_43 h_rd_43 h_r_43 h_xn_43 h_xd_43
  go_wp2_with fail
  clear hHeld
  refine hK.out _ _ ?_ (fun hHeld => ?_)
  · exact ⟨h_p_44.cell 0 _ rfl, h_p_44.cell 1 _ rfl, h_p_44.cell 2 _ rfl, h_p_44.cell 3 _ rfl, h_p_44.cell 4 _ rfl, h_p_44.cell 5 _ rfl, h_a_44.cell 0 _ rfl, h_a_44.cell 1 _ rfl, h_a_44.cell 2 _ rfl, h_a_44.cell 3 _ rfl, h_a_44.cell 4 _ rfl, h_a_44.cell 5 _ rfl, h_b_44.cell 0 _ rfl, h_b_44.cell 1 _ rfl, h_b_44.cell 2 _ rfl, h_b_44.cell 3 _ rfl, h_b_44.cell 4 _ rfl, h_b_44.cell 5 _ rfl, h_r_44.cell 0 _ rfl, h_r_44.cell 1 _ rfl, h_r_44.cell 2 _ rfl, trivial⟩
  clear hK K
  try simp only [Act.put, List.setIfInBounds_toArray, List.set_cons_zero, List.set_cons_succ]
  refine wpAnyH_take (i := 35) (oi := ?oir20_35) (v := ?vr20_35) ?hir20_35 (by kernel_rfl) (by kernel_rfl) (by kernel_rfl) ?hqr20_35 ?hyr20_35 (by assumption) ?restr20_35
  case hir20_35 => simp only [List.getElem?_toArray, List.getElem?_cons_succ, List.getElem?_cons_zero]; rfl
  case hqr20_35 => exact fun _ _ _ h => h
  case hyr20_35 => (refine Or.inl ⟨by rfl, ?_⟩; intro w hSw; (try dsimp only at hSw); go_simp; all_goals with_reducible rfl)
  try simp only [Act.put, List.setIfInBounds_toArray, List.set_cons_zero, List.set_cons_succ]
  refine wpAnyH_take (i := 36) (oi := ?oir20_36) (v := ?vr20_36) ?hir20_36 (by kernel_rfl) (by kernel_rfl) (by kernel_rfl) ?hqr20_36 ?hyr20_36 (by assumption) ?restr20_36
  case hir20_36 => simp only [List.getElem?_toArray, List.getElem?_cons_succ, List.getElem?_cons_zero]; rfl
  case hqr20_36 => exact fun _ _ _ h => h
  case hyr20_36 => (refine Or.inl ⟨by rfl, ?_⟩; intro w hSw; (try dsimp only at hSw); go_simp; all_goals with_reducible rfl)
  try simp only [Act.put, List.setIfInBounds_toArray, List.set_cons_zero, List.set_cons_succ]
  refine wpAnyH_take (i := 37) (oi := ?oir20_37) (v := ?vr20_37) ?hir20_37 (by kernel_rfl) (by kernel_rfl) (by kernel_rfl) ?hqr20_37 ?hyr20_37 (by assumption) ?restr20_37
  case hir20_37 => simp only [List.getElem?_toArray, List.getElem?_cons_succ, List.getElem?_cons_zero]; rfl
  case hqr20_37 => exact fun _ _ _ h => h
  case hyr20_37 => (refine Or.inl ⟨by rfl, ?_⟩; intro w hSw; (try dsimp only at hSw); go_simp; all_goals with_reducible rfl)
  try simp only [Act.put, List.setIfInBounds_toArray, List.set_cons_zero, List.set_cons_succ]
  refine wpAnyH_take (i := 38) (oi := ?oir20_38) (v := ?vr20_38) ?hir20_38 (by kernel_rfl) (by kernel_rfl) (by kernel_rfl) ?hqr20_38 ?hyr20_38 (by assumption) ?restr20_38
  case hir20_38 => simp only [List.getElem?_toArray, List.getElem?_cons_succ, List.getElem?_cons_zero]; rfl
  case hqr20_38 => exact fun _ _ _ h => h
  case hyr20_38 => (refine Or.inl ⟨by rfl, ?_⟩; intro w hSw; (try dsimp only at hSw); go_simp; all_goals with_reducible rfl)
  try simp only [Act.put, List.setIfInBounds_toArray, List.set_cons_zero, List.set_cons_succ]
  refine wpAnyH_ready (rs := [39]) (by kernel_rfl) (by simp) ?_
  refine AllReadyH.cons (o := ?or21_39) ?hor21_39 (fun K hK => ?kr21_39) AllReadyH.nil
  case hor21_39 => simp only [List.getElem?_toArray, List.getElem?_cons_succ, List.getElem?_cons_zero]; rfl
  go_simp
  have c := checkLimit_any w44 (g := false) (Rd.nil _ _) (Rd.nil _ _)
  rw [show (⟨false, [], []⟩ : QV) = zeroV from rfl] at c
  rw [ex_limz] at c
  refine c.mono ?_
  rintro e w45 ⟨rfl, hb⟩
  clear c
  have B45 := B44.trans (hb.mono B44.size)
  have h_pl_45 := h_pl_44.below hb
  have h_pb_45 := h_pb_44.below hb
  have h_p_45 := h_p_44.later hb
  have h_al_45 := h_al_44.below hb
  have h_ab_45 := h_ab_44.below hb
  have h_a_45 := h_a_44.later hb
  have h_bl_45 := h_bl_44.below hb
  have h_bb_45 := h_bb_44.below hb
  have h_b_45 := h_b_44.later hb
  have h_z1l_45 := h_z1l_44.below hb
  have h_z1b_45 := h_z1b_44.below hb
  have h_z1_45 := h_z1_44.later hb
  have h_z2l_45 := h_z2l_44.below hb
  have h_z2b_45 := h_z2b_44.below hb
  have h_z2_45 := h_z2_44.later hb
  have h_z3l_45 := h_z3l_44.below hb
  have h_z3b_45 := h_z3b_44.below hb
  have h_z3_45 := h_z3_44.later hb
  have h_rn_45 := h_rn_44.below hb
  have h_rd_45 := h_rd_44.below hb
  have h_r_45 := h_r_44.later hb
  clear hb B44 h_pl_44 h_pb_44 h_p_44 h_al_44 h_ab_44 h_a_44 h_bl_44 h_bb_44 h_b_44 h_z1l_44 h_z1b_44 h_z1_44 h_z2l_44 h_z2b_44 h_z2_44 h_z3l_44 h_z3b_44 h_z3_44 h_rn_44 h_rd_44 h_r_44
  go_wp2_with fail
  clear hHeld
  refine hK.out _ _ ?_ (fun hHeld => ?_)
  · exact ⟨h_p_45.cell 0 _ rfl, h_p_45.cell 1 _ rfl, h_p_45.cell 2 _ rfl, h_p_45.cell 3 _ rfl, h_p_45.cell 4 _ rfl, h_p_45.cell 5 _ rfl, h_a_45.cell 0 _ rfl, h_a_45.cell 1 _ rfl, h_a_45.cell 2 _ rfl, h_a_45.cell 3 _ rfl, h_a_45.cell 4 _ rfl, h_a_45.cell 5 _ rfl, h_b_45.cell 0 _ rfl, h_b_45.cell 1 _ rfl, h_b_45.cell 2 _ rfl, h_b_45.cell 3 _ rfl, h_b_45.cell 4 _ rfl, h_b_45.cell 5 _ rfl, h_r_45.cell 0 _ rfl, h_r_45.cell 1 _ rfl, h_r_45.cell 2 _ rfl, trivial⟩
  clear hK K
  try simp only [Act.put, List.setIfInBounds_toArray, List.set_cons_zero, List.set_cons_succ]
  refine wpAnyH_take (i := 40) (oi := ?oir22_40) (v := ?vr22_40) ?hir22_40 (by kernel_rfl) (by kernel_rfl) (by kernel_rfl) ?hqr22_40 ?hyr22_40 (by assumption) ?restr22_40
  case hir22_40 => simp only [List.getElem?_toArray, List.getElem?_cons_succ, List.getElem?_cons_zero]; rfl
  case hqr22_40 => exact fun _ _ _ h => h
  case hyr22_40 => (refine Or.inl ⟨by rfl, ?_⟩; intro w hSw; (try dsimp only at hSw); go_simp; all_goals with_reducible rfl)
  try simp only [Act.put, List.setIfInBounds_toArray, List.set_cons_zero, List.set_cons_succ]
  refine wpAnyH_take (i := 41) (oi := ?oir22_41) (v := ?vr22_41) ?hir22_41 (by kernel_rfl) (by kernel_rfl) (by kernel_rfl) ?hqr22_41 ?hyr22_41 (by assumption) ?restr22_41
  case hir22_41 => simp only [List.getElem?_toArray, List.getElem?_cons_succ, List.getElem?_cons_zero]; rfl
  case hqr22_41 => exact fun _ _ _ h => h
  case hyr22_41 => (refine Or.inl ⟨by rfl, ?_⟩; intro w hSw; (try dsimp only at hSw); go_simp; all_goals with_reducible rfl)
  try simp only [Act.put, List.setIfInBounds_toArray, List.set_cons_zero, List.set_cons_succ]
  refine wpAnyH_take (i := 42) (oi := ?oir22_42) (v := ?vr22_42) ?hir22_42 (by kernel_rfl) (by kernel_rfl) (by kernel_rfl) ?hqr22_42 ?hyr22_42 (by assumption) ?restr22_42
  case hir22_42 => simp only [List.getElem?_toArray, List.getElem?_cons_succ, List.getElem?_cons_zero]; rfl
  case hqr22_42 => exact fun _ _ _ h => h
  case hyr22_42 => (refine Or.inl ⟨by rfl, ?_⟩; intro w hSw; (try dsimp only at hSw); go_simp; all_goals with_reducible rfl)
  try simp only [Act.put, List.setIfInBounds_toArray, List.set_cons_zero, List.set_cons_succ]
  refine wpAnyH_take (i := 43) (oi := ?oir22_43) (v := ?vr22_43) ?hir22_43 (by kernel_rfl) (by kernel_rfl) (by kernel_rfl) ?hqr22_43 ?hyr22_43 (by assumption) ?restr22_43
  case hir22_43 => simp only [List.getElem?_toArray, List.getElem?_cons_succ, List.getElem?_cons_zero]; rfl
  case hqr22_43 => exact fun _ _ _ h => h
  case hyr22_43 => (refine Or.inl ⟨by rfl, ?_⟩; intro w hSw; (try dsimp only at hSw); go_simp; all_goals with_reducible rfl)
  try simp only [Act.put, List.setIfInBounds_toArray, List.set_cons_zero, List.set_cons_succ]
  refine wpAnyH_take (i := 44) (oi := ?oir22_44) (v := ?vr22_44) ?hir22_44 (by kernel_rfl) (by kernel_rfl) (by kernel_rfl) ?hqr22_44 ?hyr22_44 (by assumption) ?restr22_44
  case hir22_44 => simp only [List.getElem?_toArray, List.getElem?_cons_succ, List.getElem?_cons_zero]; rfl
  case hqr22_44 => exact fun _ _ _ h => h
  case hyr22_44 => (refine Or.inl ⟨by rfl, ?_⟩; intro w hSw; (try dsimp only at hSw); go_simp; all_goals with_reducible rfl)
  try simp only [Act.put, List.setIfInBounds_toArray, List.set_cons_zero, List.set_cons_succ]
  refine wpAnyH_ready (rs := [45]) (by kernel_rfl) (by simp) ?_
  refine AllReadyH.cons (o := ?or23_45) ?hor23_45 (fun K hK => ?kr23_45) AllReadyH.nil
  case hor23_45 => simp only [List.getElem?_toArray, List.getElem?_cons_succ, List.getElem?_cons_zero]; rfl
  go_simp
  have c := polSame_any w45 (p := qN 500 0) (q := qN 500 0) h_pl_45 h_pb_45 h_pl_45 h_pb_45
  rw [ex_same] at c
  refine c.mono ?_
  rintro e w46 ⟨rfl, hb⟩
  clear c
  have B46 := B45.trans (hb.mono B45.size)
  have h_pl_46 := h_pl_45.below hb
  have h_pb_46 := h_pb_45.below hb
  have h_p_46 := h_p_45.later hb
  have h_al_46 := h_al_45.below hb
  have h_ab_46 := h_ab_45.below hb
  have h_a_46 := h_a_45.later hb
  have h_bl_46 := h_bl_45.below hb
  have h_bb_46 := h_bb_45.below hb
  have h_b_46 := h_b_45.later hb
  have h_z1l_46 := h_z1l_45.below hb
  have h_z1b_46 := h_z1b_45.below hb
  have h_z1_46 := h_z1_45.later hb
  have h_z2l_46 := h_z2l_45.below hb
  have h_z2b_46 := h_z2b_45.below hb
  have h_z2_46 := h_z2_45.later hb
  have h_z3l_46 := h_z3l_45.below hb
  have h_z3b_46 := h_z3b_45.below hb
  have h_z3_46 := h_z3_45.later hb
  have h_rn_46 := h_rn_45.below hb
  have h_rd_46 := h_rd_45.below hb
  have h_r_46 := h_r_45.later hb
  clear hb B45 h_pl_45 h_pb_45 h_p_45 h_al_45 h_ab_45 h_a_45 h_bl_45 h_bb_45 h_b_45 h_z1l_45 h_z1b_45 h_z1_45 h_z2l_45 h_z2b_45 h_z2_45 h_z3l_45 h_z3b_45 h_z3_45 h_rn_45 h_rd_45 h_r_45
  go_wp2_with fail
  clear hHeld
  refine hK.out _ _ ?_ (fun hHeld => ?_)
  · exact ⟨h_p_46.cell 0 _ rfl, h_p_46.cell 1 _ rfl, h_p_46.cell 2 _ rfl, h_p_46.cell 3 _ rfl, h_p_46.cell 4 _ rfl, h_p_46.cell 5 _ rfl, h_a_46.cell 0 _ rfl, h_a_46.cell 1 _ rfl, h_a_46.cell 2 _ rfl, h_a_46.cell 3 _ rfl, h_a_46.cell 4 _ rfl, h_a_46.cell 5 _ rfl, h_b_46.cell 0 _ rfl, h_b_46.cell 1 _ rfl, h_b_46.cell 2 _ rfl, h_b_46.cell 3 _ rfl, h_b_46.cell 4 _ rfl, h_b_46.cell 5 _ rfl, h_r_46.cell 0 _ rfl, h_r_46.cell 1 _ rfl, h_r_46.cell 2 _ rfl, trivial⟩
  clear hK K
  try simp only [Act.put, List.setIfInBounds_toArray, List.set_cons_zero, List.set_cons_succ]
  refine wpAnyH_take (i := 46) (oi := ?oir24_46) (v := ?vr24_46) ?hir24_46 (by kernel_rfl) (by kernel_rfl) (by kernel_rfl) ?hqr24_46 ?hyr24_46 (by assumption) ?restr24_46
  case hir24_46 => simp only [List.getElem?_toArray, List.getElem?_cons_succ, List.getElem?_cons_zero]; rfl
  case hqr24_46 => exact fun _ _ _ h => h
  case hyr24_46 => (refine Or.inl ⟨by rfl, ?_⟩; intro w hSw; (try dsimp only at hSw); go_simp; all_goals with_reducible rfl)
  try simp only [Act.put, List.setIfInBounds_toArray, List.set_cons_zero, List.set_cons_succ]
  refine wpAnyH_take (i := 47) (oi := ?oir24_47) (v := ?vr24_47) ?hir24_47 (by kernel_rfl) (by kernel_rfl) (by kernel_rfl) ?hqr24_47 ?hyr24_47 (by assumption) ?restr24_47
  case hir24_47 => simp only [List.getElem?_toArray, List.getElem?_cons_succ, List.getElem?_cons_zero]; rfl
  case hqr24_47 => exact fun _ _ _ h => h
  case hyr24_47 => (refine Or.inl ⟨by rfl, ?_⟩; intro w hSw; (try dsimp only at hSw); go_simp; all_goals with_reducible rfl)
  try simp only [Act.put, List.setIfInBounds_toArray, List.set_cons_zero, List.set_cons_succ]
  refine wpAnyH_take (i := 48) (oi := ?oir24_48) (v := ?vr24_48) ?hir24_48 (by kernel_rfl) (by kernel_rfl) (by kernel_rfl) ?hqr24_48 ?hyr24_48 (by assumption) ?restr24_48
  case hir24_48 => simp only [List.getElem?_toArray, List.getElem?_cons_succ, List.getElem?_cons_zero]; rfl
  case hqr24_48 => exact fun _ _ _ h => h
  case hyr24_48 => (refine Or.inl ⟨by rfl, ?_⟩; intro w hSw; (try dsimp only at hSw); go_simp; all_goals with_reducible rfl)
  try simp only [Act.put, List.setIfInBounds_toArray, List.set_cons_zero, List.set_cons_succ]
  refine wpAnyH_take (i := 49) (oi := ?oir24_49) (v := ?vr24_49) ?hir24_49 (by kernel_rfl) (by kernel_rfl) (by kernel_rfl) ?hqr24_49 ?hyr24_49 (by assumption) ?restr24_49
  case hir24_49 => simp only [List.getElem?_toArray, List.getElem?_cons_succ, List.getElem?_cons_zero]; rfl
  case hqr24_49 => exact fun _ _ _ h => h
  case hyr24_49 => (refine Or.inl ⟨by rfl, ?_⟩; intro w hSw; (try dsimp only at hSw); go_simp; all_goals with_reducible rfl)
  try simp only [Act.put, List.setIfInBounds_toArray, List.set_cons_zero, List.set_cons_succ]
  refine wpAnyH_ready (rs := [50]) (by kernel_rfl) (by simp) ?_
  refine AllReadyH.cons (o := ?or25_50) ?hor25_50 (fun K hK => ?kr25_50) AllReadyH.nil
  case hor25_50 => simp only [List.getElem?_toArray, List.getElem?_cons_succ, List.getElem?_cons_zero]; rfl
  go_simp
  have c := polSame_any w46 (p := qN 500 1) (q := pB) h_al_46 h_ab_46 h_bl_46 h_bb_46
  rw [ex_diff] at c
  refine c.mono ?_
  rintro e w47 ⟨rfl, hb⟩
  clear c
  have B47 := B46.trans (hb.mono B46.size)
  have h_pl_47 := h_pl_46.below hb
  have h_pb_47 := h_pb_46.below hb
  have h_p_47 := h_p_46.later hb
  have h_al_47 := h_al_46.below hb
  have h_ab_47 := h_ab_46.below hb
  have h_a_47 := h_a_46.later hb
  have h_bl_47 := h_bl_46.below hb
  have h_bb_47 := h_bb_46.below hb
  have h_b_47 := h_b_46.later hb
  have h_z1l_47 := h_z1l_46.below hb
  have h_z1b_47 := h_z1b_46.below hb
  have h_z1_47 := h_z1_46.later hb
  have h_z2l_47 := h_z2l_46.below hb
  have h_z2b_47 := h_z2b_46.below hb
  have h_z2_47 := h_z2_46.later hb
  have h_z3l_47 := h_z3l_46.below hb
  have h_z3b_47 := h_z3b_46.below hb
  have h_z3_47 := h_z3_46.later hb
  have h_rn_47 := h_rn_46.below hb
  have h_rd_47 := h_rd_46.below hb
  have h_r_47 := h_r_46.later hb
  clear hb B46 h_pl_46 h_pb_46 h_p_46 h_al_46 h_ab_46 h_a_46 h_bl_46 h_bb_46 h_b_46 h_z1l_46 h_z1b_46 h_z1_46 h_z2l_46 h_z2b_46 h_z2_46 h_z3l_46 h_z3b_46 h_z3_46 h_rn_46 h_rd_46 h_r_46
  go_wp2_with fail
  clear hHeld
  refine hK.out _ _ ?_ (fun hHeld => ?_)
  · exact ⟨h_p_47.cell 0 _ rfl, h_p_47.cell 1 _ rfl, h_p_47.cell 2 _ rfl, h_p_47.cell 3 _ rfl, h_p_47.cell 4 _ rfl, h_p_47.cell 5 _ rfl, h_a_47.cell 0 _ rfl, h_a_47.cell 1 _ rfl, h_a_47.cell 2 _ rfl, h_a_47.cell 3 _ rfl, h_a_47.cell 4 _ rfl, h_a_47.cell 5 _ rfl, h_b_47.cell 0 _ rfl, h_b_47.cell 1 _ rfl, h_b_47.cell 2 _ rfl, h_b_47.cell 3 _ rfl, h_b_47.cell 4 _ rfl, h_b_47.cell 5 _ rfl, h_r_47.cell 0 _ rfl, h_r_47.cell 1 _ rfl, h_r_47.cell 2 _ rfl, trivial⟩
  clear hK K
  try simp only [Act.put, List.setIfInBounds_toArray, List.set_cons_zero, List.set_cons_succ]
  refine wpAnyH_take (i := 51) (oi := ?oir26_51) (v := ?vr26_51) ?hir26_51 (by kernel_rfl) (by kernel_rfl) (by kernel_rfl) ?hqr26_51 ?hyr26_51 (by assumption) ?restr26_51
  case hir26_51 => simp only [List.getElem?_toArray, List.getElem?_cons_succ, List.getElem?_cons_zero]; rfl
  case hqr26_51 => exact fun _ _ _ h => h
  case hyr26_51 => (refine Or.inl ⟨by rfl, ?_⟩; intro w hSw; (try dsimp only at hSw); go_simp; all_goals with_reducible rfl)
  try simp only [Act.put, List.setIfInBounds_toArray, List.set_cons_zero, List.set_cons_succ]
  refine wpAnyH_take (i := 52) (oi := ?oir26_52) (v := ?vr26_52) ?hir26_52 (by kernel_rfl) (by kernel_rfl) (by kernel_rfl) ?hqr26_52 ?hyr26_52 (by assumption) ?restr26_52
  case hir26_52 => simp only [List.getElem?_toArray, List.getElem?_cons_succ, List.getElem?_cons_zero]; rfl
  case hqr26_52 => exact fun _ _ _ h => h
  case hyr26_52 => (refine Or.inl ⟨by rfl, ?_⟩; intro w hSw; (try dsimp only at hSw); go_simp; all_goals with_reducible rfl)
  try simp only [Act.put, List.setIfInBounds_toArray, List.set_cons_zero, List.set_cons_succ]
  refine wpAnyH_take (i := 53) (oi := ?oir26_53) (v := ?vr26_53) ?hir26_53 (by kernel_rfl) (by kernel_rfl) (by kernel_rfl) ?hqr26_53 ?hyr26_53 (by assumption) ?restr26_53
  case hir26_53 => simp only [List.getElem?_toArray, List.getElem?_cons_succ, List.getElem?_cons_zero]; rfl
  case hqr26_53 => exact fun _ _ _ h => h
  case hyr26_53 => (refine Or.inl ⟨by rfl, ?_⟩; intro w hSw; (try dsimp only at hSw); go_simp; all_goals with_reducible rfl)
  try simp only [Act.put, List.setIfInBounds_toArray, List.set_cons_zero, List.set_cons_succ]
  refine wpAnyH_done (by kernel_rfl) ?_ _
  clear hHeld
  go_wp2_with fail
  go_ret
  exact ⟨rfl, B47⟩

end Go.Proofs.Ytkomdiblopdfiaa
