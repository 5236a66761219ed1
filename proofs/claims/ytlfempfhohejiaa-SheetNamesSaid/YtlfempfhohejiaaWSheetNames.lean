/- The walk of the law SheetNames: it returns true and turns nothing that was there. No condition. Printed by gen_shelaws.py. -/
import Derived.Test.YtlfempfhohejiaaShfB
import Derived.BigQuiet
import Derived.Deep.CutRange
namespace Go.Proofs.Ytlfempfhohejiaa
open Go.RowKit Go.Suf
set_option linter.unusedVariables false
set_option linter.unusedSimpArgs false

set_option maxRecDepth 100000 in
set_option maxHeartbeats 8000000 in
theorem sheetNames_walk (w : World) :
    Calls Try.prog 9 #[] w fun e w' => e = .returned (.bool true) ∧ Below w.heap.size w w' := by
  have B0 : Below w.heap.size w w := Below.refl _ _
  go_enter Try.func9, Try.ntmps9
  go_wp2_with fail
  have c := three_any w
  refine c.mono ?_
  rintro e w1 ⟨a_s, a_x, rfl, h_s_1, h_x_1, hb⟩
  clear c
  have B1 := B0.trans (hb.mono B0.size)
  clear hb B0
  have O_S3 := Lib.hid h_s_1
  have O_X3 := Lib.hid h_x_1
  have O_B3 := Lib.hid B1
  have hls := rdS_addr h_s_1 (by decide)
  have hlx := rd_addr h_x_1 (by decide)
  have R0 := (PRow.new 24 w1 #[Value.string ⟨#[]⟩, .slice none 0 0, .int .i64 0, .int .u8 0]).later (below_al (w1.alloc (.cells #[Value.string ⟨#[]⟩, .slice none 0 0, .int .i64 0, .int .u8 0] 24)) (.cells #[Value.int .u8 0, .int .u8 0, .int .i64 0] 48))
  have R1 := R0.later (below_al ((w1.alloc (.cells #[Value.string ⟨#[]⟩, .slice none 0 0, .int .i64 0, .int .u8 0] 24)).alloc (.cells #[Value.int .u8 0, .int .u8 0, .int .i64 0] 48)) (.cells #[Value.slice none 0 0] 27))
  have R2 := ((PRow.new 48 (w1.alloc (.cells #[Value.string ⟨#[]⟩, .slice none 0 0, .int .i64 0, .int .u8 0] 24)) #[Value.int .u8 0, .int .u8 0, .int .i64 0]).base (PRow.new 24 w1 #[Value.string ⟨#[]⟩, .slice none 0 0, .int .i64 0, .int .u8 0]).below).later (below_al ((w1.alloc (.cells #[Value.string ⟨#[]⟩, .slice none 0 0, .int .i64 0, .int .u8 0] 24)).alloc (.cells #[Value.int .u8 0, .int .u8 0, .int .i64 0] 48)) (.cells #[Value.slice none 0 0] 27))
  have R3 := (PRow.new 27 ((w1.alloc (.cells #[Value.string ⟨#[]⟩, .slice none 0 0, .int .i64 0, .int .u8 0] 24)).alloc (.cells #[Value.int .u8 0, .int .u8 0, .int .i64 0] 48)) #[Value.slice none 0 0]).base R0.below
  clear R0
  simp only [World.size_alloc] at R1 R2 R3
  obtain ⟨G, hG⟩ : ∃ G, w1.heap.size = G := ⟨_, rfl⟩
  rw [hG] at R1 R2 R3
  obtain ⟨S2, S3, V1, V2, V3⟩ := setRow_three R1 R2 R3 (by omega) (by omega) (by omega) #[Value.string xS, .slice a_s 3 3, .int .i64 1, .int .u8 9] #[Value.int .u8 20, .int .u8 60, .int .i64 0] #[Value.slice a_x 9 9]
  have hss := rdS_three (h_s_1.below R1.below) (g1 := G) (g2 := G + 1) (g3 := G + 1 + 1) (fun p e => by have := hls p e; omega) #[Value.string xS, .slice a_s 3 3, .int .i64 1, .int .u8 9] #[Value.int .u8 20, .int .u8 60, .int .i64 0] #[Value.slice a_x 9 9]
  have hxx := rd_three (h_x_1.below R1.below) (g1 := G) (g2 := G + 1) (g3 := G + 1 + 1) (fun p e => by have := hlx p e; omega) #[Value.string xS, .slice a_s 3 3, .int .i64 1, .int .u8 9] #[Value.int .u8 20, .int .u8 60, .int .i64 0] #[Value.slice a_x 9 9]
  have hb := V1.below
  clear hls hlx
  have B2 := B1.trans (hb.mono B1.size)
  clear hb B1
  have h_s_2 := hss
  have h_x_2 := hxx
  have h_c_2 := V1
  have h_p_2 := V2
  have h_y_2 := V3
  clear hss hxx V1 V2 V3
  replace h_s_2 := Lib.hid h_s_2
  replace h_x_2 := Lib.hid h_x_2
  go_wp2_with (refine wpList_store_whole rfl 24 _ _ rfl atCon _ _ _ R1.row rfl rfl rfl rfl (con_one _ _ _ _ _ _) ?_; refine Hid.out ?_)
  clear R1 R2 R3
  generalize (((w1.alloc (.cells #[Value.string ⟨#[]⟩, .slice none 0 0, .int .i64 0, .int .u8 0] 24)).alloc (.cells #[Value.int .u8 0, .int .u8 0, .int .i64 0] 48)).alloc (.cells #[Value.slice none 0 0] 27)).setRow G #[Value.string xS, .slice a_s 3 3, .int .i64 1, .int .u8 9] = wa at *
  refine Lib.hid ?_
  go_wp2_with (refine wpList_store_whole rfl 48 _ _ rfl atPol _ _ _ S2.row rfl rfl rfl rfl (pol_one _ _ _) ?_; refine Hid.out ?_)
  clear S2
  generalize wa.setRow (G + 1) #[Value.int .u8 20, .int .u8 60, .int .i64 0] = wb at *
  refine Lib.hid ?_
  go_wp2_with (refine wpList_store_whole rfl 27 _ _ rfl atShe _ _ _ S3.row rfl rfl rfl rfl (she_one _ _ _) ?_; refine Hid.out ?_)
  clear S3
  generalize wb.setRow (G + 1 + 1) #[Value.slice a_x 9 9] = w2 at *
  refine Lib.hid ?_
  replace h_s_2 := h_s_2.out
  replace h_x_2 := h_x_2.out
  clear hG
  obtain ⟨G1, hG1⟩ : ∃ G1, G + 1 = G1 := ⟨_, rfl⟩
  obtain ⟨G2, hG2⟩ : ∃ G2, G + 1 + 1 = G2 := ⟨_, rfl⟩
  rw [hG2] at h_y_2
  rw [hG1] at h_p_2
  rw [hG2, hG1]
  clear hG1 hG2
  go_upto_region 3 with fail
  have hb := below_al w2 (.cells #[.int .u8 60, .int .u8 0, .int .u8 0, .int .u8 0, .int .u8 0, .int .u8 0, .int .u8 0, .int .u8 0, .int .u8 60] 5)
  have B3 := B2.trans (hb.mono B2.size)
  have h_s_3 := h_s_2.below hb
  have h_x_3 := h_x_2.below hb
  have h_c_3 := h_c_2.later hb
  have h_p_3 := h_p_2.later hb
  have h_y_3 := h_y_2.later hb
  clear hb B2 h_s_2 h_x_2 h_c_2 h_p_2 h_y_2
  have h_l_3 := show Rd .u8 (w2.alloc (.cells #[.int .u8 60, .int .u8 0, .int .u8 0, .int .u8 0, .int .u8 0, .int .u8 0, .int .u8 0, .int .u8 0, .int .u8 60] 5)) (some ⟨w2.heap.size, 0, none⟩) 9 9 [60, 0, 0, 0, 0, 0, 0, 0, 60] from rd_lit .u8 w2 [60, 0, 0, 0, 0, 0, 0, 0, 60] 5 9 rfl (by unfold maxLen; decide) (by decide)
  go_wp2_with fail
  generalize (w2.alloc (.cells #[.int .u8 60, .int .u8 0, .int .u8 0, .int .u8 0, .int .u8 0, .int .u8 0, .int .u8 0, .int .u8 0, .int .u8 60] 5)) = w3 at *
  have c := namesR_any w3 h_s_3 9 (by decide) h_c_3 h_l_3 (by decide) 0 (by unfold okI; decide) nm1
  rw [nm1] at c
  refine c.mono ?_
  rintro e w4 ⟨a_a, n_a, c_a, b_a, m_a, d_a, rfl, h_am_4, h_ad_4, hb⟩
  clear c
  have B4 := B3.trans (hb.mono B3.size)
  have h_s_4 := h_s_3.below hb
  have h_x_4 := h_x_3.below hb
  have h_c_4 := h_c_3.later hb
  have h_p_4 := h_p_3.later hb
  have h_y_4 := h_y_3.later hb
  have h_l_4 := h_l_3.below hb
  clear hb B3 h_s_3 h_x_3 h_c_3 h_p_3 h_y_3 h_l_3
  have hb := below_al w4 (.cells #[.int .u8 1, .slice a_a n_a c_a, .int .i64 0, .slice b_a m_a d_a] 51)
  have B5 := B4.trans (hb.mono B4.size)
  have h_s_5 := h_s_4.below hb
  have h_x_5 := h_x_4.below hb
  have h_c_5 := h_c_4.later hb
  have h_p_5 := h_p_4.later hb
  have h_y_5 := h_y_4.later hb
  have h_am_5 := h_am_4.below hb
  have h_ad_5 := h_ad_4.below hb
  clear hb B4 h_s_4 h_x_4 h_c_4 h_p_4 h_y_4 h_am_4 h_ad_4
  have h_ar_5 := PRow.new 51 w4 #[.int .u8 1, .slice a_a n_a c_a, .int .i64 0, .slice b_a m_a d_a]
  go_upto_region 4 with (first | refine wpList_store_new rfl 51 _ _ rfl atRea _ _ _ rfl rfl rfl rfl (rea_one _ _ _ _ _ _ _ _) ?_)
  generalize (w4.alloc (.cells #[.int .u8 1, .slice a_a n_a c_a, .int .i64 0, .slice b_a m_a d_a] 51)) = w5 at *
  have hb := below_al w5 (.cells #[.int .u8 60, .int .u8 0, .int .u8 0, .int .u8 0, .int .u8 0, .int .u8 0, .int .u8 0, .int .u8 0, .int .u8 60] 5)
  have B6 := B5.trans (hb.mono B5.size)
  have h_s_6 := h_s_5.below hb
  have h_x_6 := h_x_5.below hb
  have h_c_6 := h_c_5.later hb
  have h_p_6 := h_p_5.later hb
  have h_y_6 := h_y_5.later hb
  have h_am_6 := h_am_5.below hb
  have h_ar_6 := h_ar_5.later hb
  clear hb B5 h_s_5 h_x_5 h_c_5 h_p_5 h_y_5 h_am_5 h_ar_5
  have h_l_6 := show Rd .u8 (w5.alloc (.cells #[.int .u8 60, .int .u8 0, .int .u8 0, .int .u8 0, .int .u8 0, .int .u8 0, .int .u8 0, .int .u8 0, .int .u8 60] 5)) (some ⟨w5.heap.size, 0, none⟩) 9 9 [60, 0, 0, 0, 0, 0, 0, 0, 60] from rd_lit .u8 w5 [60, 0, 0, 0, 0, 0, 0, 0, 60] 5 9 rfl (by unfold maxLen; decide) (by decide)
  go_wp2_with fail
  generalize (w5.alloc (.cells #[.int .u8 60, .int .u8 0, .int .u8 0, .int .u8 0, .int .u8 0, .int .u8 0, .int .u8 0, .int .u8 0, .int .u8 60] 5)) = w6 at *
  have c := namesR_any w6 h_s_6 9 (by decide) h_c_6 h_l_6 (by decide) 1 (by unfold okI; decide) nm2
  rw [nm2] at c
  refine c.mono ?_
  rintro e w7 ⟨a_b, n_b, c_b, b_b, m_b, d_b, rfl, h_bm_7, h_bd_7, hb⟩
  clear c
  have B7 := B6.trans (hb.mono B6.size)
  have h_s_7 := h_s_6.below hb
  have h_x_7 := h_x_6.below hb
  have h_c_7 := h_c_6.later hb
  have h_p_7 := h_p_6.later hb
  have h_y_7 := h_y_6.later hb
  have h_am_7 := h_am_6.below hb
  have h_ar_7 := h_ar_6.later hb
  have h_l_7 := h_l_6.below hb
  clear hb B6 h_s_6 h_x_6 h_c_6 h_p_6 h_y_6 h_am_6 h_ar_6 h_l_6
  have hb := below_al w7 (.cells #[.int .u8 1, .slice a_b n_b c_b, .int .i64 0, .slice b_b m_b d_b] 51)
  have B8 := B7.trans (hb.mono B7.size)
  have h_s_8 := h_s_7.below hb
  have h_x_8 := h_x_7.below hb
  have h_c_8 := h_c_7.later hb
  have h_p_8 := h_p_7.later hb
  have h_y_8 := h_y_7.later hb
  have h_am_8 := h_am_7.below hb
  have h_ar_8 := h_ar_7.later hb
  have h_bm_8 := h_bm_7.below hb
  have h_bd_8 := h_bd_7.below hb
  clear hb B7 h_s_7 h_x_7 h_c_7 h_p_7 h_y_7 h_am_7 h_ar_7 h_bm_7 h_bd_7
  have h_br_8 := PRow.new 51 w7 #[.int .u8 1, .slice a_b n_b c_b, .int .i64 0, .slice b_b m_b d_b]
  go_upto_region 5 with (first | refine wpList_store_new rfl 51 _ _ rfl atRea _ _ _ rfl rfl rfl rfl (rea_one _ _ _ _ _ _ _ _) ?_)
  generalize (w7.alloc (.cells #[.int .u8 1, .slice a_b n_b c_b, .int .i64 0, .slice b_b m_b d_b] 51)) = w8 at *
  have hb := below_al w8 (.cells #[.int .u8 100, .int .u8 0, .int .u8 0, .int .u8 0, .int .u8 100, .int .u8 0, .int .u8 0, .int .u8 100, .int .u8 0] 5)
  have B9 := B8.trans (hb.mono B8.size)
  have h_s_9 := h_s_8.below hb
  have h_x_9 := h_x_8.below hb
  have h_c_9 := h_c_8.later hb
  have h_p_9 := h_p_8.later hb
  have h_y_9 := h_y_8.later hb
  have h_am_9 := h_am_8.below hb
  have h_ar_9 := h_ar_8.later hb
  have h_bm_9 := h_bm_8.below hb
  have h_br_9 := h_br_8.later hb
  clear hb B8 h_s_8 h_x_8 h_c_8 h_p_8 h_y_8 h_am_8 h_ar_8 h_bm_8 h_br_8
  have h_l_9 := show Rd .u8 (w8.alloc (.cells #[.int .u8 100, .int .u8 0, .int .u8 0, .int .u8 0, .int .u8 100, .int .u8 0, .int .u8 0, .int .u8 100, .int .u8 0] 5)) (some ⟨w8.heap.size, 0, none⟩) 9 9 [100, 0, 0, 0, 100, 0, 0, 100, 0] from rd_lit .u8 w8 [100, 0, 0, 0, 100, 0, 0, 100, 0] 5 9 rfl (by unfold maxLen; decide) (by decide)
  go_wp2_with fail
  generalize (w8.alloc (.cells #[.int .u8 100, .int .u8 0, .int .u8 0, .int .u8 0, .int .u8 100, .int .u8 0, .int .u8 0, .int .u8 100, .int .u8 0] 5)) = w9 at *
  have c := namesR_any w9 h_s_9 9 (by decide) h_c_9 h_l_9 (by decide) 0 (by unfold okI; decide) nm3
  rw [nm3] at c
  refine c.mono ?_
  rintro e w10 ⟨a_d, n_d, c_d, b_d, m_d, d_d, rfl, h_dm_10, h_dd_10, hb⟩
  clear c
  have B10 := B9.trans (hb.mono B9.size)
  have h_s_10 := h_s_9.below hb
  have h_x_10 := h_x_9.below hb
  have h_c_10 := h_c_9.later hb
  have h_p_10 := h_p_9.later hb
  have h_y_10 := h_y_9.later hb
  have h_am_10 := h_am_9.below hb
  have h_ar_10 := h_ar_9.later hb
  have h_bm_10 := h_bm_9.below hb
  have h_br_10 := h_br_9.later hb
  have h_l_10 := h_l_9.below hb
  clear hb B9 h_s_9 h_x_9 h_c_9 h_p_9 h_y_9 h_am_9 h_ar_9 h_bm_9 h_br_9 h_l_9
  have hb := below_al w10 (.cells #[.int .u8 1, .slice a_d n_d c_d, .int .i64 1, .slice b_d m_d d_d] 51)
  have B11 := B10.trans (hb.mono B10.size)
  have h_s_11 := h_s_10.below hb
  have h_x_11 := h_x_10.below hb
  have h_c_11 := h_c_10.later hb
  have h_p_11 := h_p_10.later hb
  have h_y_11 := h_y_10.later hb
  have h_am_11 := h_am_10.below hb
  have h_ar_11 := h_ar_10.later hb
  have h_bm_11 := h_bm_10.below hb
  have h_br_11 := h_br_10.later hb
  have h_dm_11 := h_dm_10.below hb
  have h_dd_11 := h_dd_10.below hb
  clear hb B10 h_s_10 h_x_10 h_c_10 h_p_10 h_y_10 h_am_10 h_ar_10 h_bm_10 h_br_10 h_dm_10 h_dd_10
  have h_dr_11 := PRow.new 51 w10 #[.int .u8 1, .slice a_d n_d c_d, .int .i64 1, .slice b_d m_d d_d]
  go_upto_region 6 with (first | refine wpList_store_new rfl 51 _ _ rfl atRea _ _ _ rfl rfl rfl rfl (rea_one _ _ _ _ _ _ _ _) ?_)
  generalize (w10.alloc (.cells #[.int .u8 1, .slice a_d n_d c_d, .int .i64 1, .slice b_d m_d d_d] 51)) = w11 at *
  have hb := below_al w11 (.cells #[.int .u8 100, .int .u8 100, .int .u8 0, .int .u8 0, .int .u8 0, .int .u8 100, .int .u8 0, .int .u8 0, .int .u8 0] 5)
  have B12 := B11.trans (hb.mono B11.size)
  have h_s_12 := h_s_11.below hb
  have h_x_12 := h_x_11.below hb
  have h_c_12 := h_c_11.later hb
  have h_p_12 := h_p_11.later hb
  have h_y_12 := h_y_11.later hb
  have h_am_12 := h_am_11.below hb
  have h_ar_12 := h_ar_11.later hb
  have h_bm_12 := h_bm_11.below hb
  have h_br_12 := h_br_11.later hb
  have h_dm_12 := h_dm_11.below hb
  have h_dr_12 := h_dr_11.later hb
  clear hb B11 h_s_11 h_x_11 h_c_11 h_p_11 h_y_11 h_am_11 h_ar_11 h_bm_11 h_br_11 h_dm_11 h_dr_11
  have h_l_12 := show Rd .u8 (w11.alloc (.cells #[.int .u8 100, .int .u8 100, .int .u8 0, .int .u8 0, .int .u8 0, .int .u8 100, .int .u8 0, .int .u8 0, .int .u8 0] 5)) (some ⟨w11.heap.size, 0, none⟩) 9 9 [100, 100, 0, 0, 0, 100, 0, 0, 0] from rd_lit .u8 w11 [100, 100, 0, 0, 0, 100, 0, 0, 0] 5 9 rfl (by unfold maxLen; decide) (by decide)
  go_wp2_with fail
  generalize (w11.alloc (.cells #[.int .u8 100, .int .u8 100, .int .u8 0, .int .u8 0, .int .u8 0, .int .u8 100, .int .u8 0, .int .u8 0, .int .u8 0] 5)) = w12 at *
  have c := namesR_any w12 h_s_12 9 (by decide) h_c_12 h_l_12 (by decide) 0 (by unfold okI; decide) nm4
  rw [nm4] at c
  refine c.mono ?_
  rintro e w13 ⟨a_f, n_f, c_f, b_f, m_f, d_f, rfl, h_fm_13, h_fd_13, hb⟩
  clear c
  have B13 := B12.trans (hb.mono B12.size)
  have h_s_13 := h_s_12.below hb
  have h_x_13 := h_x_12.below hb
  have h_c_13 := h_c_12.later hb
  have h_p_13 := h_p_12.later hb
  have h_y_13 := h_y_12.later hb
  have h_am_13 := h_am_12.below hb
  have h_ar_13 := h_ar_12.later hb
  have h_bm_13 := h_bm_12.below hb
  have h_br_13 := h_br_12.later hb
  have h_dm_13 := h_dm_12.below hb
  have h_dr_13 := h_dr_12.later hb
  have h_l_13 := h_l_12.below hb
  clear hb B12 h_s_12 h_x_12 h_c_12 h_p_12 h_y_12 h_am_12 h_ar_12 h_bm_12 h_br_12 h_dm_12 h_dr_12 h_l_12
  have hb := below_al w13 (.cells #[.int .u8 1, .slice a_f n_f c_f, .int .i64 0, .slice b_f m_f d_f] 51)
  have B14 := B13.trans (hb.mono B13.size)
  have h_s_14 := h_s_13.below hb
  have h_x_14 := h_x_13.below hb
  have h_c_14 := h_c_13.later hb
  have h_p_14 := h_p_13.later hb
  have h_y_14 := h_y_13.later hb
  have h_am_14 := h_am_13.below hb
  have h_ar_14 := h_ar_13.later hb
  have h_bm_14 := h_bm_13.below hb
  have h_br_14 := h_br_13.later hb
  have h_dm_14 := h_dm_13.below hb
  have h_dr_14 := h_dr_13.later hb
  have h_fm_14 := h_fm_13.below hb
  have h_fd_14 := h_fd_13.below hb
  clear hb B13 h_s_13 h_x_13 h_c_13 h_p_13 h_y_13 h_am_13 h_ar_13 h_bm_13 h_br_13 h_dm_13 h_dr_13 h_fm_13 h_fd_13
  have h_fr_14 := PRow.new 51 w13 #[.int .u8 1, .slice a_f n_f c_f, .int .i64 0, .slice b_f m_f d_f]
  go_upto_region 7 with (first | refine wpList_store_new rfl 51 _ _ rfl atRea _ _ _ rfl rfl rfl rfl (rea_one _ _ _ _ _ _ _ _) ?_)
  generalize (w13.alloc (.cells #[.int .u8 1, .slice a_f n_f c_f, .int .i64 0, .slice b_f m_f d_f] 51)) = w14 at *
  have k_ar_0 := h_ar_14.cell 0 _ rfl
  have k_ar_1 := h_ar_14.cell 1 _ rfl
  have k_ar_2 := h_ar_14.cell 2 _ rfl
  have k_ar_3 := h_ar_14.cell 3 _ rfl
  have hb := below_al w14 (.cells #[.int .i64 0, .int .i64 2] 3)
  have B15 := B14.trans (hb.mono B14.size)
  have h_s_15 := h_s_14.below hb
  have h_x_15 := h_x_14.below hb
  have h_c_15 := h_c_14.later hb
  have h_p_15 := h_p_14.later hb
  have h_y_15 := h_y_14.later hb
  have h_am_15 := h_am_14.below hb
  have h_ar_15 := h_ar_14.later hb
  have h_bm_15 := h_bm_14.below hb
  have h_br_15 := h_br_14.later hb
  have h_dm_15 := h_dm_14.below hb
  have h_dr_15 := h_dr_14.later hb
  have h_fm_15 := h_fm_14.below hb
  have h_fr_15 := h_fr_14.later hb
  clear hb B14 h_s_14 h_x_14 h_c_14 h_p_14 h_y_14 h_am_14 h_ar_14 h_bm_14 h_br_14 h_dm_14 h_dr_14 h_fm_14 h_fr_14
  have h_i_15 := show RdI (w14.alloc (.cells #[.int .i64 0, .int .i64 2] 3)) (some ⟨w14.heap.size, 0, none⟩) 2 2 [0, 2] from rdI_lit w14 [0, 2] (by unfold maxLen; decide) (by unfold okI; decide)
  go_wp2_with fail
  clear k_ar_0 k_ar_1 k_ar_2 k_ar_3
  generalize (w14.alloc (.cells #[.int .i64 0, .int .i64 2] 3)) = w15 at *
  have c := Ints_any w15 (h_am_15.rd oneI) h_i_15
  rw [show decide (([0, 2] : List Int) = [0, 2]) = true from rfl] at c
  refine c.mono ?_
  rintro e w16 ⟨rfl, hb⟩
  clear c
  have B16 := B15.trans (hb.mono B15.size)
  have h_s_16 := h_s_15.below hb
  have h_x_16 := h_x_15.below hb
  have h_c_16 := h_c_15.later hb
  have h_p_16 := h_p_15.later hb
  have h_y_16 := h_y_15.later hb
  have h_am_16 := h_am_15.below hb
  have h_ar_16 := h_ar_15.later hb
  have h_bm_16 := h_bm_15.below hb
  have h_br_16 := h_br_15.later hb
  have h_dm_16 := h_dm_15.below hb
  have h_dr_16 := h_dr_15.later hb
  have h_fm_16 := h_fm_15.below hb
  have h_fr_16 := h_fr_15.later hb
  have h_i_16 := h_i_15.below hb
  clear hb B15 h_s_15 h_x_15 h_c_15 h_p_15 h_y_15 h_am_15 h_ar_15 h_bm_15 h_br_15 h_dm_15 h_dr_15 h_fm_15 h_fr_15 h_i_15
  have k_br_0 := h_br_16.cell 0 _ rfl
  have k_br_1 := h_br_16.cell 1 _ rfl
  have k_br_2 := h_br_16.cell 2 _ rfl
  have k_br_3 := h_br_16.cell 3 _ rfl
  have hb := below_al w16 (.cells #[.int .i64 0] 3)
  have B17 := B16.trans (hb.mono B16.size)
  have h_s_17 := h_s_16.below hb
  have h_x_17 := h_x_16.below hb
  have h_c_17 := h_c_16.later hb
  have h_p_17 := h_p_16.later hb
  have h_y_17 := h_y_16.later hb
  have h_am_17 := h_am_16.below hb
  have h_ar_17 := h_ar_16.later hb
  have h_bm_17 := h_bm_16.below hb
  have h_br_17 := h_br_16.later hb
  have h_dm_17 := h_dm_16.below hb
  have h_dr_17 := h_dr_16.later hb
  have h_fm_17 := h_fm_16.below hb
  have h_fr_17 := h_fr_16.later hb
  clear hb B16 h_s_16 h_x_16 h_c_16 h_p_16 h_y_16 h_am_16 h_ar_16 h_bm_16 h_br_16 h_dm_16 h_dr_16 h_fm_16 h_fr_16
  have h_i_17 := show RdI (w16.alloc (.cells #[.int .i64 0] 3)) (some ⟨w16.heap.size, 0, none⟩) 1 1 [0] from rdI_lit w16 [0] (by unfold maxLen; decide) (by unfold okI; decide)
  go_wp2_with fail
  clear k_br_0 k_br_1 k_br_2 k_br_3
  generalize (w16.alloc (.cells #[.int .i64 0] 3)) = w17 at *
  have c := Ints_any w17 (h_bm_17.rd oneI) h_i_17
  rw [show decide (([0] : List Int) = [0]) = true from rfl] at c
  refine c.mono ?_
  rintro e w18 ⟨rfl, hb⟩
  clear c
  have B18 := B17.trans (hb.mono B17.size)
  have h_s_18 := h_s_17.below hb
  have h_x_18 := h_x_17.below hb
  have h_c_18 := h_c_17.later hb
  have h_p_18 := h_p_17.later hb
  have h_y_18 := h_y_17.later hb
  have h_am_18 := h_am_17.below hb
  have h_ar_18 := h_ar_17.later hb
  have h_bm_18 := h_bm_17.below hb
  have h_br_18 := h_br_17.later hb
  have h_dm_18 := h_dm_17.below hb
  have h_dr_18 := h_dr_17.later hb
  have h_fm_18 := h_fm_17.below hb
  have h_fr_18 := h_fr_17.later hb
  have h_i_18 := h_i_17.below hb
  clear hb B17 h_s_17 h_x_17 h_c_17 h_p_17 h_y_17 h_am_17 h_ar_17 h_bm_17 h_br_17 h_dm_17 h_dr_17 h_fm_17 h_fr_17 h_i_17
  have k_br_0 := h_br_18.cell 0 _ rfl
  have k_br_1 := h_br_18.cell 1 _ rfl
  have k_br_2 := h_br_18.cell 2 _ rfl
  have k_br_3 := h_br_18.cell 3 _ rfl
  have k_dr_0 := h_dr_18.cell 0 _ rfl
  have k_dr_1 := h_dr_18.cell 1 _ rfl
  have k_dr_2 := h_dr_18.cell 2 _ rfl
  have k_dr_3 := h_dr_18.cell 3 _ rfl
  have hb := below_al w18 (.cells #[.int .i64 0] 3)
  have B19 := B18.trans (hb.mono B18.size)
  have h_s_19 := h_s_18.below hb
  have h_x_19 := h_x_18.below hb
  have h_c_19 := h_c_18.later hb
  have h_p_19 := h_p_18.later hb
  have h_y_19 := h_y_18.later hb
  have h_am_19 := h_am_18.below hb
  have h_ar_19 := h_ar_18.later hb
  have h_bm_19 := h_bm_18.below hb
  have h_br_19 := h_br_18.later hb
  have h_dm_19 := h_dm_18.below hb
  have h_dr_19 := h_dr_18.later hb
  have h_fm_19 := h_fm_18.below hb
  have h_fr_19 := h_fr_18.later hb
  clear hb B18 h_s_18 h_x_18 h_c_18 h_p_18 h_y_18 h_am_18 h_ar_18 h_bm_18 h_br_18 h_dm_18 h_dr_18 h_fm_18 h_fr_18
  have h_i_19 := show RdI (w18.alloc (.cells #[.int .i64 0] 3)) (some ⟨w18.heap.size, 0, none⟩) 1 1 [0] from rdI_lit w18 [0] (by unfold maxLen; decide) (by unfold okI; decide)
  go_wp2_with fail
  clear k_br_0 k_br_1 k_br_2 k_br_3 k_dr_0 k_dr_1 k_dr_2 k_dr_3
  generalize (w18.alloc (.cells #[.int .i64 0] 3)) = w19 at *
  have c := Ints_any w19 (h_dm_19.rd oneI) h_i_19
  rw [show decide (([0] : List Int) = [0]) = true from rfl] at c
  refine c.mono ?_
  rintro e w20 ⟨rfl, hb⟩
  clear c
  have B20 := B19.trans (hb.mono B19.size)
  have h_s_20 := h_s_19.below hb
  have h_x_20 := h_x_19.below hb
  have h_c_20 := h_c_19.later hb
  have h_p_20 := h_p_19.later hb
  have h_y_20 := h_y_19.later hb
  have h_am_20 := h_am_19.below hb
  have h_ar_20 := h_ar_19.later hb
  have h_bm_20 := h_bm_19.below hb
  have h_br_20 := h_br_19.later hb
  have h_dm_20 := h_dm_19.below hb
  have h_dr_20 := h_dr_19.later hb
  have h_fm_20 := h_fm_19.below hb
  have h_fr_20 := h_fr_19.later hb
  have h_i_20 := h_i_19.below hb
  clear hb B19 h_s_19 h_x_19 h_c_19 h_p_19 h_y_19 h_am_19 h_ar_19 h_bm_19 h_br_19 h_dm_19 h_dr_19 h_fm_19 h_fr_19 h_i_19
  have k_dr_0 := h_dr_20.cell 0 _ rfl
  have k_dr_1 := h_dr_20.cell 1 _ rfl
  have k_dr_2 := h_dr_20.cell 2 _ rfl
  have k_dr_3 := h_dr_20.cell 3 _ rfl
  have k_fr_0 := h_fr_20.cell 0 _ rfl
  have k_fr_1 := h_fr_20.cell 1 _ rfl
  have k_fr_2 := h_fr_20.cell 2 _ rfl
  have k_fr_3 := h_fr_20.cell 3 _ rfl
  have hb := below_al w20 (.cells #[.int .i64 0, .int .i64 1] 3)
  have B21 := B20.trans (hb.mono B20.size)
  have h_s_21 := h_s_20.below hb
  have h_x_21 := h_x_20.below hb
  have h_c_21 := h_c_20.later hb
  have h_p_21 := h_p_20.later hb
  have h_y_21 := h_y_20.later hb
  have h_am_21 := h_am_20.below hb
  have h_ar_21 := h_ar_20.later hb
  have h_bm_21 := h_bm_20.below hb
  have h_br_21 := h_br_20.later hb
  have h_dm_21 := h_dm_20.below hb
  have h_dr_21 := h_dr_20.later hb
  have h_fm_21 := h_fm_20.below hb
  have h_fr_21 := h_fr_20.later hb
  clear hb B20 h_s_20 h_x_20 h_c_20 h_p_20 h_y_20 h_am_20 h_ar_20 h_bm_20 h_br_20 h_dm_20 h_dr_20 h_fm_20 h_fr_20
  have h_i_21 := show RdI (w20.alloc (.cells #[.int .i64 0, .int .i64 1] 3)) (some ⟨w20.heap.size, 0, none⟩) 2 2 [0, 1] from rdI_lit w20 [0, 1] (by unfold maxLen; decide) (by unfold okI; decide)
  go_wp2_with fail
  clear k_dr_0 k_dr_1 k_dr_2 k_dr_3 k_fr_0 k_fr_1 k_fr_2 k_fr_3
  generalize (w20.alloc (.cells #[.int .i64 0, .int .i64 1] 3)) = w21 at *
  have c := Ints_any w21 (h_fm_21.rd oneI) h_i_21
  rw [show decide (([0, 1] : List Int) = [0, 1]) = true from rfl] at c
  refine c.mono ?_
  rintro e w22 ⟨rfl, hb⟩
  clear c
  have B22 := B21.trans (hb.mono B21.size)
  have h_s_22 := h_s_21.below hb
  have h_x_22 := h_x_21.below hb
  have h_c_22 := h_c_21.later hb
  have h_p_22 := h_p_21.later hb
  have h_y_22 := h_y_21.later hb
  have h_am_22 := h_am_21.below hb
  have h_ar_22 := h_ar_21.later hb
  have h_bm_22 := h_bm_21.below hb
  have h_br_22 := h_br_21.later hb
  have h_dm_22 := h_dm_21.below hb
  have h_dr_22 := h_dr_21.later hb
  have h_fm_22 := h_fm_21.below hb
  have h_fr_22 := h_fr_21.later hb
  have h_i_22 := h_i_21.below hb
  clear hb B21 h_s_21 h_x_21 h_c_21 h_p_21 h_y_21 h_am_21 h_ar_21 h_bm_21 h_br_21 h_dm_21 h_dr_21 h_fm_21 h_fr_21 h_i_21
  go_upto_region 8 with fail
  have k_c_0 := h_c_22.cell 0 _ rfl
  have k_c_1 := h_c_22.cell 1 _ rfl
  have k_c_2 := h_c_22.cell 2 _ rfl
  have k_c_3 := h_c_22.cell 3 _ rfl
  have k_y_0 := h_y_22.cell 0 _ rfl
  go_wp2_with fail
  clear k_c_0 k_c_1 k_c_2 k_c_3 k_y_0
  have c := Read_any w22 xS h_s_22 1 (by decide) (by decide) 9 (by decide) ⟨0, 60, 0⟩ (by unfold PW okI; decide) h_x_22 (RdD.nils w22) (by decide) (by decide)
  rw [show readR xS [aS, bS, cS] 1 9 ⟨0, 60, 0⟩ box3 [] = _ from ng1] at c
  refine c.mono ?_
  rintro e w23 ⟨a_q, n_q, c_q, b_q, m_q, d_q, rfl, -, -, -, hb⟩
  clear c
  have B23 := B22.trans (hb.mono B22.size)
  have h_s_23 := h_s_22.below hb
  have h_x_23 := h_x_22.below hb
  have h_c_23 := h_c_22.later hb
  have h_p_23 := h_p_22.later hb
  have h_y_23 := h_y_22.later hb
  clear hb B22 h_s_22 h_x_22 h_c_22 h_p_22 h_y_22
  have hb := below_al w23 (.cells #[.int .u8 0, .slice a_q n_q c_q, .int .i64 0, .slice b_q m_q d_q] 51)
  have B24 := B23.trans (hb.mono B23.size)
  have h_s_24 := h_s_23.below hb
  have h_x_24 := h_x_23.below hb
  have h_c_24 := h_c_23.later hb
  have h_p_24 := h_p_23.later hb
  have h_y_24 := h_y_23.later hb
  clear hb B23 h_s_23 h_x_23 h_c_23 h_p_23 h_y_23
  go_upto_region 9 with (first | refine wpList_store_new rfl 51 _ _ rfl atRea _ _ _ rfl rfl rfl rfl (rea_one _ _ _ _ _ _ _ _) ?_)
  generalize (w23.alloc (.cells #[.int .u8 0, .slice a_q n_q c_q, .int .i64 0, .slice b_q m_q d_q] 51)) = w24 at *
  have k_c_0 := h_c_24.cell 0 _ rfl
  have k_c_1 := h_c_24.cell 1 _ rfl
  have k_c_2 := h_c_24.cell 2 _ rfl
  have k_c_3 := h_c_24.cell 3 _ rfl
  have k_y_0 := h_y_24.cell 0 _ rfl
  go_wp2_with fail
  clear k_c_0 k_c_1 k_c_2 k_c_3 k_y_0
  have c := Read_any w24 xS h_s_24 1 (by decide) (by decide) 9 (by decide) ⟨61, 60, 0⟩ (by unfold PW okI; decide) h_x_24 (RdD.nils w24) (by decide) (by decide)
  rw [show readR xS [aS, bS, cS] 1 9 ⟨61, 60, 0⟩ box3 [] = _ from ng2] at c
  refine c.mono ?_
  rintro e w25 ⟨a_q, n_q, c_q, b_q, m_q, d_q, rfl, -, -, -, hb⟩
  clear c
  have B25 := B24.trans (hb.mono B24.size)
  have h_s_25 := h_s_24.below hb
  have h_x_25 := h_x_24.below hb
  have h_c_25 := h_c_24.later hb
  have h_p_25 := h_p_24.later hb
  have h_y_25 := h_y_24.later hb
  clear hb B24 h_s_24 h_x_24 h_c_24 h_p_24 h_y_24
  have hb := below_al w25 (.cells #[.int .u8 0, .slice a_q n_q c_q, .int .i64 0, .slice b_q m_q d_q] 51)
  have B26 := B25.trans (hb.mono B25.size)
  have h_s_26 := h_s_25.below hb
  have h_x_26 := h_x_25.below hb
  have h_c_26 := h_c_25.later hb
  have h_p_26 := h_p_25.later hb
  have h_y_26 := h_y_25.later hb
  clear hb B25 h_s_25 h_x_25 h_c_25 h_p_25 h_y_25
  go_upto_region 10 with (first | refine wpList_store_new rfl 51 _ _ rfl atRea _ _ _ rfl rfl rfl rfl (rea_one _ _ _ _ _ _ _ _) ?_)
  generalize (w25.alloc (.cells #[.int .u8 0, .slice a_q n_q c_q, .int .i64 0, .slice b_q m_q d_q] 51)) = w26 at *
  have k_c_0 := h_c_26.cell 0 _ rfl
  have k_c_1 := h_c_26.cell 1 _ rfl
  have k_c_2 := h_c_26.cell 2 _ rfl
  have k_c_3 := h_c_26.cell 3 _ rfl
  have k_y_0 := h_y_26.cell 0 _ rfl
  go_wp2_with fail
  clear k_c_0 k_c_1 k_c_2 k_c_3 k_y_0
  have c := Read_any w26 xS h_s_26 1 (by decide) (by decide) 9 (by decide) ⟨1, 101, 0⟩ (by unfold PW okI; decide) h_x_26 (RdD.nils w26) (by decide) (by decide)
  rw [show readR xS [aS, bS, cS] 1 9 ⟨1, 101, 0⟩ box3 [] = _ from ng3] at c
  refine c.mono ?_
  rintro e w27 ⟨a_q, n_q, c_q, b_q, m_q, d_q, rfl, -, -, -, hb⟩
  clear c
  have B27 := B26.trans (hb.mono B26.size)
  have h_s_27 := h_s_26.below hb
  have h_x_27 := h_x_26.below hb
  have h_c_27 := h_c_26.later hb
  have h_p_27 := h_p_26.later hb
  have h_y_27 := h_y_26.later hb
  clear hb B26 h_s_26 h_x_26 h_c_26 h_p_26 h_y_26
  have hb := below_al w27 (.cells #[.int .u8 0, .slice a_q n_q c_q, .int .i64 0, .slice b_q m_q d_q] 51)
  have B28 := B27.trans (hb.mono B27.size)
  have h_s_28 := h_s_27.below hb
  have h_x_28 := h_x_27.below hb
  have h_c_28 := h_c_27.later hb
  have h_p_28 := h_p_27.later hb
  have h_y_28 := h_y_27.later hb
  clear hb B27 h_s_27 h_x_27 h_c_27 h_p_27 h_y_27
  go_upto_region 11 with (first | refine wpList_store_new rfl 51 _ _ rfl atRea _ _ _ rfl rfl rfl rfl (rea_one _ _ _ _ _ _ _ _) ?_)
  generalize (w27.alloc (.cells #[.int .u8 0, .slice a_q n_q c_q, .int .i64 0, .slice b_q m_q d_q] 51)) = w28 at *
  have k_c_0 := h_c_28.cell 0 _ rfl
  have k_c_1 := h_c_28.cell 1 _ rfl
  have k_c_2 := h_c_28.cell 2 _ rfl
  have k_c_3 := h_c_28.cell 3 _ rfl
  have k_y_0 := h_y_28.cell 0 _ rfl
  go_wp2_with fail
  clear k_c_0 k_c_1 k_c_2 k_c_3 k_y_0
  have c := Read_any w28 xS h_s_28 1 (by decide) (by decide) 9 (by decide) ⟨1, 1, 11⟩ (by unfold PW okI; decide) h_x_28 (RdD.nils w28) (by decide) (by decide)
  rw [show readR xS [aS, bS, cS] 1 9 ⟨1, 1, 11⟩ box3 [] = _ from ng4] at c
  refine c.mono ?_
  rintro e w29 ⟨a_q, n_q, c_q, b_q, m_q, d_q, rfl, -, -, -, hb⟩
  clear c
  have B29 := B28.trans (hb.mono B28.size)
  have h_s_29 := h_s_28.below hb
  have h_x_29 := h_x_28.below hb
  have h_c_29 := h_c_28.later hb
  have h_p_29 := h_p_28.later hb
  have h_y_29 := h_y_28.later hb
  clear hb B28 h_s_28 h_x_28 h_c_28 h_p_28 h_y_28
  have hb := below_al w29 (.cells #[.int .u8 0, .slice a_q n_q c_q, .int .i64 0, .slice b_q m_q d_q] 51)
  have B30 := B29.trans (hb.mono B29.size)
  have h_s_30 := h_s_29.below hb
  have h_x_30 := h_x_29.below hb
  have h_c_30 := h_c_29.later hb
  have h_p_30 := h_p_29.later hb
  have h_y_30 := h_y_29.later hb
  clear hb B29 h_s_29 h_x_29 h_c_29 h_p_29 h_y_29
  go_upto_region 12 with (first | refine wpList_store_new rfl 51 _ _ rfl atRea _ _ _ rfl rfl rfl rfl (rea_one _ _ _ _ _ _ _ _) ?_)
  generalize (w29.alloc (.cells #[.int .u8 0, .slice a_q n_q c_q, .int .i64 0, .slice b_q m_q d_q] 51)) = w30 at *
  have k_c_0 := h_c_30.cell 0 _ rfl
  have k_c_1 := h_c_30.cell 1 _ rfl
  have k_c_2 := h_c_30.cell 2 _ rfl
  have k_c_3 := h_c_30.cell 3 _ rfl
  have k_p_0 := h_p_30.cell 0 _ rfl
  have k_p_1 := h_p_30.cell 1 _ rfl
  have k_p_2 := h_p_30.cell 2 _ rfl
  have k_y_0 := h_y_30.cell 0 _ rfl
  have hb := below_al w30 (.cells #[.int .i64 0, .bool true] 58)
  have B31 := B30.trans (hb.mono B30.size)
  have h_s_31 := h_s_30.below hb
  have h_x_31 := h_x_30.below hb
  have h_c_31 := h_c_30.later hb
  have h_p_31 := h_p_30.later hb
  have h_y_31 := h_y_30.later hb
  clear hb B30 h_s_30 h_x_30 h_c_30 h_p_30 h_y_30
  have h_l_31 := rdD_one w30 ⟨0, true⟩ (by unfold okI; decide)
  go_wp2_with fail
  clear k_c_0 k_c_1 k_c_2 k_c_3 k_p_0 k_p_1 k_p_2 k_y_0
  generalize (w30.alloc (.cells #[.int .i64 0, .bool true] 58)) = w31 at *
  have c := Read_any w31 xS h_s_31 1 (by decide) (by decide) 9 (by decide) ⟨20, 60, 0⟩ (by unfold PW okI; decide) h_x_31 h_l_31 (by decide) (by decide)
  rw [show readR xS [aS, bS, cS] 1 9 ⟨20, 60, 0⟩ box3 [⟨0, true⟩] = _ from ng5] at c
  refine c.mono ?_
  rintro e w32 ⟨a_q, n_q, c_q, b_q, m_q, d_q, rfl, -, -, -, hb⟩
  clear c
  have B32 := B31.trans (hb.mono B31.size)
  have h_s_32 := h_s_31.below hb
  have h_x_32 := h_x_31.below hb
  have h_c_32 := h_c_31.later hb
  have h_p_32 := h_p_31.later hb
  have h_y_32 := h_y_31.later hb
  have h_l_32 := h_l_31.below hb
  clear hb B31 h_s_31 h_x_31 h_c_31 h_p_31 h_y_31 h_l_31
  have hb := below_al w32 (.cells #[.int .u8 0, .slice a_q n_q c_q, .int .i64 0, .slice b_q m_q d_q] 51)
  have B33 := B32.trans (hb.mono B32.size)
  have h_s_33 := h_s_32.below hb
  have h_x_33 := h_x_32.below hb
  have h_c_33 := h_c_32.later hb
  have h_p_33 := h_p_32.later hb
  have h_y_33 := h_y_32.later hb
  clear hb B32 h_s_32 h_x_32 h_c_32 h_p_32 h_y_32
  go_upto_region 13 with (first | refine wpList_store_new rfl 51 _ _ rfl atRea _ _ _ rfl rfl rfl rfl (rea_one _ _ _ _ _ _ _ _) ?_)
  generalize (w32.alloc (.cells #[.int .u8 0, .slice a_q n_q c_q, .int .i64 0, .slice b_q m_q d_q] 51)) = w33 at *
  have k_c_0 := h_c_33.cell 0 _ rfl
  have k_c_1 := h_c_33.cell 1 _ rfl
  have k_c_2 := h_c_33.cell 2 _ rfl
  have k_c_3 := h_c_33.cell 3 _ rfl
  have k_p_0 := h_p_33.cell 0 _ rfl
  have k_p_1 := h_p_33.cell 1 _ rfl
  have k_p_2 := h_p_33.cell 2 _ rfl
  have k_y_0 := h_y_33.cell 0 _ rfl
  have hb := below_al w33 (.cells #[.int .i64 8, .bool false, .int .i64 8, .bool false] 58)
  have B34 := B33.trans (hb.mono B33.size)
  have h_s_34 := h_s_33.below hb
  have h_x_34 := h_x_33.below hb
  have h_c_34 := h_c_33.later hb
  have h_p_34 := h_p_33.later hb
  have h_y_34 := h_y_33.later hb
  clear hb B33 h_s_33 h_x_33 h_c_33 h_p_33 h_y_33
  have h_l_34 := rdD_two w33
  go_wp2_with fail
  clear k_c_0 k_c_1 k_c_2 k_c_3 k_p_0 k_p_1 k_p_2 k_y_0
  generalize (w33.alloc (.cells #[.int .i64 8, .bool false, .int .i64 8, .bool false] 58)) = w34 at *
  have c := Read_any w34 xS h_s_34 1 (by decide) (by decide) 9 (by decide) ⟨20, 60, 0⟩ (by unfold PW okI; decide) h_x_34 h_l_34 (by decide) (by decide)
  rw [show readR xS [aS, bS, cS] 1 9 ⟨20, 60, 0⟩ box3 [⟨8, false⟩, ⟨8, false⟩] = _ from ng6] at c
  refine c.mono ?_
  rintro e w35 ⟨a_q, n_q, c_q, b_q, m_q, d_q, rfl, -, -, -, hb⟩
  clear c
  have B35 := B34.trans (hb.mono B34.size)
  have h_s_35 := h_s_34.below hb
  have h_x_35 := h_x_34.below hb
  have h_c_35 := h_c_34.later hb
  have h_p_35 := h_p_34.later hb
  have h_y_35 := h_y_34.later hb
  have h_l_35 := h_l_34.below hb
  clear hb B34 h_s_34 h_x_34 h_c_34 h_p_34 h_y_34 h_l_34
  have hb := below_al w35 (.cells #[.int .u8 0, .slice a_q n_q c_q, .int .i64 0, .slice b_q m_q d_q] 51)
  have B36 := B35.trans (hb.mono B35.size)
  have h_s_36 := h_s_35.below hb
  have h_x_36 := h_x_35.below hb
  have h_c_36 := h_c_35.later hb
  have h_p_36 := h_p_35.later hb
  have h_y_36 := h_y_35.later hb
  clear hb B35 h_s_35 h_x_35 h_c_35 h_p_35 h_y_35
  go_upto_region 14 with (first | refine wpList_store_new rfl 51 _ _ rfl atRea _ _ _ rfl rfl rfl rfl (rea_one _ _ _ _ _ _ _ _) ?_)
  generalize (w35.alloc (.cells #[.int .u8 0, .slice a_q n_q c_q, .int .i64 0, .slice b_q m_q d_q] 51)) = w36 at *
  obtain ⟨Z, hZ⟩ : ∃ Z, (dflat ten).toArray = Z := ⟨_, rfl⟩
  have HZ := Lib.hid hZ
  have mz : ∀ w, (Instr.makeSlice 49 (.int .i64 10) (.int .i64 10)).run Try.prog w = .ok (.slice (some ⟨w.heap.size, 0, none⟩) 10 10) (w.alloc (.cells Z 58)) := fun w => by rw [← hZ]; exact run_ten w
  have HT := Lib.hid (fun (w : World) => show RdD (w.alloc (.cells Z 58)) (some ⟨w.heap.size, 0, none⟩) 10 10 ten from by rw [← hZ]; exact rdD_ten w)
  clear hZ
  go_cut [26, 27] from 168 to 175 (fun s26 s27 wx => s27 = Value.int .i64 4 ∧ Below w36.heap.size w36 wx)
  case first =>
    have D0 : Below w36.heap.size w36 w36.drew := (Below.refl w36.heap.size w36).drew
    refine wp_region_held_drew (S := (fun v => Below w36.heap.size w36 v ∧ v.cell? ⟨G, 0, none⟩ = some (.string xS) ∧ v.cell? ⟨G, 1, none⟩ = some (.slice a_s 3 3) ∧ v.cell? ⟨G, 2, none⟩ = some (.int .i64 1) ∧ v.cell? ⟨G, 3, none⟩ = some (.int .u8 9) ∧ v.cell? ⟨G1, 0, none⟩ = some (.int .u8 20) ∧ v.cell? ⟨G1, 1, none⟩ = some (.int .u8 60) ∧ v.cell? ⟨G1, 2, none⟩ = some (.int .i64 0) ∧ v.cell? ⟨G2, 0, none⟩ = some (.slice a_x 9 9))) (by kernel_rfl) ?_ (fun hHeld => ?_)
    · exact ⟨D0, (h_c_36.later D0).cell 0 _ rfl, (h_c_36.later D0).cell 1 _ rfl, (h_c_36.later D0).cell 2 _ rfl, (h_c_36.later D0).cell 3 _ rfl, (h_p_36.later D0).cell 0 _ rfl, (h_p_36.later D0).cell 1 _ rfl, (h_p_36.later D0).cell 2 _ rfl, (h_y_36.later D0).cell 0 _ rfl⟩
    generalize w36.drew = wz8 at *
    refine wpAnyH_take (i := 0) (oi := ?oir15_0) (v := ?vr15_0) ?hir15_0 (by kernel_rfl) (by kernel_rfl) (by kernel_rfl) ?hqr15_0 ?hyr15_0 (by assumption) ?restr15_0
    case hir15_0 => simp only [List.getElem?_toArray, List.getElem?_cons_succ, List.getElem?_cons_zero]; rfl
    case hqr15_0 => exact fun _ _ _ h => h
    case hyr15_0 => (refine Or.inl ⟨by rfl, ?_⟩; intro w hSw; (try dsimp only at hSw); go_simp; all_goals with_reducible rfl)
    try simp only [Act.put, List.setIfInBounds_toArray, List.set_cons_zero, List.set_cons_succ]
    refine wpAnyH_take (i := 1) (oi := ?oir15_1) (v := ?vr15_1) ?hir15_1 (by kernel_rfl) (by kernel_rfl) (by kernel_rfl) ?hqr15_1 ?hyr15_1 (by assumption) ?restr15_1
    case hir15_1 => simp only [List.getElem?_toArray, List.getElem?_cons_succ, List.getElem?_cons_zero]; rfl
    case hqr15_1 => exact fun _ _ _ h => h
    case hyr15_1 => (refine Or.inl ⟨by rfl, ?_⟩; intro w hSw; (try dsimp only at hSw); go_simp; all_goals with_reducible rfl)
    try simp only [Act.put, List.setIfInBounds_toArray, List.set_cons_zero, List.set_cons_succ]
    refine wpAnyH_take (i := 2) (oi := ?oir15_2) (v := ?vr15_2) ?hir15_2 (by kernel_rfl) (by kernel_rfl) (by kernel_rfl) ?hqr15_2 ?hyr15_2 (by assumption) ?restr15_2
    case hir15_2 => simp only [List.getElem?_toArray, List.getElem?_cons_succ, List.getElem?_cons_zero]; rfl
    case hqr15_2 => exact fun _ _ _ h => h
    case hyr15_2 => (refine Or.inl ⟨by rfl, ?_⟩; intro w hSw; (try dsimp only at hSw); go_simp; all_goals with_reducible rfl)
    try simp only [Act.put, List.setIfInBounds_toArray, List.set_cons_zero, List.set_cons_succ]
    refine wpAnyH_ready (rs := [3, 8]) (by kernel_rfl) (by simp) ?_
    refine (AllReadyH.cons (o := ?ob16_3) ?hob16_3 (fun K hK => ?kb16_3) (AllReadyH.cons (o := ?ob16_8) ?hob16_8 (fun K hK => ?kb16_8) AllReadyH.nil))
    case hob16_3 => simp only [List.getElem?_toArray, List.getElem?_cons_succ, List.getElem?_cons_zero]; rfl
    case hob16_8 => simp only [List.getElem?_toArray, List.getElem?_cons_succ, List.getElem?_cons_zero]; rfl
    case kb16_3 =>
      go_simp
      have DD := HT.out wz8
      have D0 := D0.trans ((below_al wz8 (.cells Z 58)).mono D0.size)
      refine hK.out _ _ ?_ (fun hHeld => ?_)
      · exact ⟨D0, (h_c_36.later D0).cell 0 _ rfl, (h_c_36.later D0).cell 1 _ rfl, (h_c_36.later D0).cell 2 _ rfl, (h_c_36.later D0).cell 3 _ rfl, (h_p_36.later D0).cell 0 _ rfl, (h_p_36.later D0).cell 1 _ rfl, (h_p_36.later D0).cell 2 _ rfl, (h_y_36.later D0).cell 0 _ rfl⟩
      clear hK K
      try simp only [Act.put, List.setIfInBounds_toArray, List.set_cons_zero, List.set_cons_succ]
      refine wpAnyH_ready (rs := [4, 8]) (by kernel_rfl) (by simp) ?_
      refine (AllReadyH.cons (o := ?ob9_4) ?hob9_4 (fun K hK => ?kb9_4) (AllReadyH.cons (o := ?ob9_8) ?hob9_8 (fun K hK => ?kb9_8) AllReadyH.nil))
      case hob9_4 => simp only [List.getElem?_toArray, List.getElem?_cons_succ, List.getElem?_cons_zero]; rfl
      case hob9_8 => simp only [List.getElem?_toArray, List.getElem?_cons_succ, List.getElem?_cons_zero]; rfl
      case kb9_4 =>
        go_simp
        refine (show Calls Try.prog _ _ (wz8.alloc (.cells Z 58)) _ from (by
          have c := Read_any (wz8.alloc (.cells Z 58)) xS (h_s_36.below D0) 1 (by decide) (by decide) 9 (by decide) ⟨20, 60, 0⟩ (by unfold PW okI; decide) (h_x_36.below D0) DD (by decide) (by decide)
          rw [show readR xS [aS, bS, cS] 1 9 ⟨20, 60, 0⟩ box3 ten = _ from ng7] at c
          exact c)).mono ?_
        rintro e wq ⟨a_q, n_q, c_q, b_q, m_q, d_q, rfl, -, -, -, hq⟩
        have D0 := D0.trans (hq.mono D0.size)
        go_wp2_with fail
        refine hK.out _ _ ?_ (fun hHeld => ?_)
        · exact ⟨D0, (h_c_36.later D0).cell 0 _ rfl, (h_c_36.later D0).cell 1 _ rfl, (h_c_36.later D0).cell 2 _ rfl, (h_c_36.later D0).cell 3 _ rfl, (h_p_36.later D0).cell 0 _ rfl, (h_p_36.later D0).cell 1 _ rfl, (h_p_36.later D0).cell 2 _ rfl, (h_y_36.later D0).cell 0 _ rfl⟩
        clear hK K
        try simp only [Act.put, List.setIfInBounds_toArray, List.set_cons_zero, List.set_cons_succ]
        refine wpAnyH_take (i := 5) (oi := ?oir1_5) (v := ?vr1_5) ?hir1_5 (by kernel_rfl) (by kernel_rfl) (by kernel_rfl) ?hqr1_5 ?hyr1_5 (by assumption) ?restr1_5
        case hir1_5 => simp only [List.getElem?_toArray, List.getElem?_cons_succ, List.getElem?_cons_zero]; rfl
        case hqr1_5 => exact fun _ _ _ h => h
        case hyr1_5 => (refine Or.inl ⟨by rfl, ?_⟩; intro w hSw; (try dsimp only at hSw); go_simp; all_goals with_reducible rfl)
        try simp only [Act.put, List.setIfInBounds_toArray, List.set_cons_zero, List.set_cons_succ]
        refine wpAnyH_take (i := 6) (oi := ?oir1_6) (v := ?vr1_6) ?hir1_6 (by kernel_rfl) (by kernel_rfl) (by kernel_rfl) ?hqr1_6 ?hyr1_6 (by assumption) ?restr1_6
        case hir1_6 => simp only [List.getElem?_toArray, List.getElem?_cons_succ, List.getElem?_cons_zero]; rfl
        case hqr1_6 => exact fun _ _ _ h => h
        case hyr1_6 => (refine Or.inl ⟨by rfl, ?_⟩; intro w hSw; (try dsimp only at hSw); go_simp; all_goals with_reducible rfl)
        try simp only [Act.put, List.setIfInBounds_toArray, List.set_cons_zero, List.set_cons_succ]
        refine wpAnyH_take (i := 7) (oi := ?oir1_7) (v := ?vr1_7) ?hir1_7 (by kernel_rfl) (by kernel_rfl) (by kernel_rfl) ?hqr1_7 ?hyr1_7 (by assumption) ?restr1_7
        case hir1_7 => simp only [List.getElem?_toArray, List.getElem?_cons_succ, List.getElem?_cons_zero]; rfl
        case hqr1_7 => exact fun _ _ _ h => h
        case hyr1_7 => (refine Or.inl ⟨by rfl, ?_⟩; intro w hSw; (try dsimp only at hSw); go_simp; all_goals with_reducible rfl)
        try simp only [Act.put, List.setIfInBounds_toArray, List.set_cons_zero, List.set_cons_succ]
        refine wpAnyH_ready (rs := [8]) (by kernel_rfl) (by simp) ?_
        refine (AllReadyH.cons (o := ?ob4_8) ?hob4_8 (fun K hK => ?kb4_8) AllReadyH.nil)
        case hob4_8 => simp only [List.getElem?_toArray, List.getElem?_cons_succ, List.getElem?_cons_zero]; rfl
        case kb4_8 =>
          go_simp
          have RA := (PRow.new 51 wq #[.int .u8 0, .slice none 0 0, .int .i64 0, .slice none 0 0]).base D0
          have D0 := D0.trans ((below_al wq (.cells #[.int .u8 0, .slice none 0 0, .int .i64 0, .slice none 0 0] 51)).mono D0.size)
          refine hK.out _ _ ?_ (fun hHeld => ?_)
          · exact ⟨D0, (h_c_36.later D0).cell 0 _ rfl, (h_c_36.later D0).cell 1 _ rfl, (h_c_36.later D0).cell 2 _ rfl, (h_c_36.later D0).cell 3 _ rfl, (h_p_36.later D0).cell 0 _ rfl, (h_p_36.later D0).cell 1 _ rfl, (h_p_36.later D0).cell 2 _ rfl, (h_y_36.later D0).cell 0 _ rfl⟩
          clear hK K
          try simp only [Act.put, List.setIfInBounds_toArray, List.set_cons_zero, List.set_cons_succ]
          refine wpAnyH_ready (rs := [9]) (by kernel_rfl) (by simp) ?_
          refine (AllReadyH.cons (o := ?ob3_9) ?hob3_9 (fun K hK => ?kb3_9) AllReadyH.nil)
          case hob3_9 => simp only [List.getElem?_toArray, List.getElem?_cons_succ, List.getElem?_cons_zero]; rfl
          case kb3_9 =>
            rw [if_pos (by rfl)]
            refine op_store_whole 51 _ _ rfl atRea _ _ _ RA.row rfl rfl rfl rfl (rea_one _ _ _ _ _ _ _ _) ?_
            refine hK.out _ _ ?_ (fun hHeld => ?_)
            · exact ⟨(RA.put #[.int .u8 0, .slice a_q n_q c_q, .int .i64 0, .slice b_q m_q d_q]).below, (h_c_36.later (RA.put #[.int .u8 0, .slice a_q n_q c_q, .int .i64 0, .slice b_q m_q d_q]).below).cell 0 _ rfl, (h_c_36.later (RA.put #[.int .u8 0, .slice a_q n_q c_q, .int .i64 0, .slice b_q m_q d_q]).below).cell 1 _ rfl, (h_c_36.later (RA.put #[.int .u8 0, .slice a_q n_q c_q, .int .i64 0, .slice b_q m_q d_q]).below).cell 2 _ rfl, (h_c_36.later (RA.put #[.int .u8 0, .slice a_q n_q c_q, .int .i64 0, .slice b_q m_q d_q]).below).cell 3 _ rfl, (h_p_36.later (RA.put #[.int .u8 0, .slice a_q n_q c_q, .int .i64 0, .slice b_q m_q d_q]).below).cell 0 _ rfl, (h_p_36.later (RA.put #[.int .u8 0, .slice a_q n_q c_q, .int .i64 0, .slice b_q m_q d_q]).below).cell 1 _ rfl, (h_p_36.later (RA.put #[.int .u8 0, .slice a_q n_q c_q, .int .i64 0, .slice b_q m_q d_q]).below).cell 2 _ rfl, (h_y_36.later (RA.put #[.int .u8 0, .slice a_q n_q c_q, .int .i64 0, .slice b_q m_q d_q]).below).cell 0 _ rfl⟩
            clear hK K
            try simp only [Act.put, List.setIfInBounds_toArray, List.set_cons_zero, List.set_cons_succ]
            refine wpAnyH_take (i := 10) (oi := ?oir2_10) (v := ?vr2_10) ?hir2_10 (by kernel_rfl) (by kernel_rfl) (by kernel_rfl) ?hqr2_10 ?hyr2_10 (by assumption) ?restr2_10
            case hir2_10 => simp only [List.getElem?_toArray, List.getElem?_cons_succ, List.getElem?_cons_zero]; rfl
            case hqr2_10 => exact fun _ _ _ h => h
            case hyr2_10 => (refine Or.inl ⟨by rfl, ?_⟩; intro w hSw; (try dsimp only at hSw); go_simp; all_goals with_reducible rfl)
            try simp only [Act.put, List.setIfInBounds_toArray, List.set_cons_zero, List.set_cons_succ]
            refine wpAnyH_done (by kernel_rfl) ?_ _
            go_wp2_with fail
            go_meet
            exact ⟨rfl, (RA.put _).below⟩
      case kb9_8 =>
        go_simp
        have RA := (PRow.new 51 (wz8.alloc (.cells Z 58)) #[.int .u8 0, .slice none 0 0, .int .i64 0, .slice none 0 0]).base D0
        rw [World.size_alloc] at RA
        have DD := DD.below (below_al (wz8.alloc (.cells Z 58)) (.cells #[.int .u8 0, .slice none 0 0, .int .i64 0, .slice none 0 0] 51))
        have D0 := D0.trans ((below_al (wz8.alloc (.cells Z 58)) (.cells #[.int .u8 0, .slice none 0 0, .int .i64 0, .slice none 0 0] 51)).mono D0.size)
        refine hK.out _ _ ?_ (fun hHeld => ?_)
        · exact ⟨D0, (h_c_36.later D0).cell 0 _ rfl, (h_c_36.later D0).cell 1 _ rfl, (h_c_36.later D0).cell 2 _ rfl, (h_c_36.later D0).cell 3 _ rfl, (h_p_36.later D0).cell 0 _ rfl, (h_p_36.later D0).cell 1 _ rfl, (h_p_36.later D0).cell 2 _ rfl, (h_y_36.later D0).cell 0 _ rfl⟩
        clear hK K
        try simp only [Act.put, List.setIfInBounds_toArray, List.set_cons_zero, List.set_cons_succ]
        refine wpAnyH_ready (rs := [4]) (by kernel_rfl) (by simp) ?_
        refine (AllReadyH.cons (o := ?ob8_4) ?hob8_4 (fun K hK => ?kb8_4) AllReadyH.nil)
        case hob8_4 => simp only [List.getElem?_toArray, List.getElem?_cons_succ, List.getElem?_cons_zero]; rfl
        case kb8_4 =>
          go_simp
          refine (show Calls Try.prog _ _ ((wz8.alloc (.cells Z 58)).alloc (.cells #[.int .u8 0, .slice none 0 0, .int .i64 0, .slice none 0 0] 51)) _ from (by
            have c := Read_any ((wz8.alloc (.cells Z 58)).alloc (.cells #[.int .u8 0, .slice none 0 0, .int .i64 0, .slice none 0 0] 51)) xS (h_s_36.below D0) 1 (by decide) (by decide) 9 (by decide) ⟨20, 60, 0⟩ (by unfold PW okI; decide) (h_x_36.below D0) DD (by decide) (by decide)
            rw [show readR xS [aS, bS, cS] 1 9 ⟨20, 60, 0⟩ box3 ten = _ from ng7] at c
            exact c)).mono ?_
          rintro e wq ⟨a_q, n_q, c_q, b_q, m_q, d_q, rfl, -, -, -, hq⟩
          have D0 := D0.trans (hq.mono D0.size)
          go_wp2_with fail
          refine hK.out _ _ ?_ (fun hHeld => ?_)
          · exact ⟨D0, (h_c_36.later D0).cell 0 _ rfl, (h_c_36.later D0).cell 1 _ rfl, (h_c_36.later D0).cell 2 _ rfl, (h_c_36.later D0).cell 3 _ rfl, (h_p_36.later D0).cell 0 _ rfl, (h_p_36.later D0).cell 1 _ rfl, (h_p_36.later D0).cell 2 _ rfl, (h_y_36.later D0).cell 0 _ rfl⟩
          clear hK K
          try simp only [Act.put, List.setIfInBounds_toArray, List.set_cons_zero, List.set_cons_succ]
          have RA := RA.later hq
          refine wpAnyH_take (i := 5) (oi := ?oir5_5) (v := ?vr5_5) ?hir5_5 (by kernel_rfl) (by kernel_rfl) (by kernel_rfl) ?hqr5_5 ?hyr5_5 (by assumption) ?restr5_5
          case hir5_5 => simp only [List.getElem?_toArray, List.getElem?_cons_succ, List.getElem?_cons_zero]; rfl
          case hqr5_5 => exact fun _ _ _ h => h
          case hyr5_5 => (refine Or.inl ⟨by rfl, ?_⟩; intro w hSw; (try dsimp only at hSw); go_simp; all_goals with_reducible rfl)
          try simp only [Act.put, List.setIfInBounds_toArray, List.set_cons_zero, List.set_cons_succ]
          refine wpAnyH_take (i := 6) (oi := ?oir5_6) (v := ?vr5_6) ?hir5_6 (by kernel_rfl) (by kernel_rfl) (by kernel_rfl) ?hqr5_6 ?hyr5_6 (by assumption) ?restr5_6
          case hir5_6 => simp only [List.getElem?_toArray, List.getElem?_cons_succ, List.getElem?_cons_zero]; rfl
          case hqr5_6 => exact fun _ _ _ h => h
          case hyr5_6 => (refine Or.inl ⟨by rfl, ?_⟩; intro w hSw; (try dsimp only at hSw); go_simp; all_goals with_reducible rfl)
          try simp only [Act.put, List.setIfInBounds_toArray, List.set_cons_zero, List.set_cons_succ]
          refine wpAnyH_take (i := 7) (oi := ?oir5_7) (v := ?vr5_7) ?hir5_7 (by kernel_rfl) (by kernel_rfl) (by kernel_rfl) ?hqr5_7 ?hyr5_7 (by assumption) ?restr5_7
          case hir5_7 => simp only [List.getElem?_toArray, List.getElem?_cons_succ, List.getElem?_cons_zero]; rfl
          case hqr5_7 => exact fun _ _ _ h => h
          case hyr5_7 => (refine Or.inl ⟨by rfl, ?_⟩; intro w hSw; (try dsimp only at hSw); go_simp; all_goals with_reducible rfl)
          try simp only [Act.put, List.setIfInBounds_toArray, List.set_cons_zero, List.set_cons_succ]
          refine wpAnyH_ready (rs := [9]) (by kernel_rfl) (by simp) ?_
          refine (AllReadyH.cons (o := ?ob7_9) ?hob7_9 (fun K hK => ?kb7_9) AllReadyH.nil)
          case hob7_9 => simp only [List.getElem?_toArray, List.getElem?_cons_succ, List.getElem?_cons_zero]; rfl
          case kb7_9 =>
            rw [if_pos (by rfl)]
            refine op_store_whole 51 _ _ rfl atRea _ _ _ RA.row rfl rfl rfl rfl (rea_one _ _ _ _ _ _ _ _) ?_
            refine hK.out _ _ ?_ (fun hHeld => ?_)
            · exact ⟨(RA.put #[.int .u8 0, .slice a_q n_q c_q, .int .i64 0, .slice b_q m_q d_q]).below, (h_c_36.later (RA.put #[.int .u8 0, .slice a_q n_q c_q, .int .i64 0, .slice b_q m_q d_q]).below).cell 0 _ rfl, (h_c_36.later (RA.put #[.int .u8 0, .slice a_q n_q c_q, .int .i64 0, .slice b_q m_q d_q]).below).cell 1 _ rfl, (h_c_36.later (RA.put #[.int .u8 0, .slice a_q n_q c_q, .int .i64 0, .slice b_q m_q d_q]).below).cell 2 _ rfl, (h_c_36.later (RA.put #[.int .u8 0, .slice a_q n_q c_q, .int .i64 0, .slice b_q m_q d_q]).below).cell 3 _ rfl, (h_p_36.later (RA.put #[.int .u8 0, .slice a_q n_q c_q, .int .i64 0, .slice b_q m_q d_q]).below).cell 0 _ rfl, (h_p_36.later (RA.put #[.int .u8 0, .slice a_q n_q c_q, .int .i64 0, .slice b_q m_q d_q]).below).cell 1 _ rfl, (h_p_36.later (RA.put #[.int .u8 0, .slice a_q n_q c_q, .int .i64 0, .slice b_q m_q d_q]).below).cell 2 _ rfl, (h_y_36.later (RA.put #[.int .u8 0, .slice a_q n_q c_q, .int .i64 0, .slice b_q m_q d_q]).below).cell 0 _ rfl⟩
            clear hK K
            try simp only [Act.put, List.setIfInBounds_toArray, List.set_cons_zero, List.set_cons_succ]
            refine wpAnyH_take (i := 10) (oi := ?oir6_10) (v := ?vr6_10) ?hir6_10 (by kernel_rfl) (by kernel_rfl) (by kernel_rfl) ?hqr6_10 ?hyr6_10 (by assumption) ?restr6_10
            case hir6_10 => simp only [List.getElem?_toArray, List.getElem?_cons_succ, List.getElem?_cons_zero]; rfl
            case hqr6_10 => exact fun _ _ _ h => h
            case hyr6_10 => (refine Or.inl ⟨by rfl, ?_⟩; intro w hSw; (try dsimp only at hSw); go_simp; all_goals with_reducible rfl)
            try simp only [Act.put, List.setIfInBounds_toArray, List.set_cons_zero, List.set_cons_succ]
            refine wpAnyH_done (by kernel_rfl) ?_ _
            go_wp2_with fail
            go_meet
            exact ⟨rfl, (RA.put _).below⟩
    case kb16_8 =>
      go_simp
      have RA := (PRow.new 51 wz8 #[.int .u8 0, .slice none 0 0, .int .i64 0, .slice none 0 0]).base D0
      have D0 := D0.trans ((below_al wz8 (.cells #[.int .u8 0, .slice none 0 0, .int .i64 0, .slice none 0 0] 51)).mono D0.size)
      refine hK.out _ _ ?_ (fun hHeld => ?_)
      · exact ⟨D0, (h_c_36.later D0).cell 0 _ rfl, (h_c_36.later D0).cell 1 _ rfl, (h_c_36.later D0).cell 2 _ rfl, (h_c_36.later D0).cell 3 _ rfl, (h_p_36.later D0).cell 0 _ rfl, (h_p_36.later D0).cell 1 _ rfl, (h_p_36.later D0).cell 2 _ rfl, (h_y_36.later D0).cell 0 _ rfl⟩
      clear hK K
      try simp only [Act.put, List.setIfInBounds_toArray, List.set_cons_zero, List.set_cons_succ]
      refine wpAnyH_ready (rs := [3]) (by kernel_rfl) (by simp) ?_
      refine (AllReadyH.cons (o := ?ob14_3) ?hob14_3 (fun K hK => ?kb14_3) AllReadyH.nil)
      case hob14_3 => simp only [List.getElem?_toArray, List.getElem?_cons_succ, List.getElem?_cons_zero]; rfl
      case kb14_3 =>
        go_simp
        have DD := HT.out (wz8.alloc (.cells #[.int .u8 0, .slice none 0 0, .int .i64 0, .slice none 0 0] 51))
        have D0 := D0.trans ((below_al (wz8.alloc (.cells #[.int .u8 0, .slice none 0 0, .int .i64 0, .slice none 0 0] 51)) (.cells Z 58)).mono D0.size)
        rw [World.size_alloc] at DD
        have RA := RA.later (below_al (wz8.alloc (.cells #[.int .u8 0, .slice none 0 0, .int .i64 0, .slice none 0 0] 51)) (.cells Z 58))
        refine hK.out _ _ ?_ (fun hHeld => ?_)
        · exact ⟨D0, (h_c_36.later D0).cell 0 _ rfl, (h_c_36.later D0).cell 1 _ rfl, (h_c_36.later D0).cell 2 _ rfl, (h_c_36.later D0).cell 3 _ rfl, (h_p_36.later D0).cell 0 _ rfl, (h_p_36.later D0).cell 1 _ rfl, (h_p_36.later D0).cell 2 _ rfl, (h_y_36.later D0).cell 0 _ rfl⟩
        clear hK K
        try simp only [Act.put, List.setIfInBounds_toArray, List.set_cons_zero, List.set_cons_succ]
        refine wpAnyH_ready (rs := [4]) (by kernel_rfl) (by simp) ?_
        refine (AllReadyH.cons (o := ?ob13_4) ?hob13_4 (fun K hK => ?kb13_4) AllReadyH.nil)
        case hob13_4 => simp only [List.getElem?_toArray, List.getElem?_cons_succ, List.getElem?_cons_zero]; rfl
        case kb13_4 =>
          go_simp
          refine (show Calls Try.prog _ _ ((wz8.alloc (.cells #[.int .u8 0, .slice none 0 0, .int .i64 0, .slice none 0 0] 51)).alloc (.cells Z 58)) _ from (by
            have c := Read_any ((wz8.alloc (.cells #[.int .u8 0, .slice none 0 0, .int .i64 0, .slice none 0 0] 51)).alloc (.cells Z 58)) xS (h_s_36.below D0) 1 (by decide) (by decide) 9 (by decide) ⟨20, 60, 0⟩ (by unfold PW okI; decide) (h_x_36.below D0) DD (by decide) (by decide)
            rw [show readR xS [aS, bS, cS] 1 9 ⟨20, 60, 0⟩ box3 ten = _ from ng7] at c
            exact c)).mono ?_
          rintro e wq ⟨a_q, n_q, c_q, b_q, m_q, d_q, rfl, -, -, -, hq⟩
          have D0 := D0.trans (hq.mono D0.size)
          go_wp2_with fail
          refine hK.out _ _ ?_ (fun hHeld => ?_)
          · exact ⟨D0, (h_c_36.later D0).cell 0 _ rfl, (h_c_36.later D0).cell 1 _ rfl, (h_c_36.later D0).cell 2 _ rfl, (h_c_36.later D0).cell 3 _ rfl, (h_p_36.later D0).cell 0 _ rfl, (h_p_36.later D0).cell 1 _ rfl, (h_p_36.later D0).cell 2 _ rfl, (h_y_36.later D0).cell 0 _ rfl⟩
          clear hK K
          try simp only [Act.put, List.setIfInBounds_toArray, List.set_cons_zero, List.set_cons_succ]
          have RA := RA.later hq
          refine wpAnyH_take (i := 5) (oi := ?oir10_5) (v := ?vr10_5) ?hir10_5 (by kernel_rfl) (by kernel_rfl) (by kernel_rfl) ?hqr10_5 ?hyr10_5 (by assumption) ?restr10_5
          case hir10_5 => simp only [List.getElem?_toArray, List.getElem?_cons_succ, List.getElem?_cons_zero]; rfl
          case hqr10_5 => exact fun _ _ _ h => h
          case hyr10_5 => (refine Or.inl ⟨by rfl, ?_⟩; intro w hSw; (try dsimp only at hSw); go_simp; all_goals with_reducible rfl)
          try simp only [Act.put, List.setIfInBounds_toArray, List.set_cons_zero, List.set_cons_succ]
          refine wpAnyH_take (i := 6) (oi := ?oir10_6) (v := ?vr10_6) ?hir10_6 (by kernel_rfl) (by kernel_rfl) (by kernel_rfl) ?hqr10_6 ?hyr10_6 (by assumption) ?restr10_6
          case hir10_6 => simp only [List.getElem?_toArray, List.getElem?_cons_succ, List.getElem?_cons_zero]; rfl
          case hqr10_6 => exact fun _ _ _ h => h
          case hyr10_6 => (refine Or.inl ⟨by rfl, ?_⟩; intro w hSw; (try dsimp only at hSw); go_simp; all_goals with_reducible rfl)
          try simp only [Act.put, List.setIfInBounds_toArray, List.set_cons_zero, List.set_cons_succ]
          refine wpAnyH_take (i := 7) (oi := ?oir10_7) (v := ?vr10_7) ?hir10_7 (by kernel_rfl) (by kernel_rfl) (by kernel_rfl) ?hqr10_7 ?hyr10_7 (by assumption) ?restr10_7
          case hir10_7 => simp only [List.getElem?_toArray, List.getElem?_cons_succ, List.getElem?_cons_zero]; rfl
          case hqr10_7 => exact fun _ _ _ h => h
          case hyr10_7 => (refine Or.inl ⟨by rfl, ?_⟩; intro w hSw; (try dsimp only at hSw); go_simp; all_goals with_reducible rfl)
          try simp only [Act.put, List.setIfInBounds_toArray, List.set_cons_zero, List.set_cons_succ]
          refine wpAnyH_ready (rs := [9]) (by kernel_rfl) (by simp) ?_
          refine (AllReadyH.cons (o := ?ob12_9) ?hob12_9 (fun K hK => ?kb12_9) AllReadyH.nil)
          case hob12_9 => simp only [List.getElem?_toArray, List.getElem?_cons_succ, List.getElem?_cons_zero]; rfl
          case kb12_9 =>
            rw [if_pos (by rfl)]
            refine op_store_whole 51 _ _ rfl atRea _ _ _ RA.row rfl rfl rfl rfl (rea_one _ _ _ _ _ _ _ _) ?_
            refine hK.out _ _ ?_ (fun hHeld => ?_)
            · exact ⟨(RA.put #[.int .u8 0, .slice a_q n_q c_q, .int .i64 0, .slice b_q m_q d_q]).below, (h_c_36.later (RA.put #[.int .u8 0, .slice a_q n_q c_q, .int .i64 0, .slice b_q m_q d_q]).below).cell 0 _ rfl, (h_c_36.later (RA.put #[.int .u8 0, .slice a_q n_q c_q, .int .i64 0, .slice b_q m_q d_q]).below).cell 1 _ rfl, (h_c_36.later (RA.put #[.int .u8 0, .slice a_q n_q c_q, .int .i64 0, .slice b_q m_q d_q]).below).cell 2 _ rfl, (h_c_36.later (RA.put #[.int .u8 0, .slice a_q n_q c_q, .int .i64 0, .slice b_q m_q d_q]).below).cell 3 _ rfl, (h_p_36.later (RA.put #[.int .u8 0, .slice a_q n_q c_q, .int .i64 0, .slice b_q m_q d_q]).below).cell 0 _ rfl, (h_p_36.later (RA.put #[.int .u8 0, .slice a_q n_q c_q, .int .i64 0, .slice b_q m_q d_q]).below).cell 1 _ rfl, (h_p_36.later (RA.put #[.int .u8 0, .slice a_q n_q c_q, .int .i64 0, .slice b_q m_q d_q]).below).cell 2 _ rfl, (h_y_36.later (RA.put #[.int .u8 0, .slice a_q n_q c_q, .int .i64 0, .slice b_q m_q d_q]).below).cell 0 _ rfl⟩
            clear hK K
            try simp only [Act.put, List.setIfInBounds_toArray, List.set_cons_zero, List.set_cons_succ]
            refine wpAnyH_take (i := 10) (oi := ?oir11_10) (v := ?vr11_10) ?hir11_10 (by kernel_rfl) (by kernel_rfl) (by kernel_rfl) ?hqr11_10 ?hyr11_10 (by assumption) ?restr11_10
            case hir11_10 => simp only [List.getElem?_toArray, List.getElem?_cons_succ, List.getElem?_cons_zero]; rfl
            case hqr11_10 => exact fun _ _ _ h => h
            case hyr11_10 => (refine Or.inl ⟨by rfl, ?_⟩; intro w hSw; (try dsimp only at hSw); go_simp; all_goals with_reducible rfl)
            try simp only [Act.put, List.setIfInBounds_toArray, List.set_cons_zero, List.set_cons_succ]
            refine wpAnyH_done (by kernel_rfl) ?_ _
            go_wp2_with fail
            go_meet
            exact ⟨rfl, (RA.put _).below⟩
  case rest =>
  obtain ⟨rfl, hb⟩ := hcut
  clear mz
  have B37 := B36.trans (hb.mono B36.size)
  have h_s_37 := h_s_36.below hb
  have h_x_37 := h_x_36.below hb
  have h_c_37 := h_c_36.later hb
  have h_p_37 := h_p_36.later hb
  have h_y_37 := h_y_36.later hb
  clear hb B36 h_s_36 h_x_36 h_c_36 h_p_36 h_y_36
  obtain ⟨w37, hw⟩ : ∃ w, w = wc := ⟨_, rfl⟩
  subst hw
  have k_c_0 := h_c_37.cell 0 _ rfl
  have k_c_1 := h_c_37.cell 1 _ rfl
  have k_c_2 := h_c_37.cell 2 _ rfl
  have k_c_3 := h_c_37.cell 3 _ rfl
  have mz : ∀ w, (Instr.makeSlice 25 (.int .i64 8) (.int .i64 8)).run Try.prog w = .ok (.slice (some ⟨w.heap.size, 0, none⟩) 8 8) (w.alloc (.cells (zeros .u8 8) 5)) := fun w => run_zeros etY 8 (by decide) (by decide) w
  go_upto_region 15 with fail
  clear k_c_0 k_c_1 k_c_2 k_c_3
  have hb := (Below.refl w37.heap.size w37).drew
  have B38 := B37.trans (hb.mono B37.size)
  have h_s_38 := h_s_37.below hb
  have h_x_38 := h_x_37.below hb
  have h_c_38 := h_c_37.later hb
  have h_p_38 := h_p_37.later hb
  have h_y_38 := h_y_37.later hb
  clear hb B37 h_s_37 h_x_37 h_c_37 h_p_37 h_y_37
  refine wp_region_held_drew (S := (fun v => v.cell? ⟨G, 0, none⟩ = some (.string xS) ∧ v.cell? ⟨G, 1, none⟩ = some (.slice a_s 3 3) ∧ v.cell? ⟨G, 2, none⟩ = some (.int .i64 1) ∧ v.cell? ⟨G, 3, none⟩ = some (.int .u8 9))) (by kernel_rfl) ?_ (fun hHeld => ?_)
  · exact ⟨h_c_38.cell 0 _ rfl, h_c_38.cell 1 _ rfl, h_c_38.cell 2 _ rfl, h_c_38.cell 3 _ rfl⟩
  generalize w37.drew = w38 at *
  refine wpAnyH_take (i := 0) (oi := ?oir17_0) (v := ?vr17_0) ?hir17_0 (by kernel_rfl) (by kernel_rfl) (by kernel_rfl) ?hqr17_0 ?hyr17_0 (by assumption) ?restr17_0
  case hir17_0 => simp only [List.getElem?_toArray, List.getElem?_cons_succ, List.getElem?_cons_zero]; rfl
  case hqr17_0 => exact fun _ _ _ h => h
  case hyr17_0 => (refine Or.inl ⟨by rfl, ?_⟩; intro w hSw; (try dsimp only at hSw); go_simp; all_goals with_reducible rfl)
  try simp only [Act.put, List.setIfInBounds_toArray, List.set_cons_zero, List.set_cons_succ]
  refine wpAnyH_ready (rs := [1]) (by kernel_rfl) (by simp) ?_
  refine AllReadyH.cons (o := ?oz18) ?hoz18 (fun K hK => ?kz18) AllReadyH.nil
  case hoz18 => simp only [List.getElem?_toArray, List.getElem?_cons_succ, List.getElem?_cons_zero]; rfl
  go_simp
  refine hK.out _ _ ?_ (fun hHeld => ?_)
  · exact ⟨(h_c_38.later (below_al _ _)).cell 0 _ rfl, (h_c_38.later (below_al _ _)).cell 1 _ rfl, (h_c_38.later (below_al _ _)).cell 2 _ rfl, (h_c_38.later (below_al _ _)).cell 3 _ rfl⟩
  clear hK K
  try simp only [Act.put, List.setIfInBounds_toArray, List.set_cons_zero, List.set_cons_succ]
  have hzr : Rd .u8 (w38.alloc (.cells (zeros .u8 8) 5)) (some ⟨w38.heap.size, 0, none⟩) 8 8 (zs 8) := (Ow.full .u8 5 w38 8 (by unfold maxLen; decide)).rd
  have hb := below_al w38 (.cells (zeros .u8 8) 5)
  have B39 := B38.trans (hb.mono B38.size)
  have h_s_39 := h_s_38.below hb
  have h_x_39 := h_x_38.below hb
  have h_c_39 := h_c_38.later hb
  have h_p_39 := h_p_38.later hb
  have h_y_39 := h_y_38.later hb
  clear hb B38 h_s_38 h_x_38 h_c_38 h_p_38 h_y_38
  refine wpAnyH_take (i := 2) (oi := ?oir19_2) (v := ?vr19_2) ?hir19_2 (by kernel_rfl) (by kernel_rfl) (by kernel_rfl) ?hqr19_2 ?hyr19_2 (by assumption) ?restr19_2
  case hir19_2 => simp only [List.getElem?_toArray, List.getElem?_cons_succ, List.getElem?_cons_zero]; rfl
  case hqr19_2 => exact fun _ _ _ h => h
  case hyr19_2 => (refine Or.inl ⟨by rfl, ?_⟩; intro w hSw; (try dsimp only at hSw); go_simp; all_goals with_reducible rfl)
  try simp only [Act.put, List.setIfInBounds_toArray, List.set_cons_zero, List.set_cons_succ]
  refine wpAnyH_ready (rs := [3]) (by kernel_rfl) (by simp) ?_
  refine AllReadyH.cons (o := ?oz20) ?hoz20 (fun K hK => ?kz20) AllReadyH.nil
  case hoz20 => simp only [List.getElem?_toArray, List.getElem?_cons_succ, List.getElem?_cons_zero]; rfl
  go_simp
  have c := sheetCheck_any (w38.alloc (.cells (zeros .u8 8) 5)) xS h_s_39 1 (by decide) (by decide) 9 (by decide) hzr
  rw [show sheetC xS [aS, bS, cS] 1 9 (zs 8) = 8 from ns1] at c
  refine c.mono ?_
  rintro e w40 ⟨rfl, hb⟩
  clear c
  have B40 := B39.trans (hb.mono B39.size)
  have h_s_40 := h_s_39.below hb
  have h_x_40 := h_x_39.below hb
  have h_c_40 := h_c_39.later hb
  have h_p_40 := h_p_39.later hb
  have h_y_40 := h_y_39.later hb
  clear hb B39 h_s_39 h_x_39 h_c_39 h_p_39 h_y_39
  go_wp2_with fail
  refine hK.out _ _ ?_ (fun hHeld => ?_)
  · exact ⟨h_c_40.cell 0 _ rfl, h_c_40.cell 1 _ rfl, h_c_40.cell 2 _ rfl, h_c_40.cell 3 _ rfl⟩
  clear hK K mz hzr
  try simp only [Act.put, List.setIfInBounds_toArray, List.set_cons_zero, List.set_cons_succ]
  refine wpAnyH_take (i := 4) (oi := ?oir21_4) (v := ?vr21_4) ?hir21_4 (by kernel_rfl) (by kernel_rfl) (by kernel_rfl) ?hqr21_4 ?hyr21_4 (by assumption) ?restr21_4
  case hir21_4 => simp only [List.getElem?_toArray, List.getElem?_cons_succ, List.getElem?_cons_zero]; rfl
  case hqr21_4 => exact fun _ _ _ h => h
  case hyr21_4 => (refine Or.inl ⟨by rfl, ?_⟩; intro w hSw; (try dsimp only at hSw); go_simp; all_goals with_reducible rfl)
  try simp only [Act.put, List.setIfInBounds_toArray, List.set_cons_zero, List.set_cons_succ]
  refine wpAnyH_done (by kernel_rfl) ?_ _
  clear hHeld
  go_upto_region 16 with fail
  have k_c_0 := h_c_40.cell 0 _ rfl
  have k_c_1 := h_c_40.cell 1 _ rfl
  have k_c_2 := h_c_40.cell 2 _ rfl
  have k_c_3 := h_c_40.cell 3 _ rfl
  have hb := below_al w40 (.cells #[.int .u8 0, .int .u8 0, .int .u8 0, .int .u8 0, .int .u8 101, .int .u8 0, .int .u8 0, .int .u8 0, .int .u8 0] 5)
  have B41 := B40.trans (hb.mono B40.size)
  have h_s_41 := h_s_40.below hb
  have h_x_41 := h_x_40.below hb
  have h_c_41 := h_c_40.later hb
  have h_p_41 := h_p_40.later hb
  have h_y_41 := h_y_40.later hb
  clear hb B40 h_s_40 h_x_40 h_c_40 h_p_40 h_y_40
  have h_l_41 := show Rd .u8 (w40.alloc (.cells #[.int .u8 0, .int .u8 0, .int .u8 0, .int .u8 0, .int .u8 101, .int .u8 0, .int .u8 0, .int .u8 0, .int .u8 0] 5)) (some ⟨w40.heap.size, 0, none⟩) 9 9 [0, 0, 0, 0, 101, 0, 0, 0, 0] from rd_lit .u8 w40 [0, 0, 0, 0, 101, 0, 0, 0, 0] 5 9 rfl (by unfold maxLen; decide) (by decide)
  go_wp2_with fail
  clear k_c_0 k_c_1 k_c_2 k_c_3
  generalize (w40.alloc (.cells #[.int .u8 0, .int .u8 0, .int .u8 0, .int .u8 0, .int .u8 101, .int .u8 0, .int .u8 0, .int .u8 0, .int .u8 0] 5)) = w41 at *
  have c := sheetCheck_any w41 xS h_s_41 1 (by decide) (by decide) 9 (by decide) h_l_41
  rw [show sheetC xS [aS, bS, cS] 1 9 [0, 0, 0, 0, 101, 0, 0, 0, 0] = 8 from ns2] at c
  refine c.mono ?_
  rintro e w42 ⟨rfl, hb⟩
  clear c
  have B42 := B41.trans (hb.mono B41.size)
  have h_s_42 := h_s_41.below hb
  have h_x_42 := h_x_41.below hb
  have h_c_42 := h_c_41.later hb
  have h_p_42 := h_p_41.later hb
  have h_y_42 := h_y_41.later hb
  have h_l_42 := h_l_41.below hb
  clear hb B41 h_s_41 h_x_41 h_c_41 h_p_41 h_y_41 h_l_41
  go_upto_region 17 with fail
  have k_c3 := h_c_42.cell 3 _ rfl
  have k_cf := h_c_42.free 3
  have n_c := h_c_42.set 3 (.int .u8 1)
  simp only [List.setIfInBounds_toArray, List.set_cons_zero, List.set_cons_succ] at n_c
  have n_y := h_y_42.other (p := ⟨G, 3, none⟩) (blk_ne2 h_y_42 h_c_42 (by decide)) h_c_42.lo (.int .u8 1)
  have n_B := O_B3.out.trans (n_c.below.mono O_B3.out.size)
  go_upto_region 18 with fail
  clear k_c3 k_cf
  have n_s := O_S3.out.below n_c.below
  have n_x := O_X3.out.below n_c.below
  clear h_s_42 h_x_42 h_c_42 h_y_42 B42
  generalize w42.setCell ⟨G, 3, none⟩ (.int .u8 1) = ws1 at *
  have h_c_43 := n_c
  clear n_c
  have h_s_43 := n_s
  clear n_s
  have h_x_43 := n_x
  clear n_x
  have h_y_43 := n_y
  clear n_y
  have B43 := n_B
  clear n_B
  have hb := below_al ws1 (.cells #[.int .u8 0, .int .u8 60, .int .u8 0] 5)
  have B44 := B43.trans (hb.mono B43.size)
  have h_s_44 := h_s_43.below hb
  have h_x_44 := h_x_43.below hb
  have h_c_44 := h_c_43.later hb
  have h_y_44 := h_y_43.later hb
  clear hb B43 h_s_43 h_x_43 h_c_43 h_y_43
  have h_l_44 := show Rd .u8 (ws1.alloc (.cells #[.int .u8 0, .int .u8 60, .int .u8 0] 5)) (some ⟨ws1.heap.size, 0, none⟩) 3 3 [0, 60, 0] from rd_lit .u8 ws1 [0, 60, 0] 5 3 rfl (by unfold maxLen; decide) (by decide)
  go_wp2_with fail
  generalize (ws1.alloc (.cells #[.int .u8 0, .int .u8 60, .int .u8 0] 5)) = w44 at *
  have c := namesR_any w44 h_s_44 1 (by decide) h_c_44 h_l_44 (by decide) 0 (by unfold okI; decide) nk1
  rw [nk1] at c
  refine c.mono ?_
  rintro e w45 ⟨a_q, n_q, c_q, b_q, m_q, d_q, rfl, h_qm_45, h_qd_45, hb⟩
  clear c
  have B45 := B44.trans (hb.mono B44.size)
  have h_s_45 := h_s_44.below hb
  have h_x_45 := h_x_44.below hb
  have h_c_45 := h_c_44.later hb
  have h_y_45 := h_y_44.later hb
  have h_l_45 := h_l_44.below hb
  clear hb B44 h_s_44 h_x_44 h_c_44 h_y_44 h_l_44
  have HCB_q := Lib.hid h_c_45.below
  have hb := below_al w45 (.cells #[.int .u8 2, .slice a_q n_q c_q, .int .i64 0, .slice b_q m_q d_q] 51)
  have B46 := B45.trans (hb.mono B45.size)
  have h_s_46 := h_s_45.below hb
  have h_x_46 := h_x_45.below hb
  have h_c_46 := h_c_45.later hb
  have h_y_46 := h_y_45.later hb
  have h_qm_46 := h_qm_45.below hb
  have h_qd_46 := h_qd_45.below hb
  clear hb B45 h_s_45 h_x_45 h_c_45 h_y_45 h_qm_45 h_qd_45
  have h_qr_46 := (PRow.new 51 w45 #[.int .u8 2, .slice a_q n_q c_q, .int .i64 0, .slice b_q m_q d_q]).base HCB_q.out
  go_upto_region 19 with (first | refine wpList_store_new rfl 51 _ _ rfl atRea _ _ _ rfl rfl rfl rfl (rea_one _ _ _ _ _ _ _ _) ?_)
  generalize (w45.alloc (.cells #[.int .u8 2, .slice a_q n_q c_q, .int .i64 0, .slice b_q m_q d_q] 51)) = w46 at *
  have hb := below_al w46 (.cells #[.int .u8 60, .int .u8 60, .int .u8 0] 5)
  have B47 := B46.trans (hb.mono B46.size)
  have h_s_47 := h_s_46.below hb
  have h_x_47 := h_x_46.below hb
  have h_c_47 := h_c_46.later hb
  have h_y_47 := h_y_46.later hb
  have h_qm_47 := h_qm_46.below hb
  have h_qr_47 := h_qr_46.later hb
  clear hb B46 h_s_46 h_x_46 h_c_46 h_y_46 h_qm_46 h_qr_46
  have h_l_47 := show Rd .u8 (w46.alloc (.cells #[.int .u8 60, .int .u8 60, .int .u8 0] 5)) (some ⟨w46.heap.size, 0, none⟩) 3 3 [60, 60, 0] from rd_lit .u8 w46 [60, 60, 0] 5 3 rfl (by unfold maxLen; decide) (by decide)
  go_wp2_with fail
  generalize (w46.alloc (.cells #[.int .u8 60, .int .u8 60, .int .u8 0] 5)) = w47 at *
  have c := namesR_any w47 h_s_47 1 (by decide) h_c_47 h_l_47 (by decide) 0 (by unfold okI; decide) nk2
  rw [nk2] at c
  refine c.mono ?_
  rintro e w48 ⟨a_r, n_r, c_r, b_r, m_r, d_r, rfl, h_rm_48, h_rd_48, hb⟩
  clear c
  have B48 := B47.trans (hb.mono B47.size)
  have h_s_48 := h_s_47.below hb
  have h_x_48 := h_x_47.below hb
  have h_c_48 := h_c_47.later hb
  have h_y_48 := h_y_47.later hb
  have h_qm_48 := h_qm_47.below hb
  have h_qr_48 := h_qr_47.later hb
  have h_l_48 := h_l_47.below hb
  clear hb B47 h_s_47 h_x_47 h_c_47 h_y_47 h_qm_47 h_qr_47 h_l_47
  have HCB_r := Lib.hid h_c_48.below
  have hb := below_al w48 (.cells #[.int .u8 2, .slice a_r n_r c_r, .int .i64 1, .slice b_r m_r d_r] 51)
  have B49 := B48.trans (hb.mono B48.size)
  have h_s_49 := h_s_48.below hb
  have h_x_49 := h_x_48.below hb
  have h_c_49 := h_c_48.later hb
  have h_y_49 := h_y_48.later hb
  have h_qm_49 := h_qm_48.below hb
  have h_qr_49 := h_qr_48.later hb
  have h_rm_49 := h_rm_48.below hb
  have h_rd_49 := h_rd_48.below hb
  clear hb B48 h_s_48 h_x_48 h_c_48 h_y_48 h_qm_48 h_qr_48 h_rm_48 h_rd_48
  have h_rr_49 := (PRow.new 51 w48 #[.int .u8 2, .slice a_r n_r c_r, .int .i64 1, .slice b_r m_r d_r]).base HCB_r.out
  go_upto_region 20 with (first | refine wpList_store_new rfl 51 _ _ rfl atRea _ _ _ rfl rfl rfl rfl (rea_one _ _ _ _ _ _ _ _) ?_)
  generalize (w48.alloc (.cells #[.int .u8 2, .slice a_r n_r c_r, .int .i64 1, .slice b_r m_r d_r] 51)) = w49 at *
  have k_c3 := h_c_49.cell 3 _ rfl
  have k_cf := h_c_49.free 3
  have n_c := h_c_49.set 3 (.int .u8 3)
  simp only [List.setIfInBounds_toArray, List.set_cons_zero, List.set_cons_succ] at n_c
  have n_y := h_y_49.other (p := ⟨G, 3, none⟩) (blk_ne2 h_y_49 h_c_49 (by decide)) h_c_49.lo (.int .u8 3)
  have n_qr := h_qr_49.other (p := ⟨G, 3, none⟩) (blk_ne2 h_qr_49 h_c_49 (by decide)) h_c_49.lo (.int .u8 3)
  have n_rr := h_rr_49.other (p := ⟨G, 3, none⟩) (blk_ne2 h_rr_49 h_c_49 (by decide)) h_c_49.lo (.int .u8 3)
  have n_qm := h_qm_49.setHi h_c_49.row (by decide) (.int .u8 3) (i := 3)
  have n_rm := h_rm_49.setHi h_c_49.row (by decide) (.int .u8 3) (i := 3)
  have n_B := O_B3.out.trans (n_c.below.mono O_B3.out.size)
  go_upto_region 21 with fail
  clear k_c3 k_cf
  have n_s := O_S3.out.below n_c.below
  have n_x := O_X3.out.below n_c.below
  clear h_s_49 h_x_49 h_c_49 h_y_49 h_qm_49 h_qr_49 h_rm_49 h_rr_49 B49
  generalize w49.setCell ⟨G, 3, none⟩ (.int .u8 3) = ws3 at *
  have h_c_50 := n_c
  clear n_c
  have h_s_50 := n_s
  clear n_s
  have h_x_50 := n_x
  clear n_x
  have h_y_50 := n_y
  clear n_y
  have h_qr_50 := n_qr
  clear n_qr
  have h_rr_50 := n_rr
  clear n_rr
  have h_qm_50 := n_qm
  clear n_qm
  have h_rm_50 := n_rm
  clear n_rm
  have B50 := n_B
  clear n_B
  obtain ⟨Z3, hZ3⟩ : ∃ Z, zeros .u8 33 = Z := ⟨_, rfl⟩
  have mz : ∀ w, (Instr.makeSlice 25 (.int .i64 33) (.int .i64 33)).run Try.prog w = .ok (.slice (some ⟨w.heap.size, 0, none⟩) 33 33) (w.alloc (.cells Z3 5)) := fun w => by rw [← hZ3]; exact run_zeros etY 33 (by decide) (by decide) w
  have hzo : Ow .u8 5 ws3.heap.size (ws3.alloc (.cells Z3 5)) (some ⟨ws3.heap.size, 0, none⟩) 33 33 (zs 33) := by rw [← hZ3]; exact Ow.full .u8 5 ws3 33 (by unfold maxLen; decide)
  clear hZ3
  have hb := below_al ws3 (.cells Z3 5)
  have HW0 := Lib.hid (Below.refl ws3.heap.size ws3)
  have O2_s := Lib.hid h_s_50
  have O2_x := Lib.hid h_x_50
  have O2_c := Lib.hid h_c_50
  have O2_y := Lib.hid h_y_50
  have O2_qm := Lib.hid h_qm_50
  have O2_qr := Lib.hid h_qr_50
  have O2_rm := Lib.hid h_rm_50
  have O2_rr := Lib.hid h_rr_50
  have O2_B := Lib.hid B50
  have O2_BZ := Lib.hid (below_al ws3 (.cells Z3 5))
  have B51 := B50.trans (hb.mono B50.size)
  have h_s_51 := h_s_50.below hb
  have h_x_51 := h_x_50.below hb
  have h_c_51 := h_c_50.later hb
  have h_y_51 := h_y_50.later hb
  have h_qm_51 := h_qm_50.below hb
  have h_qr_51 := h_qr_50.later hb
  have h_rm_51 := h_rm_50.below hb
  have h_rr_51 := h_rr_50.later hb
  clear hb B50 h_s_50 h_x_50 h_c_50 h_y_50 h_qm_50 h_qr_50 h_rm_50 h_rr_50
  go_upto_region 22 with fail
  generalize (ws3.alloc (.cells Z3 5)) = w51 at *
  clear mz
  obtain ⟨GZ, hGZ⟩ : ∃ GZ, ws3.heap.size = GZ := ⟨_, rfl⟩
  rw [hGZ] at hzo ⊢
  have HGZ := Lib.hid hGZ
  clear hGZ
  have z1 : Ow .u8 5 GZ (w51.setCell ⟨GZ, 10, none⟩ (.int .u8 100)) (some ⟨GZ, 0, none⟩) 33 33 ((zs 33).set 10 100) := hzo.set 10 100 (by show 100 < 256; decide)
  have z2 : Ow .u8 5 GZ ((w51.setCell ⟨GZ, 10, none⟩ (.int .u8 100)).setCell ⟨GZ, 14, none⟩ (.int .u8 100)) (some ⟨GZ, 0, none⟩) 33 33 (((zs 33).set 10 100).set 14 100) := z1.set 14 100 (by show 100 < 256; decide)
  have z3 : Ow .u8 5 GZ (((w51.setCell ⟨GZ, 10, none⟩ (.int .u8 100)).setCell ⟨GZ, 14, none⟩ (.int .u8 100)).setCell ⟨GZ, 15, none⟩ (.int .u8 100)) (some ⟨GZ, 0, none⟩) 33 33 box33 := z2.set 15 100 (by show 100 < 256; decide)
  have c1 := hzo.at 10 (by decide)
  have f1 := hzo.free 10
  have c2 := z1.at 14 (by decide)
  have f2 := z1.free 14
  have c3 := z2.at 15 (by decide)
  have f3 := z2.free 15
  have hbz : Below ws3.heap.size ws3 (((w51.setCell ⟨GZ, 10, none⟩ (.int .u8 100)).setCell ⟨GZ, 14, none⟩ (.int .u8 100)).setCell ⟨GZ, 15, none⟩ (.int .u8 100)) := by
    have hg : ws3.heap.size ≤ GZ := Nat.le_of_eq HGZ.out
    have h0 : Below ws3.heap.size ws3 w51 := O2_BZ.out
    exact ((h0.setCell (p := ⟨GZ, 10, none⟩) hg _).setCell (p := ⟨GZ, 14, none⟩) hg _).setCell (p := ⟨GZ, 15, none⟩) hg _
  clear hzo z1 z2 h_s_51 h_x_51 h_c_51 h_y_51 h_qm_51 h_qr_51 h_rm_51 h_rr_51 B51
  go_upto_region 23 with fail
  clear c1 c2 c3 f1 f2 f3
  generalize ((w51.setCell ⟨GZ, 10, none⟩ (.int .u8 100)).setCell ⟨GZ, 14, none⟩ (.int .u8 100)).setCell ⟨GZ, 15, none⟩ (.int .u8 100) = wz33 at *
  have hb := hbz
  clear hbz
  have h_s_52 := O2_s.out.below hb
  have h_x_52 := O2_x.out.below hb
  have h_c_52 := O2_c.out.later hb
  have h_y_52 := O2_y.out.later hb
  have h_qm_52 := O2_qm.out.below hb
  have h_qr_52 := O2_qr.out.later hb
  have h_rm_52 := O2_rm.out.below hb
  have h_rr_52 := O2_rr.out.later hb
  have B52 := O2_B.out.trans (hb.mono O2_B.out.size)
  have h_l_52 := z3.rd
  clear hb z3
  go_wp2_with fail
  have c := namesR_any wz33 h_s_52 3 (by decide) h_c_52 h_l_52 (by decide) 0 (by unfold okI; decide) nk3
  rw [nk3] at c
  refine c.mono ?_
  rintro e w53 ⟨a_t, n_t, c_t, b_t, m_t, d_t, rfl, h_tm_53, h_td_53, hb⟩
  clear c
  have B53 := B52.trans (hb.mono B52.size)
  have h_s_53 := h_s_52.below hb
  have h_x_53 := h_x_52.below hb
  have h_c_53 := h_c_52.later hb
  have h_y_53 := h_y_52.later hb
  have h_qm_53 := h_qm_52.below hb
  have h_qr_53 := h_qr_52.later hb
  have h_rm_53 := h_rm_52.below hb
  have h_rr_53 := h_rr_52.later hb
  have h_l_53 := h_l_52.below hb
  clear hb B52 h_s_52 h_x_52 h_c_52 h_y_52 h_qm_52 h_qr_52 h_rm_52 h_rr_52 h_l_52
  have HCB_t := Lib.hid h_c_53.below
  have hb := below_al w53 (.cells #[.int .u8 3, .slice a_t n_t c_t, .int .i64 1, .slice b_t m_t d_t] 51)
  have B54 := B53.trans (hb.mono B53.size)
  have h_s_54 := h_s_53.below hb
  have h_x_54 := h_x_53.below hb
  have h_c_54 := h_c_53.later hb
  have h_y_54 := h_y_53.later hb
  have h_qm_54 := h_qm_53.below hb
  have h_qr_54 := h_qr_53.later hb
  have h_rm_54 := h_rm_53.below hb
  have h_rr_54 := h_rr_53.later hb
  have h_tm_54 := h_tm_53.below hb
  have h_td_54 := h_td_53.below hb
  clear hb B53 h_s_53 h_x_53 h_c_53 h_y_53 h_qm_53 h_qr_53 h_rm_53 h_rr_53 h_tm_53 h_td_53
  have h_tr_54 := (PRow.new 51 w53 #[.int .u8 3, .slice a_t n_t c_t, .int .i64 1, .slice b_t m_t d_t]).base HCB_t.out
  go_upto_region 24 with (first | refine wpList_store_new rfl 51 _ _ rfl atRea _ _ _ rfl rfl rfl rfl (rea_one _ _ _ _ _ _ _ _) ?_)
  generalize (w53.alloc (.cells #[.int .u8 3, .slice a_t n_t c_t, .int .i64 1, .slice b_t m_t d_t] 51)) = w54 at *
  have k_c_0 := h_c_54.cell 0 _ rfl
  have k_c_1 := h_c_54.cell 1 _ rfl
  have k_c_2 := h_c_54.cell 2 _ rfl
  have k_c_3 := h_c_54.cell 3 _ rfl
  have hb := below_al w54 (.cells #[.int .i64 10, .int .i64 0, .int .i64 5] 3)
  have B55 := B54.trans (hb.mono B54.size)
  have h_s_55 := h_s_54.below hb
  have h_x_55 := h_x_54.below hb
  have h_c_55 := h_c_54.later hb
  have h_y_55 := h_y_54.later hb
  have h_qm_55 := h_qm_54.below hb
  have h_qr_55 := h_qr_54.later hb
  have h_rm_55 := h_rm_54.below hb
  have h_rr_55 := h_rr_54.later hb
  have h_tm_55 := h_tm_54.below hb
  have h_tr_55 := h_tr_54.later hb
  clear hb B54 h_s_54 h_x_54 h_c_54 h_y_54 h_qm_54 h_qr_54 h_rm_54 h_rr_54 h_tm_54 h_tr_54
  have h_i_55 := show RdI (w54.alloc (.cells #[.int .i64 10, .int .i64 0, .int .i64 5] 3)) (some ⟨w54.heap.size, 0, none⟩) 3 3 [10, 0, 5] from rdI_lit w54 [10, 0, 5] (by unfold maxLen; decide) (by unfold okI; decide)
  go_wp2_with fail
  clear k_c_0 k_c_1 k_c_2 k_c_3
  generalize (w54.alloc (.cells #[.int .i64 10, .int .i64 0, .int .i64 5] 3)) = w55 at *
  have c := Fill_any w55 xS h_s_55 1 (by decide) (by decide) 3 (by decide) 3 (by decide) h_i_55
  rw [show fillC xS [aS, bS, cS] 1 3 3 [10, 0, 5] = _ from nf1] at c
  refine c.mono ?_
  rintro e w56 ⟨a_u, n_u, c_u, rfl, h_u_56, hb⟩
  clear c
  have B56 := B55.trans (hb.mono B55.size)
  have h_s_56 := h_s_55.below hb
  have h_x_56 := h_x_55.below hb
  have h_c_56 := h_c_55.later hb
  have h_y_56 := h_y_55.later hb
  have h_qm_56 := h_qm_55.below hb
  have h_qr_56 := h_qr_55.later hb
  have h_rm_56 := h_rm_55.below hb
  have h_rr_56 := h_rr_55.later hb
  have h_tm_56 := h_tm_55.below hb
  have h_tr_56 := h_tr_55.later hb
  have h_i_56 := h_i_55.below hb
  clear hb B55 h_s_55 h_x_55 h_c_55 h_y_55 h_qm_55 h_qr_55 h_rm_55 h_rr_55 h_tm_55 h_tr_55 h_i_55
  have hu33 : n_u = 33 := h_u_56.len.symm.trans fill33_at.1
  subst hu33
  have hb := below_al w56 (.cells #[.slice a_u 33 c_u] 27)
  have B57 := B56.trans (hb.mono B56.size)
  have h_s_57 := h_s_56.below hb
  have h_x_57 := h_x_56.below hb
  have h_c_57 := h_c_56.later hb
  have h_y_57 := h_y_56.later hb
  have h_qm_57 := h_qm_56.below hb
  have h_qr_57 := h_qr_56.later hb
  have h_rm_57 := h_rm_56.below hb
  have h_rr_57 := h_rr_56.later hb
  have h_tm_57 := h_tm_56.below hb
  have h_tr_57 := h_tr_56.later hb
  have h_u_57 := h_u_56.below hb
  clear hb B56 h_s_56 h_x_56 h_c_56 h_y_56 h_qm_56 h_qr_56 h_rm_56 h_rr_56 h_tm_56 h_tr_56 h_u_56
  have h_us_57 := PRow.new 27 w56 #[.slice a_u 33 c_u]
  go_upto_region 25 with (first | refine wpList_store_new rfl 27 _ _ rfl atShe _ _ _ rfl rfl rfl rfl (she_one _ _ _) ?_)
  generalize (w56.alloc (.cells #[.slice a_u 33 c_u] 27)) = w57 at *
  have k_c_0 := h_c_57.cell 0 _ rfl
  have k_c_1 := h_c_57.cell 1 _ rfl
  have k_c_2 := h_c_57.cell 2 _ rfl
  have k_c_3 := h_c_57.cell 3 _ rfl
  have hb := below_al w57 (.cells #[.int .i64 1] 3)
  have B58 := B57.trans (hb.mono B57.size)
  have h_s_58 := h_s_57.below hb
  have h_x_58 := h_x_57.below hb
  have h_c_58 := h_c_57.later hb
  have h_y_58 := h_y_57.later hb
  have h_qm_58 := h_qm_57.below hb
  have h_qr_58 := h_qr_57.later hb
  have h_rm_58 := h_rm_57.below hb
  have h_rr_58 := h_rr_57.later hb
  have h_tm_58 := h_tm_57.below hb
  have h_tr_58 := h_tr_57.later hb
  have h_u_58 := h_u_57.below hb
  have h_us_58 := h_us_57.later hb
  clear hb B57 h_s_57 h_x_57 h_c_57 h_y_57 h_qm_57 h_qr_57 h_rm_57 h_rr_57 h_tm_57 h_tr_57 h_u_57 h_us_57
  have h_i_58 := show RdI (w57.alloc (.cells #[.int .i64 1] 3)) (some ⟨w57.heap.size, 0, none⟩) 1 1 [1] from rdI_lit w57 [1] (by unfold maxLen; decide) (by unfold okI; decide)
  go_wp2_with fail
  clear k_c_0 k_c_1 k_c_2 k_c_3
  generalize (w57.alloc (.cells #[.int .i64 1] 3)) = w58 at *
  have c := Fill_any w58 xS h_s_58 1 (by decide) (by decide) 3 (by decide) 1 (by decide) h_i_58
  rw [show fillC xS [aS, bS, cS] 1 3 1 [1] = _ from nf2] at c
  refine c.mono ?_
  rintro e w59 ⟨a_v, n_v, c_v, rfl, -, hb⟩
  clear c
  have B59 := B58.trans (hb.mono B58.size)
  have h_s_59 := h_s_58.below hb
  have h_x_59 := h_x_58.below hb
  have h_c_59 := h_c_58.later hb
  have h_y_59 := h_y_58.later hb
  have h_qm_59 := h_qm_58.below hb
  have h_qr_59 := h_qr_58.later hb
  have h_rm_59 := h_rm_58.below hb
  have h_rr_59 := h_rr_58.later hb
  have h_tm_59 := h_tm_58.below hb
  have h_tr_59 := h_tr_58.later hb
  have h_u_59 := h_u_58.below hb
  have h_us_59 := h_us_58.later hb
  have h_i_59 := h_i_58.below hb
  clear hb B58 h_s_58 h_x_58 h_c_58 h_y_58 h_qm_58 h_qr_58 h_rm_58 h_rr_58 h_tm_58 h_tr_58 h_u_58 h_us_58 h_i_58
  have hb := below_al w59 (.cells #[.slice a_v n_v c_v] 27)
  have B60 := B59.trans (hb.mono B59.size)
  have h_s_60 := h_s_59.below hb
  have h_x_60 := h_x_59.below hb
  have h_c_60 := h_c_59.later hb
  have h_y_60 := h_y_59.later hb
  have h_qm_60 := h_qm_59.below hb
  have h_qr_60 := h_qr_59.later hb
  have h_rm_60 := h_rm_59.below hb
  have h_rr_60 := h_rr_59.later hb
  have h_tm_60 := h_tm_59.below hb
  have h_tr_60 := h_tr_59.later hb
  have h_u_60 := h_u_59.below hb
  have h_us_60 := h_us_59.later hb
  clear hb B59 h_s_59 h_x_59 h_c_59 h_y_59 h_qm_59 h_qr_59 h_rm_59 h_rr_59 h_tm_59 h_tr_59 h_u_59 h_us_59
  go_upto_region 26 with (first | refine wpList_store_new rfl 27 _ _ rfl atShe _ _ _ rfl rfl rfl rfl (she_one _ _ _) ?_)
  generalize (w59.alloc (.cells #[.slice a_v n_v c_v] 27)) = w60 at *
  have k_us_0 := h_us_60.cell 0 _ rfl
  go_upto_region 28 with fail
  clear k_us_0
  go_upto_region 29 with fail
  have hr0 : n_r = 0 := h_rm_60.len.symm
  subst hr0
  have k_qr_0 := h_qr_60.cell 0 _ rfl
  have k_qr_1 := h_qr_60.cell 1 _ rfl
  have k_qr_2 := h_qr_60.cell 2 _ rfl
  have k_qr_3 := h_qr_60.cell 3 _ rfl
  have hb := below_al w60 (.cells #[.int .i64 1] 3)
  have B61 := B60.trans (hb.mono B60.size)
  have h_s_61 := h_s_60.below hb
  have h_x_61 := h_x_60.below hb
  have h_c_61 := h_c_60.later hb
  have h_y_61 := h_y_60.later hb
  have h_qm_61 := h_qm_60.below hb
  have h_qr_61 := h_qr_60.later hb
  have h_rm_61 := h_rm_60.below hb
  have h_rr_61 := h_rr_60.later hb
  have h_tm_61 := h_tm_60.below hb
  have h_tr_61 := h_tr_60.later hb
  have h_u_61 := h_u_60.below hb
  have h_us_61 := h_us_60.later hb
  clear hb B60 h_s_60 h_x_60 h_c_60 h_y_60 h_qm_60 h_qr_60 h_rm_60 h_rr_60 h_tm_60 h_tr_60 h_u_60 h_us_60
  have h_i_61 := show RdI (w60.alloc (.cells #[.int .i64 1] 3)) (some ⟨w60.heap.size, 0, none⟩) 1 1 [1] from rdI_lit w60 [1] (by unfold maxLen; decide) (by unfold okI; decide)
  go_wp2_with fail
  clear k_qr_0 k_qr_1 k_qr_2 k_qr_3
  generalize (w60.alloc (.cells #[.int .i64 1] 3)) = w61 at *
  have c := Ints_any w61 (h_qm_61.rd oneI) h_i_61
  rw [show decide (([1] : List Int) = [1]) = true from rfl] at c
  refine c.mono ?_
  rintro e w62 ⟨rfl, hb⟩
  clear c
  have B62 := B61.trans (hb.mono B61.size)
  have h_s_62 := h_s_61.below hb
  have h_x_62 := h_x_61.below hb
  have h_c_62 := h_c_61.later hb
  have h_y_62 := h_y_61.later hb
  have h_qm_62 := h_qm_61.below hb
  have h_qr_62 := h_qr_61.later hb
  have h_rm_62 := h_rm_61.below hb
  have h_rr_62 := h_rr_61.later hb
  have h_tm_62 := h_tm_61.below hb
  have h_tr_62 := h_tr_61.later hb
  have h_u_62 := h_u_61.below hb
  have h_us_62 := h_us_61.later hb
  have h_i_62 := h_i_61.below hb
  clear hb B61 h_s_61 h_x_61 h_c_61 h_y_61 h_qm_61 h_qr_61 h_rm_61 h_rr_61 h_tm_61 h_tr_61 h_u_61 h_us_61 h_i_61
  have k_rr_0 := h_rr_62.cell 0 _ rfl
  have k_rr_1 := h_rr_62.cell 1 _ rfl
  have k_rr_2 := h_rr_62.cell 2 _ rfl
  have k_rr_3 := h_rr_62.cell 3 _ rfl
  have k_tr_0 := h_tr_62.cell 0 _ rfl
  have k_tr_1 := h_tr_62.cell 1 _ rfl
  have k_tr_2 := h_tr_62.cell 2 _ rfl
  have k_tr_3 := h_tr_62.cell 3 _ rfl
  have hb := below_al w62 (.cells #[.int .i64 10, .int .i64 0, .int .i64 0] 3)
  have B63 := B62.trans (hb.mono B62.size)
  have h_s_63 := h_s_62.below hb
  have h_x_63 := h_x_62.below hb
  have h_c_63 := h_c_62.later hb
  have h_y_63 := h_y_62.later hb
  have h_qm_63 := h_qm_62.below hb
  have h_qr_63 := h_qr_62.later hb
  have h_rm_63 := h_rm_62.below hb
  have h_rr_63 := h_rr_62.later hb
  have h_tm_63 := h_tm_62.below hb
  have h_tr_63 := h_tr_62.later hb
  have h_u_63 := h_u_62.below hb
  have h_us_63 := h_us_62.later hb
  clear hb B62 h_s_62 h_x_62 h_c_62 h_y_62 h_qm_62 h_qr_62 h_rm_62 h_rr_62 h_tm_62 h_tr_62 h_u_62 h_us_62
  have h_i_63 := show RdI (w62.alloc (.cells #[.int .i64 10, .int .i64 0, .int .i64 0] 3)) (some ⟨w62.heap.size, 0, none⟩) 3 3 [10, 0, 0] from rdI_lit w62 [10, 0, 0] (by unfold maxLen; decide) (by unfold okI; decide)
  go_wp2_with fail
  clear k_rr_0 k_rr_1 k_rr_2 k_rr_3 k_tr_0 k_tr_1 k_tr_2 k_tr_3
  generalize (w62.alloc (.cells #[.int .i64 10, .int .i64 0, .int .i64 0] 3)) = w63 at *
  have c := Ints_any w63 (h_tm_63.rd oneI) h_i_63
  rw [show decide (([10, 0, 0] : List Int) = [10, 0, 0]) = true from rfl] at c
  refine c.mono ?_
  rintro e w64 ⟨rfl, hb⟩
  clear c
  have B64 := B63.trans (hb.mono B63.size)
  have h_s_64 := h_s_63.below hb
  have h_x_64 := h_x_63.below hb
  have h_c_64 := h_c_63.later hb
  have h_y_64 := h_y_63.later hb
  have h_qm_64 := h_qm_63.below hb
  have h_qr_64 := h_qr_63.later hb
  have h_rm_64 := h_rm_63.below hb
  have h_rr_64 := h_rr_63.later hb
  have h_tm_64 := h_tm_63.below hb
  have h_tr_64 := h_tr_63.later hb
  have h_u_64 := h_u_63.below hb
  have h_us_64 := h_us_63.later hb
  have h_i_64 := h_i_63.below hb
  clear hb B63 h_s_63 h_x_63 h_c_63 h_y_63 h_qm_63 h_qr_63 h_rm_63 h_rr_63 h_tm_63 h_tr_63 h_u_63 h_us_63 h_i_63
  have k_tr_0 := h_tr_64.cell 0 _ rfl
  have k_tr_1 := h_tr_64.cell 1 _ rfl
  have k_tr_2 := h_tr_64.cell 2 _ rfl
  have k_tr_3 := h_tr_64.cell 3 _ rfl
  go_upto_region 30 with fail
  clear k_tr_0 k_tr_1 k_tr_2 k_tr_3
  go_wp2_with fail
  have c := alive_any w64
  refine c.mono ?_
  rintro e w65 ⟨rfl, hb⟩
  clear c
  have B65 := B64.trans (hb.mono B64.size)
  have h_s_65 := h_s_64.below hb
  have h_x_65 := h_x_64.below hb
  have h_c_65 := h_c_64.later hb
  have h_y_65 := h_y_64.later hb
  have h_qm_65 := h_qm_64.below hb
  have h_qr_65 := h_qr_64.later hb
  have h_rm_65 := h_rm_64.below hb
  have h_rr_65 := h_rr_64.later hb
  have h_tm_65 := h_tm_64.below hb
  have h_tr_65 := h_tr_64.later hb
  have h_u_65 := h_u_64.below hb
  have h_us_65 := h_us_64.later hb
  clear hb B64 h_s_64 h_x_64 h_c_64 h_y_64 h_qm_64 h_qr_64 h_rm_64 h_rr_64 h_tm_64 h_tr_64 h_u_64 h_us_64
  obtain ⟨gu, rfl, -, -⟩ := h_u_65.where (by decide)
  obtain ⟨-, f10, f11, f27, f0⟩ := fill33_at
  have u10 := h_u_65.at 10 (by decide)
  have u11 := h_u_65.at 11 (by decide)
  have u27 := h_u_65.at 27 (by decide)
  have u0 := h_u_65.at 0 (by decide)
  rw [f10] at u10
  rw [f11] at u11
  rw [f27] at u27
  rw [f0] at u0
  clear f10 f11 f27 f0
  have k_us_0 := h_us_65.cell 0 _ rfl
  go_wp2_with fail
  clear k_us_0
  go_ret
  exact ⟨rfl, B65⟩

end Go.Proofs.Ytlfempfhohejiaa
