/- The law's own part, the examples' numbers, and the walk of wakes: it returns true and turns nothing that was there. Printed by gen_ratv.py. -/
import Derived.Test.YtdaajeklnhbhjaaDoorRatU
import Derived.Test.YtdaajeklnhbhjaaDoorRatX
import Derived.Test.YtdaajeklnhbhjaaDoorRatQ
import Derived.Deep.CutRange
namespace Go.Proofs.YtdaajeklnhbhjaaDoor
open Go.RowKit Go.Suf
set_option linter.unusedVariables false
set_option linter.unusedSimpArgs false

set_option maxRecDepth 100000 in
set_option maxHeartbeats 1000000 in
theorem rof_any (w : World) (n d : Int) (h1 : -9223372036854775808 ≤ n) (h2 : n < 9223372036854775808) (h3 : -9223372036854775808 ≤ d) (h4 : d < 9223372036854775808) :
    Calls Tryd.prog 13 #[.int .i64 n, .int .i64 d] w (RetQ w (ofC n d).1) := by
  obtain ⟨r, hr⟩ : ∃ r, r = ofC n d := ⟨_, rfl⟩
  rw [← hr]
  have HR := Lib.hid hr
  have R0 := Row.new w #[.bool false, .slice none 0 0, .slice none 0 0]
  have HN := Lib.hid (show (-9223372036854775808 ≤ n ∧ n < 9223372036854775808) ∧ (-9223372036854775808 ≤ d ∧ d < 9223372036854775808) from ⟨⟨h1, h2⟩, h3, h4⟩)
  clear hr h1 h2 h3 h4
  go_enter Tryd.func13, Tryd.ntmps13
  go_wp2_with fail
  have cc := ratOf_any (w.alloc (.cells #[.bool false, .slice none 0 0, .slice none 0 0] 24)) n d HN.out.1.1 HN.out.1.2 HN.out.2.1 HN.out.2.2
  rw [← HR.out] at cc
  refine cc.mono ?_
  rintro e2 w1 ⟨ap, np, cp, aq, nq, cq, rfl, hp, hq, hb⟩
  clear cc
  have R1 := R0.later hb
  have hA := below_al w1 (.cells #[.bool r.1.neg, .slice ap np cp, .slice aq nq cq] 24)
  have R2 := R1.later hA
  have hp := hp.below hA
  have hq := hq.below hA
  have H2 := Has.new w1 #[.bool r.1.neg, .slice ap np cp, .slice aq nq cq] 24
  have k0 := H2.cell 0 _ rfl
  have k1 := H2.cell 1 _ rfl
  have k2 := H2.cell 2 _ rfl
  have row := R2.row
  have HB := Lib.hid (fun cs => below_row R2.below R2.lo cs)
  have fin := Lib.hid (fun cs => (⟨rd_rowset hp row (rat_noint _ _ _ _ _ _ _) cs, rd_rowset hq row (rat_noint _ _ _ _ _ _ _) cs⟩ : _ ∧ _))
  clear hb hA
  go_wp2_with first | refine wpList_store_new rfl 24 _ _ rfl atRat _ _ _ rfl rfl rfl rfl (rat_one _ _ _ _ _ _ _) ?_ | refine wpList_store_whole rfl 24 _ _ rfl atRat _ _ _ row rfl rfl rfl rfl (rat_one _ _ _ _ _ _ _) ?_
  refine bodyPost_ret (results_cell_row rfl _ _ _ _ _ _ _ rfl (setRow_heap _ _ _ _ _ _ row) Tryd.underlying24 rfl (by kernel_rfl)) rfl ?_
  exact ⟨ap, np, cp, aq, nq, cq, rfl, (fin.out _).1, (fin.out _).2, HB.out _⟩

theorem rx_add : addV (ofC 1 2).1 (ofC 1 3).1 = ((ofC 5 6).1, 0) := by kernel_rfl
theorem rx_sub : subV (ofC 1 2).1 (ofC 1 2).1 = ((ofC 0 1).1, 0) := by kernel_rfl
theorem rx_mul : mulV (ofC 2 3).1 (ofC 3 4).1 = ((ofC 1 2).1, 0) := by kernel_rfl
theorem rx_div : divV (ofC 1 2).1 (ofC 0 5).1 = (zeroV, 40) := by kernel_rfl
theorem rx_flo1 : floorV (ofC 7 2).1 = (3, 0) := by kernel_rfl
theorem rx_flo2 : floorV (ofC 7 (-2)).1 = (-4, 0) := by kernel_rfl
theorem rx_text : textV (ofC (-6) 4).1 = ([45, 51, 47, 50], 0) := by kernel_rfl
theorem rx_str (w : World) : RetSE w ([45, 51, 47, 50], 0) = fun e w' => e = .returned (.tuple #[.string ⟨#[45, 51, 47, 50]⟩, .int .i64 0]) ∧ Below w.heap.size w w' := rfl
theorem rx_arg : strB [45, 51, 47, 50] = ⟨#[45, 51, 47, 50]⟩ := rfl
theorem rx_read : readV [45, 51, 47, 50] = ((ofC (-3) 2).1, 0) := by kernel_rfl
theorem rx_cmp : cmpV (ofC 1 3).1 (ofC 1 2).1 = (-1, 0) := by kernel_rfl
theorem rx_of : ofC 1 0 = (zeroV, 40) := by kernel_rfl
theorem rx_neg : negC ⟨false, [], []⟩ = (zeroV, 8) := by kernel_rfl
theorem rx_chk1 : chkV (ofC 5 6).1 = 0 := by kernel_rfl
theorem rx_chk2 : chkV ⟨false, [2], [4]⟩ = 8 := by kernel_rfl
theorem rx_chk3 : chkV ⟨true, [], [1]⟩ = 8 := by kernel_rfl
theorem rx_r0 : readV [50, 47, 52] = (zeroV, 11) := by kernel_rfl
theorem rx_r1 : readV [51, 47, 49] = (zeroV, 11) := by kernel_rfl
theorem rx_r2 : readV [45, 48] = (zeroV, 11) := by kernel_rfl
theorem rx_r3 : readV [49, 47, 48] = (zeroV, 11) := by kernel_rfl
theorem rx_r4 : readV [] = (zeroV, 11) := by kernel_rfl
theorem rx_r5 : readV [47] = (zeroV, 11) := by kernel_rfl
theorem rx_r6 : readV [49, 47, 45, 50] = (zeroV, 11) := by kernel_rfl
theorem lit_u1 (n : Nat) (hn : n < 4294967296) (w : World) : Rd .u32 (w.alloc (.cells #[.int .u32 (n : Nat)] 47)) (some ⟨w.heap.size, 0, none⟩) 1 1 [n] :=
  rd_lit .u32 w [n] 47 1 rfl (by decide) (by intro y hy; simp at hy; subst hy; exact hn)

set_option maxRecDepth 100000 in
set_option maxHeartbeats 8000000 in
theorem wakes_any (w : World) : Calls Tryd.prog 5 #[] w (RetBB w true) := by
  go_enter Tryd.func5, Tryd.ntmps5
  have B0 : Below w.heap.size w w := Below.refl _ _
  go_wp2_with fail
  have c := rof_any w 1 2 (by decide) (by decide) (by decide) (by decide)
  refine c.mono ?_
  rintro e w1 ⟨a_p, n_p, c_p, b_p, m_p, d_p, rfl, h_pn_1, h_pd_1, hb⟩
  clear c
  have B1 := B0.trans (hb.mono B0.size)
  clear hb B0
  go_wp2_with fail
  have c := rof_any w1 1 3 (by decide) (by decide) (by decide) (by decide)
  refine c.mono ?_
  rintro e w2 ⟨a_q, n_q, c_q, b_q, m_q, d_q, rfl, h_qn_2, h_qd_2, hb⟩
  clear c
  have B2 := B1.trans (hb.mono B1.size)
  have h_pn_2 := h_pn_1.below hb
  have h_pd_2 := h_pd_1.below hb
  clear hb B1 h_pn_1 h_pd_1
  go_wp2_with fail
  have c := ratAdd_any w2 (g1 := (ofC 1 2).1.neg) (g2 := (ofC 1 3).1.neg) h_pn_2 h_pd_2 h_qn_2 h_qd_2
  rw [show (⟨(ofC 1 2).1.neg, (ofC 1 2).1.num, (ofC 1 2).1.den⟩ : QV) = (ofC 1 2).1 from rfl] at c
  rw [show (⟨(ofC 1 3).1.neg, (ofC 1 3).1.num, (ofC 1 3).1.den⟩ : QV) = (ofC 1 3).1 from rfl] at c
  rw [rx_add] at c
  refine c.mono ?_
  rintro e w3 ⟨a_a, n_a, c_a, b_a, m_a, d_a, rfl, h_an_3, h_ad_3, hb⟩
  clear c
  have B3 := B2.trans (hb.mono B2.size)
  clear hb B2 h_pn_2 h_pd_2 h_qn_2 h_qd_2
  have hb := below_al w3 (.cells #[.bool ((ofC 5 6).1).neg, .slice a_a n_a c_a, .slice b_a m_a d_a] 24)
  have B4 := B3.trans (hb.mono B3.size)
  have h_an_4 := h_an_3.below hb
  have h_ad_4 := h_ad_3.below hb
  clear hb B3 h_an_3 h_ad_3
  have h_a_4 := Has.new w3 #[.bool ((ofC 5 6).1).neg, .slice a_a n_a c_a, .slice b_a m_a d_a] 24
  go_wp2_with first | refine wpList_store_new rfl 24 _ _ rfl atRat _ _ _ rfl rfl rfl rfl (rat_one _ _ _ _ _ _ _) ?_
  generalize (w3.alloc (.cells #[.bool ((ofC 5 6).1).neg, .slice a_a n_a c_a, .slice b_a m_a d_a] 24)) = w4 at *
  have c := rof_any w4 1 2 (by decide) (by decide) (by decide) (by decide)
  refine c.mono ?_
  rintro e w5 ⟨a_p, n_p, c_p, b_p, m_p, d_p, rfl, h_pn_5, h_pd_5, hb⟩
  clear c
  have B5 := B4.trans (hb.mono B4.size)
  have h_an_5 := h_an_4.below hb
  have h_ad_5 := h_ad_4.below hb
  have h_a_5 := h_a_4.later hb
  clear hb B4 h_an_4 h_ad_4 h_a_4
  go_wp2_with fail
  have c := rof_any w5 1 2 (by decide) (by decide) (by decide) (by decide)
  refine c.mono ?_
  rintro e w6 ⟨a_q, n_q, c_q, b_q, m_q, d_q, rfl, h_qn_6, h_qd_6, hb⟩
  clear c
  have B6 := B5.trans (hb.mono B5.size)
  have h_an_6 := h_an_5.below hb
  have h_ad_6 := h_ad_5.below hb
  have h_a_6 := h_a_5.later hb
  have h_pn_6 := h_pn_5.below hb
  have h_pd_6 := h_pd_5.below hb
  clear hb B5 h_an_5 h_ad_5 h_a_5 h_pn_5 h_pd_5
  go_wp2_with fail
  have c := ratSub_any w6 (g1 := (ofC 1 2).1.neg) (g2 := (ofC 1 2).1.neg) h_pn_6 h_pd_6 h_qn_6 h_qd_6
  rw [show (⟨(ofC 1 2).1.neg, (ofC 1 2).1.num, (ofC 1 2).1.den⟩ : QV) = (ofC 1 2).1 from rfl] at c
  rw [rx_sub] at c
  refine c.mono ?_
  rintro e w7 ⟨a_b, n_b, c_b, b_b, m_b, d_b, rfl, h_bn_7, h_bd_7, hb⟩
  clear c
  have B7 := B6.trans (hb.mono B6.size)
  have h_an_7 := h_an_6.below hb
  have h_ad_7 := h_ad_6.below hb
  have h_a_7 := h_a_6.later hb
  clear hb B6 h_an_6 h_ad_6 h_a_6 h_pn_6 h_pd_6 h_qn_6 h_qd_6
  have hb := below_al w7 (.cells #[.bool ((ofC 0 1).1).neg, .slice a_b n_b c_b, .slice b_b m_b d_b] 24)
  have B8 := B7.trans (hb.mono B7.size)
  have h_an_8 := h_an_7.below hb
  have h_ad_8 := h_ad_7.below hb
  have h_a_8 := h_a_7.later hb
  have h_bn_8 := h_bn_7.below hb
  have h_bd_8 := h_bd_7.below hb
  clear hb B7 h_an_7 h_ad_7 h_a_7 h_bn_7 h_bd_7
  have h_b_8 := Has.new w7 #[.bool ((ofC 0 1).1).neg, .slice a_b n_b c_b, .slice b_b m_b d_b] 24
  go_wp2_with first | refine wpList_store_new rfl 24 _ _ rfl atRat _ _ _ rfl rfl rfl rfl (rat_one _ _ _ _ _ _ _) ?_
  generalize (w7.alloc (.cells #[.bool ((ofC 0 1).1).neg, .slice a_b n_b c_b, .slice b_b m_b d_b] 24)) = w8 at *
  have c := rof_any w8 2 3 (by decide) (by decide) (by decide) (by decide)
  refine c.mono ?_
  rintro e w9 ⟨a_p, n_p, c_p, b_p, m_p, d_p, rfl, h_pn_9, h_pd_9, hb⟩
  clear c
  have B9 := B8.trans (hb.mono B8.size)
  have h_an_9 := h_an_8.below hb
  have h_ad_9 := h_ad_8.below hb
  have h_a_9 := h_a_8.later hb
  have h_bn_9 := h_bn_8.below hb
  have h_bd_9 := h_bd_8.below hb
  have h_b_9 := h_b_8.later hb
  clear hb B8 h_an_8 h_ad_8 h_a_8 h_bn_8 h_bd_8 h_b_8
  go_wp2_with fail
  have c := rof_any w9 3 4 (by decide) (by decide) (by decide) (by decide)
  refine c.mono ?_
  rintro e w10 ⟨a_q, n_q, c_q, b_q, m_q, d_q, rfl, h_qn_10, h_qd_10, hb⟩
  clear c
  have B10 := B9.trans (hb.mono B9.size)
  have h_an_10 := h_an_9.below hb
  have h_ad_10 := h_ad_9.below hb
  have h_a_10 := h_a_9.later hb
  have h_bn_10 := h_bn_9.below hb
  have h_bd_10 := h_bd_9.below hb
  have h_b_10 := h_b_9.later hb
  have h_pn_10 := h_pn_9.below hb
  have h_pd_10 := h_pd_9.below hb
  clear hb B9 h_an_9 h_ad_9 h_a_9 h_bn_9 h_bd_9 h_b_9 h_pn_9 h_pd_9
  go_wp2_with fail
  have c := ratMul_any w10 (g1 := (ofC 2 3).1.neg) (g2 := (ofC 3 4).1.neg) h_pn_10 h_pd_10 h_qn_10 h_qd_10
  rw [show (⟨(ofC 2 3).1.neg, (ofC 2 3).1.num, (ofC 2 3).1.den⟩ : QV) = (ofC 2 3).1 from rfl] at c
  rw [show (⟨(ofC 3 4).1.neg, (ofC 3 4).1.num, (ofC 3 4).1.den⟩ : QV) = (ofC 3 4).1 from rfl] at c
  rw [rx_mul] at c
  refine c.mono ?_
  rintro e w11 ⟨a_c, n_c, c_c, b_c, m_c, d_c, rfl, h_cn_11, h_cd_11, hb⟩
  clear c
  have B11 := B10.trans (hb.mono B10.size)
  have h_an_11 := h_an_10.below hb
  have h_ad_11 := h_ad_10.below hb
  have h_a_11 := h_a_10.later hb
  have h_bn_11 := h_bn_10.below hb
  have h_bd_11 := h_bd_10.below hb
  have h_b_11 := h_b_10.later hb
  clear hb B10 h_an_10 h_ad_10 h_a_10 h_bn_10 h_bd_10 h_b_10 h_pn_10 h_pd_10 h_qn_10 h_qd_10
  have hb := below_al w11 (.cells #[.bool ((ofC 1 2).1).neg, .slice a_c n_c c_c, .slice b_c m_c d_c] 24)
  have B12 := B11.trans (hb.mono B11.size)
  have h_an_12 := h_an_11.below hb
  have h_ad_12 := h_ad_11.below hb
  have h_a_12 := h_a_11.later hb
  have h_bn_12 := h_bn_11.below hb
  have h_bd_12 := h_bd_11.below hb
  have h_b_12 := h_b_11.later hb
  have h_cn_12 := h_cn_11.below hb
  have h_cd_12 := h_cd_11.below hb
  clear hb B11 h_an_11 h_ad_11 h_a_11 h_bn_11 h_bd_11 h_b_11 h_cn_11 h_cd_11
  have h_c_12 := Has.new w11 #[.bool ((ofC 1 2).1).neg, .slice a_c n_c c_c, .slice b_c m_c d_c] 24
  go_wp2_with first | refine wpList_store_new rfl 24 _ _ rfl atRat _ _ _ rfl rfl rfl rfl (rat_one _ _ _ _ _ _ _) ?_
  generalize (w11.alloc (.cells #[.bool ((ofC 1 2).1).neg, .slice a_c n_c c_c, .slice b_c m_c d_c] 24)) = w12 at *
  have c := rof_any w12 1 2 (by decide) (by decide) (by decide) (by decide)
  refine c.mono ?_
  rintro e w13 ⟨a_p, n_p, c_p, b_p, m_p, d_p, rfl, h_pn_13, h_pd_13, hb⟩
  clear c
  have B13 := B12.trans (hb.mono B12.size)
  have h_an_13 := h_an_12.below hb
  have h_ad_13 := h_ad_12.below hb
  have h_a_13 := h_a_12.later hb
  have h_bn_13 := h_bn_12.below hb
  have h_bd_13 := h_bd_12.below hb
  have h_b_13 := h_b_12.later hb
  have h_cn_13 := h_cn_12.below hb
  have h_cd_13 := h_cd_12.below hb
  have h_c_13 := h_c_12.later hb
  clear hb B12 h_an_12 h_ad_12 h_a_12 h_bn_12 h_bd_12 h_b_12 h_cn_12 h_cd_12 h_c_12
  go_wp2_with fail
  have c := rof_any w13 0 5 (by decide) (by decide) (by decide) (by decide)
  refine c.mono ?_
  rintro e w14 ⟨a_q, n_q, c_q, b_q, m_q, d_q, rfl, h_qn_14, h_qd_14, hb⟩
  clear c
  have B14 := B13.trans (hb.mono B13.size)
  have h_an_14 := h_an_13.below hb
  have h_ad_14 := h_ad_13.below hb
  have h_a_14 := h_a_13.later hb
  have h_bn_14 := h_bn_13.below hb
  have h_bd_14 := h_bd_13.below hb
  have h_b_14 := h_b_13.later hb
  have h_cn_14 := h_cn_13.below hb
  have h_cd_14 := h_cd_13.below hb
  have h_c_14 := h_c_13.later hb
  have h_pn_14 := h_pn_13.below hb
  have h_pd_14 := h_pd_13.below hb
  clear hb B13 h_an_13 h_ad_13 h_a_13 h_bn_13 h_bd_13 h_b_13 h_cn_13 h_cd_13 h_c_13 h_pn_13 h_pd_13
  go_wp2_with fail
  have c := ratDiv_any w14 (g1 := (ofC 1 2).1.neg) (g2 := (ofC 0 5).1.neg) h_pn_14 h_pd_14 h_qn_14 h_qd_14
  rw [show (⟨(ofC 1 2).1.neg, (ofC 1 2).1.num, (ofC 1 2).1.den⟩ : QV) = (ofC 1 2).1 from rfl] at c
  rw [show (⟨(ofC 0 5).1.neg, (ofC 0 5).1.num, (ofC 0 5).1.den⟩ : QV) = (ofC 0 5).1 from rfl] at c
  rw [rx_div] at c
  refine c.mono ?_
  rintro e w15 ⟨a_d, n_d, c_d, b_d, m_d, d_d, rfl, h_dn_15, h_dd_15, hb⟩
  clear c
  have B15 := B14.trans (hb.mono B14.size)
  have h_an_15 := h_an_14.below hb
  have h_ad_15 := h_ad_14.below hb
  have h_a_15 := h_a_14.later hb
  have h_bn_15 := h_bn_14.below hb
  have h_bd_15 := h_bd_14.below hb
  have h_b_15 := h_b_14.later hb
  have h_cn_15 := h_cn_14.below hb
  have h_cd_15 := h_cd_14.below hb
  have h_c_15 := h_c_14.later hb
  clear hb B14 h_an_14 h_ad_14 h_a_14 h_bn_14 h_bd_14 h_b_14 h_cn_14 h_cd_14 h_c_14 h_pn_14 h_pd_14 h_qn_14 h_qd_14
  have hb := below_al w15 (.cells #[.bool (zeroV).neg, .slice a_d n_d c_d, .slice b_d m_d d_d] 24)
  have B16 := B15.trans (hb.mono B15.size)
  have h_an_16 := h_an_15.below hb
  have h_ad_16 := h_ad_15.below hb
  have h_a_16 := h_a_15.later hb
  have h_bn_16 := h_bn_15.below hb
  have h_bd_16 := h_bd_15.below hb
  have h_b_16 := h_b_15.later hb
  have h_cn_16 := h_cn_15.below hb
  have h_cd_16 := h_cd_15.below hb
  have h_c_16 := h_c_15.later hb
  have h_dn_16 := h_dn_15.below hb
  have h_dd_16 := h_dd_15.below hb
  clear hb B15 h_an_15 h_ad_15 h_a_15 h_bn_15 h_bd_15 h_b_15 h_cn_15 h_cd_15 h_c_15 h_dn_15 h_dd_15
  have h_d_16 := Has.new w15 #[.bool (zeroV).neg, .slice a_d n_d c_d, .slice b_d m_d d_d] 24
  go_wp2_with first | refine wpList_store_new rfl 24 _ _ rfl atRat _ _ _ rfl rfl rfl rfl (rat_one _ _ _ _ _ _ _) ?_
  generalize (w15.alloc (.cells #[.bool (zeroV).neg, .slice a_d n_d c_d, .slice b_d m_d d_d] 24)) = w16 at *
  have c := rof_any w16 7 2 (by decide) (by decide) (by decide) (by decide)
  refine c.mono ?_
  rintro e w17 ⟨a_p, n_p, c_p, b_p, m_p, d_p, rfl, h_pn_17, h_pd_17, hb⟩
  clear c
  have B17 := B16.trans (hb.mono B16.size)
  have h_an_17 := h_an_16.below hb
  have h_ad_17 := h_ad_16.below hb
  have h_a_17 := h_a_16.later hb
  have h_bn_17 := h_bn_16.below hb
  have h_bd_17 := h_bd_16.below hb
  have h_b_17 := h_b_16.later hb
  have h_cn_17 := h_cn_16.below hb
  have h_cd_17 := h_cd_16.below hb
  have h_c_17 := h_c_16.later hb
  have h_dn_17 := h_dn_16.below hb
  have h_dd_17 := h_dd_16.below hb
  have h_d_17 := h_d_16.later hb
  clear hb B16 h_an_16 h_ad_16 h_a_16 h_bn_16 h_bd_16 h_b_16 h_cn_16 h_cd_16 h_c_16 h_dn_16 h_dd_16 h_d_16
  go_wp2_with fail
  have c := ratFloor_any w17 (g := (ofC 7 2).1.neg) h_pn_17 h_pd_17
  rw [show (⟨(ofC 7 2).1.neg, (ofC 7 2).1.num, (ofC 7 2).1.den⟩ : QV) = (ofC 7 2).1 from rfl] at c
  rw [rx_flo1] at c
  refine c.mono ?_
  rintro e w18 ⟨rfl, hb⟩
  clear c
  have B18 := B17.trans (hb.mono B17.size)
  have h_an_18 := h_an_17.below hb
  have h_ad_18 := h_ad_17.below hb
  have h_a_18 := h_a_17.later hb
  have h_bn_18 := h_bn_17.below hb
  have h_bd_18 := h_bd_17.below hb
  have h_b_18 := h_b_17.later hb
  have h_cn_18 := h_cn_17.below hb
  have h_cd_18 := h_cd_17.below hb
  have h_c_18 := h_c_17.later hb
  have h_dn_18 := h_dn_17.below hb
  have h_dd_18 := h_dd_17.below hb
  have h_d_18 := h_d_17.later hb
  clear hb B17 h_an_17 h_ad_17 h_a_17 h_bn_17 h_bd_17 h_b_17 h_cn_17 h_cd_17 h_c_17 h_dn_17 h_dd_17 h_d_17 h_pn_17 h_pd_17
  go_wp2_with fail
  have c := rof_any w18 7 (-2) (by decide) (by decide) (by decide) (by decide)
  refine c.mono ?_
  rintro e w19 ⟨a_p, n_p, c_p, b_p, m_p, d_p, rfl, h_pn_19, h_pd_19, hb⟩
  clear c
  have B19 := B18.trans (hb.mono B18.size)
  have h_an_19 := h_an_18.below hb
  have h_ad_19 := h_ad_18.below hb
  have h_a_19 := h_a_18.later hb
  have h_bn_19 := h_bn_18.below hb
  have h_bd_19 := h_bd_18.below hb
  have h_b_19 := h_b_18.later hb
  have h_cn_19 := h_cn_18.below hb
  have h_cd_19 := h_cd_18.below hb
  have h_c_19 := h_c_18.later hb
  have h_dn_19 := h_dn_18.below hb
  have h_dd_19 := h_dd_18.below hb
  have h_d_19 := h_d_18.later hb
  clear hb B18 h_an_18 h_ad_18 h_a_18 h_bn_18 h_bd_18 h_b_18 h_cn_18 h_cd_18 h_c_18 h_dn_18 h_dd_18 h_d_18
  go_wp2_with fail
  have c := ratFloor_any w19 (g := (ofC 7 (-2)).1.neg) h_pn_19 h_pd_19
  rw [show (⟨(ofC 7 (-2)).1.neg, (ofC 7 (-2)).1.num, (ofC 7 (-2)).1.den⟩ : QV) = (ofC 7 (-2)).1 from rfl] at c
  rw [rx_flo2] at c
  refine c.mono ?_
  rintro e w20 ⟨rfl, hb⟩
  clear c
  have B20 := B19.trans (hb.mono B19.size)
  have h_an_20 := h_an_19.below hb
  have h_ad_20 := h_ad_19.below hb
  have h_a_20 := h_a_19.later hb
  have h_bn_20 := h_bn_19.below hb
  have h_bd_20 := h_bd_19.below hb
  have h_b_20 := h_b_19.later hb
  have h_cn_20 := h_cn_19.below hb
  have h_cd_20 := h_cd_19.below hb
  have h_c_20 := h_c_19.later hb
  have h_dn_20 := h_dn_19.below hb
  have h_dd_20 := h_dd_19.below hb
  have h_d_20 := h_d_19.later hb
  clear hb B19 h_an_19 h_ad_19 h_a_19 h_bn_19 h_bd_19 h_b_19 h_cn_19 h_cd_19 h_c_19 h_dn_19 h_dd_19 h_d_19 h_pn_19 h_pd_19
  go_wp2_with fail
  have c := rof_any w20 (-6) 4 (by decide) (by decide) (by decide) (by decide)
  refine c.mono ?_
  rintro e w21 ⟨a_p, n_p, c_p, b_p, m_p, d_p, rfl, h_pn_21, h_pd_21, hb⟩
  clear c
  have B21 := B20.trans (hb.mono B20.size)
  have h_an_21 := h_an_20.below hb
  have h_ad_21 := h_ad_20.below hb
  have h_a_21 := h_a_20.later hb
  have h_bn_21 := h_bn_20.below hb
  have h_bd_21 := h_bd_20.below hb
  have h_b_21 := h_b_20.later hb
  have h_cn_21 := h_cn_20.below hb
  have h_cd_21 := h_cd_20.below hb
  have h_c_21 := h_c_20.later hb
  have h_dn_21 := h_dn_20.below hb
  have h_dd_21 := h_dd_20.below hb
  have h_d_21 := h_d_20.later hb
  clear hb B20 h_an_20 h_ad_20 h_a_20 h_bn_20 h_bd_20 h_b_20 h_cn_20 h_cd_20 h_c_20 h_dn_20 h_dd_20 h_d_20
  go_wp2_with fail
  have c := ratText_any w21 (g := (ofC (-6) 4).1.neg) h_pn_21 h_pd_21
  rw [show (⟨(ofC (-6) 4).1.neg, (ofC (-6) 4).1.num, (ofC (-6) 4).1.den⟩ : QV) = (ofC (-6) 4).1 from rfl] at c
  rw [rx_text] at c
  rw [rx_str] at c
  refine c.mono ?_
  rintro e w22 ⟨rfl, hb⟩
  clear c
  have B22 := B21.trans (hb.mono B21.size)
  have h_an_22 := h_an_21.below hb
  have h_ad_22 := h_ad_21.below hb
  have h_a_22 := h_a_21.later hb
  have h_bn_22 := h_bn_21.below hb
  have h_bd_22 := h_bd_21.below hb
  have h_b_22 := h_b_21.later hb
  have h_cn_22 := h_cn_21.below hb
  have h_cd_22 := h_cd_21.below hb
  have h_c_22 := h_c_21.later hb
  have h_dn_22 := h_dn_21.below hb
  have h_dd_22 := h_dd_21.below hb
  have h_d_22 := h_d_21.later hb
  clear hb B21 h_an_21 h_ad_21 h_a_21 h_bn_21 h_bd_21 h_b_21 h_cn_21 h_cd_21 h_c_21 h_dn_21 h_dd_21 h_d_21 h_pn_21 h_pd_21
  go_wp2_with fail
  have c := ratRead_any w22 [45, 51, 47, 50] (by decide) (by decide)
  rw [rx_arg] at c
  rw [rx_read] at c
  refine c.mono ?_
  rintro e w23 ⟨a_x, n_x, c_x, b_x, m_x, d_x, rfl, h_xn_23, h_xd_23, hb⟩
  clear c
  have B23 := B22.trans (hb.mono B22.size)
  have h_an_23 := h_an_22.below hb
  have h_ad_23 := h_ad_22.below hb
  have h_a_23 := h_a_22.later hb
  have h_bn_23 := h_bn_22.below hb
  have h_bd_23 := h_bd_22.below hb
  have h_b_23 := h_b_22.later hb
  have h_cn_23 := h_cn_22.below hb
  have h_cd_23 := h_cd_22.below hb
  have h_c_23 := h_c_22.later hb
  have h_dn_23 := h_dn_22.below hb
  have h_dd_23 := h_dd_22.below hb
  have h_d_23 := h_d_22.later hb
  clear hb B22 h_an_22 h_ad_22 h_a_22 h_bn_22 h_bd_22 h_b_22 h_cn_22 h_cd_22 h_c_22 h_dn_22 h_dd_22 h_d_22
  have hb := below_al w23 (.cells #[.bool ((ofC (-3) 2).1).neg, .slice a_x n_x c_x, .slice b_x m_x d_x] 24)
  have B24 := B23.trans (hb.mono B23.size)
  have h_an_24 := h_an_23.below hb
  have h_ad_24 := h_ad_23.below hb
  have h_a_24 := h_a_23.later hb
  have h_bn_24 := h_bn_23.below hb
  have h_bd_24 := h_bd_23.below hb
  have h_b_24 := h_b_23.later hb
  have h_cn_24 := h_cn_23.below hb
  have h_cd_24 := h_cd_23.below hb
  have h_c_24 := h_c_23.later hb
  have h_dn_24 := h_dn_23.below hb
  have h_dd_24 := h_dd_23.below hb
  have h_d_24 := h_d_23.later hb
  have h_xn_24 := h_xn_23.below hb
  have h_xd_24 := h_xd_23.below hb
  clear hb B23 h_an_23 h_ad_23 h_a_23 h_bn_23 h_bd_23 h_b_23 h_cn_23 h_cd_23 h_c_23 h_dn_23 h_dd_23 h_d_23 h_xn_23 h_xd_23
  have h_x_24 := Has.new w23 #[.bool ((ofC (-3) 2).1).neg, .slice a_x n_x c_x, .slice b_x m_x d_x] 24
  go_wp2_with first | refine wpList_store_new rfl 24 _ _ rfl atRat _ _ _ rfl rfl rfl rfl (rat_one _ _ _ _ _ _ _) ?_
  generalize (w23.alloc (.cells #[.bool ((ofC (-3) 2).1).neg, .slice a_x n_x c_x, .slice b_x m_x d_x] 24)) = w24 at *
  have c := rof_any w24 1 3 (by decide) (by decide) (by decide) (by decide)
  refine c.mono ?_
  rintro e w25 ⟨a_p, n_p, c_p, b_p, m_p, d_p, rfl, h_pn_25, h_pd_25, hb⟩
  clear c
  have B25 := B24.trans (hb.mono B24.size)
  have h_an_25 := h_an_24.below hb
  have h_ad_25 := h_ad_24.below hb
  have h_a_25 := h_a_24.later hb
  have h_bn_25 := h_bn_24.below hb
  have h_bd_25 := h_bd_24.below hb
  have h_b_25 := h_b_24.later hb
  have h_cn_25 := h_cn_24.below hb
  have h_cd_25 := h_cd_24.below hb
  have h_c_25 := h_c_24.later hb
  have h_dn_25 := h_dn_24.below hb
  have h_dd_25 := h_dd_24.below hb
  have h_d_25 := h_d_24.later hb
  have h_xn_25 := h_xn_24.below hb
  have h_xd_25 := h_xd_24.below hb
  have h_x_25 := h_x_24.later hb
  clear hb B24 h_an_24 h_ad_24 h_a_24 h_bn_24 h_bd_24 h_b_24 h_cn_24 h_cd_24 h_c_24 h_dn_24 h_dd_24 h_d_24 h_xn_24 h_xd_24 h_x_24
  go_wp2_with fail
  have c := rof_any w25 1 2 (by decide) (by decide) (by decide) (by decide)
  refine c.mono ?_
  rintro e w26 ⟨a_q, n_q, c_q, b_q, m_q, d_q, rfl, h_qn_26, h_qd_26, hb⟩
  clear c
  have B26 := B25.trans (hb.mono B25.size)
  have h_an_26 := h_an_25.below hb
  have h_ad_26 := h_ad_25.below hb
  have h_a_26 := h_a_25.later hb
  have h_bn_26 := h_bn_25.below hb
  have h_bd_26 := h_bd_25.below hb
  have h_b_26 := h_b_25.later hb
  have h_cn_26 := h_cn_25.below hb
  have h_cd_26 := h_cd_25.below hb
  have h_c_26 := h_c_25.later hb
  have h_dn_26 := h_dn_25.below hb
  have h_dd_26 := h_dd_25.below hb
  have h_d_26 := h_d_25.later hb
  have h_xn_26 := h_xn_25.below hb
  have h_xd_26 := h_xd_25.below hb
  have h_x_26 := h_x_25.later hb
  have h_pn_26 := h_pn_25.below hb
  have h_pd_26 := h_pd_25.below hb
  clear hb B25 h_an_25 h_ad_25 h_a_25 h_bn_25 h_bd_25 h_b_25 h_cn_25 h_cd_25 h_c_25 h_dn_25 h_dd_25 h_d_25 h_xn_25 h_xd_25 h_x_25 h_pn_25 h_pd_25
  go_wp2_with fail
  have c := ratCmp_any w26 (g1 := (ofC 1 3).1.neg) (g2 := (ofC 1 2).1.neg) h_pn_26 h_pd_26 h_qn_26 h_qd_26
  rw [show (⟨(ofC 1 3).1.neg, (ofC 1 3).1.num, (ofC 1 3).1.den⟩ : QV) = (ofC 1 3).1 from rfl] at c
  rw [show (⟨(ofC 1 2).1.neg, (ofC 1 2).1.num, (ofC 1 2).1.den⟩ : QV) = (ofC 1 2).1 from rfl] at c
  rw [rx_cmp] at c
  refine c.mono ?_
  rintro e w27 ⟨rfl, hb⟩
  clear c
  have B27 := B26.trans (hb.mono B26.size)
  have h_an_27 := h_an_26.below hb
  have h_ad_27 := h_ad_26.below hb
  have h_a_27 := h_a_26.later hb
  have h_bn_27 := h_bn_26.below hb
  have h_bd_27 := h_bd_26.below hb
  have h_b_27 := h_b_26.later hb
  have h_cn_27 := h_cn_26.below hb
  have h_cd_27 := h_cd_26.below hb
  have h_c_27 := h_c_26.later hb
  have h_dn_27 := h_dn_26.below hb
  have h_dd_27 := h_dd_26.below hb
  have h_d_27 := h_d_26.later hb
  have h_xn_27 := h_xn_26.below hb
  have h_xd_27 := h_xd_26.below hb
  have h_x_27 := h_x_26.later hb
  clear hb B26 h_an_26 h_ad_26 h_a_26 h_bn_26 h_bd_26 h_b_26 h_cn_26 h_cd_26 h_c_26 h_dn_26 h_dd_26 h_d_26 h_xn_26 h_xd_26 h_x_26 h_pn_26 h_pd_26 h_qn_26 h_qd_26
  go_wp2_with fail
  have c := ratOf_any w27 1 0 (by decide) (by decide) (by decide) (by decide)
  rw [rx_of] at c
  refine c.mono ?_
  rintro e w28 ⟨a_f, n_f, c_f, b_f, m_f, d_f, rfl, h_fn_28, h_fd_28, hb⟩
  clear c
  have B28 := B27.trans (hb.mono B27.size)
  have h_an_28 := h_an_27.below hb
  have h_ad_28 := h_ad_27.below hb
  have h_a_28 := h_a_27.later hb
  have h_bn_28 := h_bn_27.below hb
  have h_bd_28 := h_bd_27.below hb
  have h_b_28 := h_b_27.later hb
  have h_cn_28 := h_cn_27.below hb
  have h_cd_28 := h_cd_27.below hb
  have h_c_28 := h_c_27.later hb
  have h_dn_28 := h_dn_27.below hb
  have h_dd_28 := h_dd_27.below hb
  have h_d_28 := h_d_27.later hb
  have h_xn_28 := h_xn_27.below hb
  have h_xd_28 := h_xd_27.below hb
  have h_x_28 := h_x_27.later hb
  clear hb B27 h_an_27 h_ad_27 h_a_27 h_bn_27 h_bd_27 h_b_27 h_cn_27 h_cd_27 h_c_27 h_dn_27 h_dd_27 h_d_27 h_xn_27 h_xd_27 h_x_27
  have hb := below_al w28 (.cells #[.bool (zeroV).neg, .slice a_f n_f c_f, .slice b_f m_f d_f] 24)
  have B29 := B28.trans (hb.mono B28.size)
  have h_an_29 := h_an_28.below hb
  have h_ad_29 := h_ad_28.below hb
  have h_a_29 := h_a_28.later hb
  have h_bn_29 := h_bn_28.below hb
  have h_bd_29 := h_bd_28.below hb
  have h_b_29 := h_b_28.later hb
  have h_cn_29 := h_cn_28.below hb
  have h_cd_29 := h_cd_28.below hb
  have h_c_29 := h_c_28.later hb
  have h_dn_29 := h_dn_28.below hb
  have h_dd_29 := h_dd_28.below hb
  have h_d_29 := h_d_28.later hb
  have h_xn_29 := h_xn_28.below hb
  have h_xd_29 := h_xd_28.below hb
  have h_x_29 := h_x_28.later hb
  have h_fn_29 := h_fn_28.below hb
  have h_fd_29 := h_fd_28.below hb
  clear hb B28 h_an_28 h_ad_28 h_a_28 h_bn_28 h_bd_28 h_b_28 h_cn_28 h_cd_28 h_c_28 h_dn_28 h_dd_28 h_d_28 h_xn_28 h_xd_28 h_x_28 h_fn_28 h_fd_28
  have h_f_29 := Has.new w28 #[.bool (zeroV).neg, .slice a_f n_f c_f, .slice b_f m_f d_f] 24
  go_wp2_with first | refine wpList_store_new rfl 24 _ _ rfl atRat _ _ _ rfl rfl rfl rfl (rat_one _ _ _ _ _ _ _) ?_
  generalize (w28.alloc (.cells #[.bool (zeroV).neg, .slice a_f n_f c_f, .slice b_f m_f d_f] 24)) = w29 at *
  have c := ratNeg_any w29 (g := false) (Rd.nil .u32 w29) (Rd.nil .u32 w29)
  rw [rx_neg] at c
  refine c.mono ?_
  rintro e w30 ⟨a_g, n_g, c_g, b_g, m_g, d_g, rfl, h_gn_30, h_gd_30, hb⟩
  clear c
  have B30 := B29.trans (hb.mono B29.size)
  have h_an_30 := h_an_29.below hb
  have h_ad_30 := h_ad_29.below hb
  have h_a_30 := h_a_29.later hb
  have h_bn_30 := h_bn_29.below hb
  have h_bd_30 := h_bd_29.below hb
  have h_b_30 := h_b_29.later hb
  have h_cn_30 := h_cn_29.below hb
  have h_cd_30 := h_cd_29.below hb
  have h_c_30 := h_c_29.later hb
  have h_dn_30 := h_dn_29.below hb
  have h_dd_30 := h_dd_29.below hb
  have h_d_30 := h_d_29.later hb
  have h_xn_30 := h_xn_29.below hb
  have h_xd_30 := h_xd_29.below hb
  have h_x_30 := h_x_29.later hb
  have h_fn_30 := h_fn_29.below hb
  have h_fd_30 := h_fd_29.below hb
  have h_f_30 := h_f_29.later hb
  clear hb B29 h_an_29 h_ad_29 h_a_29 h_bn_29 h_bd_29 h_b_29 h_cn_29 h_cd_29 h_c_29 h_dn_29 h_dd_29 h_d_29 h_xn_29 h_xd_29 h_x_29 h_fn_29 h_fd_29 h_f_29
  have hb := below_al w30 (.cells #[.bool (zeroV).neg, .slice a_g n_g c_g, .slice b_g m_g d_g] 24)
  have B31 := B30.trans (hb.mono B30.size)
  have h_an_31 := h_an_30.below hb
  have h_ad_31 := h_ad_30.below hb
  have h_a_31 := h_a_30.later hb
  have h_bn_31 := h_bn_30.below hb
  have h_bd_31 := h_bd_30.below hb
  have h_b_31 := h_b_30.later hb
  have h_cn_31 := h_cn_30.below hb
  have h_cd_31 := h_cd_30.below hb
  have h_c_31 := h_c_30.later hb
  have h_dn_31 := h_dn_30.below hb
  have h_dd_31 := h_dd_30.below hb
  have h_d_31 := h_d_30.later hb
  have h_xn_31 := h_xn_30.below hb
  have h_xd_31 := h_xd_30.below hb
  have h_x_31 := h_x_30.later hb
  have h_fn_31 := h_fn_30.below hb
  have h_fd_31 := h_fd_30.below hb
  have h_f_31 := h_f_30.later hb
  have h_gn_31 := h_gn_30.below hb
  have h_gd_31 := h_gd_30.below hb
  clear hb B30 h_an_30 h_ad_30 h_a_30 h_bn_30 h_bd_30 h_b_30 h_cn_30 h_cd_30 h_c_30 h_dn_30 h_dd_30 h_d_30 h_xn_30 h_xd_30 h_x_30 h_fn_30 h_fd_30 h_f_30 h_gn_30 h_gd_30
  have h_g_31 := Has.new w30 #[.bool (zeroV).neg, .slice a_g n_g c_g, .slice b_g m_g d_g] 24
  have hb := below_al (w30.alloc (.cells #[.bool (zeroV).neg, .slice a_g n_g c_g, .slice b_g m_g d_g] 24)) (.cells #[.string ⟨#[50, 47, 52]⟩, .string ⟨#[51, 47, 49]⟩, .string ⟨#[45, 48]⟩, .string ⟨#[49, 47, 48]⟩, .string ⟨#[]⟩, .string ⟨#[47]⟩, .string ⟨#[49, 47, 45, 50]⟩] 9)
  have B32 := B31.trans (hb.mono B31.size)
  have h_an_32 := h_an_31.below hb
  have h_ad_32 := h_ad_31.below hb
  have h_a_32 := h_a_31.later hb
  have h_bn_32 := h_bn_31.below hb
  have h_bd_32 := h_bd_31.below hb
  have h_b_32 := h_b_31.later hb
  have h_cn_32 := h_cn_31.below hb
  have h_cd_32 := h_cd_31.below hb
  have h_c_32 := h_c_31.later hb
  have h_dn_32 := h_dn_31.below hb
  have h_dd_32 := h_dd_31.below hb
  have h_d_32 := h_d_31.later hb
  have h_xn_32 := h_xn_31.below hb
  have h_xd_32 := h_xd_31.below hb
  have h_x_32 := h_x_31.later hb
  have h_fn_32 := h_fn_31.below hb
  have h_fd_32 := h_fd_31.below hb
  have h_f_32 := h_f_31.later hb
  have h_gn_32 := h_gn_31.below hb
  have h_gd_32 := h_gd_31.below hb
  have h_g_32 := h_g_31.later hb
  clear hb B31 h_an_31 h_ad_31 h_a_31 h_bn_31 h_bd_31 h_b_31 h_cn_31 h_cd_31 h_c_31 h_dn_31 h_dd_31 h_d_31 h_xn_31 h_xd_31 h_x_31 h_fn_31 h_fd_31 h_f_31 h_gn_31 h_gd_31 h_g_31
  have h_l_32 := Has.new (w30.alloc (.cells #[.bool (zeroV).neg, .slice a_g n_g c_g, .slice b_g m_g d_g] 24)) #[.string ⟨#[50, 47, 52]⟩, .string ⟨#[51, 47, 49]⟩, .string ⟨#[45, 48]⟩, .string ⟨#[49, 47, 48]⟩, .string ⟨#[]⟩, .string ⟨#[47]⟩, .string ⟨#[49, 47, 45, 50]⟩] 9
  simp only [World.size_alloc] at h_l_32
  go_wp2_with first | refine wpList_store_new rfl 24 _ _ rfl atRat _ _ _ rfl rfl rfl rfl (rat_one _ _ _ _ _ _ _) ?_
  generalize ((w30.alloc (.cells #[.bool (zeroV).neg, .slice a_g n_g c_g, .slice b_g m_g d_g] 24)).alloc (.cells #[.string ⟨#[50, 47, 52]⟩, .string ⟨#[51, 47, 49]⟩, .string ⟨#[45, 48]⟩, .string ⟨#[49, 47, 48]⟩, .string ⟨#[]⟩, .string ⟨#[47]⟩, .string ⟨#[49, 47, 45, 50]⟩] 9)) = w32 at *
  have HL := Lib.hid (fun w' (hb : Below w32.heap.size w32 w') => h_l_32.later hb)
  go_loopw [88] (fun i wr => ∃ k : Nat, k ≤ 7 ∧ i = .int .i64 (k : Nat) ∧ Below w32.heap.size w32 wr) (fun i _ => 7 - (intOf i).toNat)
  case atStart => exact ⟨0, by decide, rfl, Below.refl _ _⟩
  case round =>
    obtain ⟨k, hk, rfl, BR⟩ := hrel
    by_cases hlt : k < 7
    case neg =>
      obtain rfl : k = 7 := by omega
      clear hk hlt HL
      have hb := BR
      clear BR
      have B33 := B32.trans (hb.mono B32.size)
      have h_an_33 := h_an_32.below hb
      have h_ad_33 := h_ad_32.below hb
      have h_a_33 := h_a_32.later hb
      have h_bn_33 := h_bn_32.below hb
      have h_bd_33 := h_bd_32.below hb
      have h_b_33 := h_b_32.later hb
      have h_cn_33 := h_cn_32.below hb
      have h_cd_33 := h_cd_32.below hb
      have h_c_33 := h_c_32.later hb
      have h_dn_33 := h_dn_32.below hb
      have h_dd_33 := h_dd_32.below hb
      have h_d_33 := h_d_32.later hb
      have h_xn_33 := h_xn_32.below hb
      have h_xd_33 := h_xd_32.below hb
      have h_x_33 := h_x_32.later hb
      have h_fn_33 := h_fn_32.below hb
      have h_fd_33 := h_fd_32.below hb
      have h_f_33 := h_f_32.later hb
      have h_gn_33 := h_gn_32.below hb
      have h_gd_33 := h_gd_32.below hb
      have h_g_33 := h_g_32.later hb
      have h_l_33 := h_l_32.later hb
      clear hb B32 h_an_32 h_ad_32 h_a_32 h_bn_32 h_bd_32 h_b_32 h_cn_32 h_cd_32 h_c_32 h_dn_32 h_dd_32 h_d_32 h_xn_32 h_xd_32 h_x_32 h_fn_32 h_fd_32 h_f_32 h_gn_32 h_gd_32 h_g_32 h_l_32
      go_wp2_with fail
      have hb := (Below.refl wr.heap.size wr).drew
      have B34 := B33.trans (hb.mono B33.size)
      have h_an_34 := h_an_33.below hb
      have h_ad_34 := h_ad_33.below hb
      have h_a_34 := h_a_33.later hb
      have h_bn_34 := h_bn_33.below hb
      have h_bd_34 := h_bd_33.below hb
      have h_b_34 := h_b_33.later hb
      have h_cn_34 := h_cn_33.below hb
      have h_cd_34 := h_cd_33.below hb
      have h_c_34 := h_c_33.later hb
      have h_dn_34 := h_dn_33.below hb
      have h_dd_34 := h_dd_33.below hb
      have h_d_34 := h_d_33.later hb
      have h_xn_34 := h_xn_33.below hb
      have h_xd_34 := h_xd_33.below hb
      have h_x_34 := h_x_33.later hb
      have h_fn_34 := h_fn_33.below hb
      have h_fd_34 := h_fd_33.below hb
      have h_f_34 := h_f_33.later hb
      have h_gn_34 := h_gn_33.below hb
      have h_gd_34 := h_gd_33.below hb
      have h_g_34 := h_g_33.later hb
      have h_l_34 := h_l_33.later hb
      clear hb B33 h_an_33 h_ad_33 h_a_33 h_bn_33 h_bd_33 h_b_33 h_cn_33 h_cd_33 h_c_33 h_dn_33 h_dd_33 h_d_33 h_xn_33 h_xd_33 h_x_33 h_fn_33 h_fd_33 h_f_33 h_gn_33 h_gd_33 h_g_33 h_l_33
      refine wp_region_held_drew (S := (fun w' => w'.cell? ⟨w3.heap.size, 0, none⟩ = some (.bool ((ofC 5 6).1).neg) ∧ w'.cell? ⟨w3.heap.size, 1, none⟩ = some (.slice a_a n_a c_a) ∧ w'.cell? ⟨w3.heap.size, 2, none⟩ = some (.slice b_a m_a d_a) ∧ w'.cell? ⟨w7.heap.size, 0, none⟩ = some (.bool ((ofC 0 1).1).neg) ∧ w'.cell? ⟨w7.heap.size, 1, none⟩ = some (.slice a_b n_b c_b) ∧ w'.cell? ⟨w7.heap.size, 2, none⟩ = some (.slice b_b m_b d_b) ∧ w'.cell? ⟨w11.heap.size, 0, none⟩ = some (.bool ((ofC 1 2).1).neg) ∧ w'.cell? ⟨w11.heap.size, 1, none⟩ = some (.slice a_c n_c c_c) ∧ w'.cell? ⟨w11.heap.size, 2, none⟩ = some (.slice b_c m_c d_c) ∧ True)) (by kernel_rfl) ?_ (fun hHeld => ?_)
      · exact ⟨h_a_34.cell 0 _ rfl, h_a_34.cell 1 _ rfl, h_a_34.cell 2 _ rfl, h_b_34.cell 0 _ rfl, h_b_34.cell 1 _ rfl, h_b_34.cell 2 _ rfl, h_c_34.cell 0 _ rfl, h_c_34.cell 1 _ rfl, h_c_34.cell 2 _ rfl, trivial⟩
      generalize wr.drew = w34 at *
      as_aux_lemma =>
        refine wpAnyH_take (i := 0) (oi := ?oir2_0) (v := ?vr2_0) ?hir2_0 (by kernel_rfl) (by kernel_rfl) (by kernel_rfl) ?hqr2_0 ?hyr2_0 (by assumption) ?restr2_0
        case hir2_0 => simp only [List.getElem?_toArray, List.getElem?_cons_succ, List.getElem?_cons_zero]; rfl
        case hqr2_0 => exact fun _ _ _ h => h
        case hyr2_0 => (refine Or.inl ⟨by rfl, ?_⟩; intro w hSw; (try dsimp only at hSw); go_simp; all_goals with_reducible rfl)
        try simp only [Act.put, List.setIfInBounds_toArray, List.set_cons_zero, List.set_cons_succ]
        refine wpAnyH_take (i := 1) (oi := ?oir2_1) (v := ?vr2_1) ?hir2_1 (by kernel_rfl) (by kernel_rfl) (by kernel_rfl) ?hqr2_1 ?hyr2_1 (by assumption) ?restr2_1
        case hir2_1 => simp only [List.getElem?_toArray, List.getElem?_cons_succ, List.getElem?_cons_zero]; rfl
        case hqr2_1 => exact fun _ _ _ h => h
        case hyr2_1 => (refine Or.inl ⟨by rfl, ?_⟩; intro w hSw; (try dsimp only at hSw); go_simp; all_goals with_reducible rfl)
        try simp only [Act.put, List.setIfInBounds_toArray, List.set_cons_zero, List.set_cons_succ]
        refine wpAnyH_take (i := 2) (oi := ?oir2_2) (v := ?vr2_2) ?hir2_2 (by kernel_rfl) (by kernel_rfl) (by kernel_rfl) ?hqr2_2 ?hyr2_2 (by assumption) ?restr2_2
        case hir2_2 => simp only [List.getElem?_toArray, List.getElem?_cons_succ, List.getElem?_cons_zero]; rfl
        case hqr2_2 => exact fun _ _ _ h => h
        case hyr2_2 => (refine Or.inl ⟨by rfl, ?_⟩; intro w hSw; (try dsimp only at hSw); go_simp; all_goals with_reducible rfl)
        try simp only [Act.put, List.setIfInBounds_toArray, List.set_cons_zero, List.set_cons_succ]
        refine wpAnyH_take (i := 3) (oi := ?oir2_3) (v := ?vr2_3) ?hir2_3 (by kernel_rfl) (by kernel_rfl) (by kernel_rfl) ?hqr2_3 ?hyr2_3 (by assumption) ?restr2_3
        case hir2_3 => simp only [List.getElem?_toArray, List.getElem?_cons_succ, List.getElem?_cons_zero]; rfl
        case hqr2_3 => exact fun _ _ _ h => h
        case hyr2_3 => (refine Or.inl ⟨by rfl, ?_⟩; intro w hSw; (try dsimp only at hSw); go_simp; all_goals with_reducible rfl)
        try simp only [Act.put, List.setIfInBounds_toArray, List.set_cons_zero, List.set_cons_succ]
        refine wpAnyH_ready (rs := [4]) (by kernel_rfl) (by simp) ?_
        refine AllReadyH.cons (o := ?or3_4) ?hor3_4 (fun K hK => ?kr3_4) AllReadyH.nil
        case hor3_4 => simp only [List.getElem?_toArray, List.getElem?_cons_succ, List.getElem?_cons_zero]; rfl
        go_simp
        have c := rof_any w34 5 6 (by decide) (by decide) (by decide) (by decide)
        refine c.mono ?_
        rintro e w35 ⟨a_q, n_q, c_q, b_q, m_q, d_q, rfl, h_qn_35, h_qd_35, hb⟩
        clear c
        have B35 := B34.trans (hb.mono B34.size)
        have h_an_35 := h_an_34.below hb
        have h_ad_35 := h_ad_34.below hb
        have h_a_35 := h_a_34.later hb
        have h_bn_35 := h_bn_34.below hb
        have h_bd_35 := h_bd_34.below hb
        have h_b_35 := h_b_34.later hb
        have h_cn_35 := h_cn_34.below hb
        have h_cd_35 := h_cd_34.below hb
        have h_c_35 := h_c_34.later hb
        have h_dn_35 := h_dn_34.below hb
        have h_dd_35 := h_dd_34.below hb
        have h_d_35 := h_d_34.later hb
        have h_xn_35 := h_xn_34.below hb
        have h_xd_35 := h_xd_34.below hb
        have h_x_35 := h_x_34.later hb
        have h_fn_35 := h_fn_34.below hb
        have h_fd_35 := h_fd_34.below hb
        have h_f_35 := h_f_34.later hb
        have h_gn_35 := h_gn_34.below hb
        have h_gd_35 := h_gd_34.below hb
        have h_g_35 := h_g_34.later hb
        have h_l_35 := h_l_34.later hb
        clear hb B34 h_an_34 h_ad_34 h_a_34 h_bn_34 h_bd_34 h_b_34 h_cn_34 h_cd_34 h_c_34 h_dn_34 h_dd_34 h_d_34 h_xn_34 h_xd_34 h_x_34 h_fn_34 h_fd_34 h_f_34 h_gn_34 h_gd_34 h_g_34 h_l_34
        go_wp2_with fail
        clear hHeld
        refine hK.out _ _ ?_ (fun hHeld => ?_)
        · exact ⟨h_a_35.cell 0 _ rfl, h_a_35.cell 1 _ rfl, h_a_35.cell 2 _ rfl, h_b_35.cell 0 _ rfl, h_b_35.cell 1 _ rfl, h_b_35.cell 2 _ rfl, h_c_35.cell 0 _ rfl, h_c_35.cell 1 _ rfl, h_c_35.cell 2 _ rfl, trivial⟩
        clear hK K
        try simp only [Act.put, List.setIfInBounds_toArray, List.set_cons_zero, List.set_cons_succ]
        refine wpAnyH_ready (rs := [5]) (by kernel_rfl) (by simp) ?_
        refine AllReadyH.cons (o := ?or4_5) ?hor4_5 (fun K hK => ?kr4_5) AllReadyH.nil
        case hor4_5 => simp only [List.getElem?_toArray, List.getElem?_cons_succ, List.getElem?_cons_zero]; rfl
        go_simp
        have c := ratSame_any w35 (g1 := (ofC 5 6).1.neg) (g2 := (ofC 5 6).1.neg) h_an_35 h_ad_35 h_qn_35 h_qd_35
        rw [show (⟨(ofC 5 6).1.neg, (ofC 5 6).1.num, (ofC 5 6).1.den⟩ : QV) = (ofC 5 6).1 from rfl] at c
        rw [sameV_self] at c
        refine c.mono ?_
        rintro e w36 ⟨rfl, hb⟩
        clear c
        have B36 := B35.trans (hb.mono B35.size)
        have h_an_36 := h_an_35.below hb
        have h_ad_36 := h_ad_35.below hb
        have h_a_36 := h_a_35.later hb
        have h_bn_36 := h_bn_35.below hb
        have h_bd_36 := h_bd_35.below hb
        have h_b_36 := h_b_35.later hb
        have h_cn_36 := h_cn_35.below hb
        have h_cd_36 := h_cd_35.below hb
        have h_c_36 := h_c_35.later hb
        have h_dn_36 := h_dn_35.below hb
        have h_dd_36 := h_dd_35.below hb
        have h_d_36 := h_d_35.later hb
        have h_xn_36 := h_xn_35.below hb
        have h_xd_36 := h_xd_35.below hb
        have h_x_36 := h_x_35.later hb
        have h_fn_36 := h_fn_35.below hb
        have h_fd_36 := h_fd_35.below hb
        have h_f_36 := h_f_35.later hb
        have h_gn_36 := h_gn_35.below hb
        have h_gd_36 := h_gd_35.below hb
        have h_g_36 := h_g_35.later hb
        have h_l_36 := h_l_35.later hb
        clear hb B35 h_an_35 h_ad_35 h_a_35 h_bn_35 h_bd_35 h_b_35 h_cn_35 h_cd_35 h_c_35 h_dn_35 h_dd_35 h_d_35 h_xn_35 h_xd_35 h_x_35 h_fn_35 h_fd_35 h_f_35 h_gn_35 h_gd_35 h_g_35 h_l_35 h_qn_35 h_qd_35
        go_wp2_with fail
        clear hHeld
        refine hK.out _ _ ?_ (fun hHeld => ?_)
        · exact ⟨h_a_36.cell 0 _ rfl, h_a_36.cell 1 _ rfl, h_a_36.cell 2 _ rfl, h_b_36.cell 0 _ rfl, h_b_36.cell 1 _ rfl, h_b_36.cell 2 _ rfl, h_c_36.cell 0 _ rfl, h_c_36.cell 1 _ rfl, h_c_36.cell 2 _ rfl, trivial⟩
        clear hK K
        try simp only [Act.put, List.setIfInBounds_toArray, List.set_cons_zero, List.set_cons_succ]
        as_aux_lemma =>
          refine wpAnyH_take (i := 6) (oi := ?oir6_6) (v := ?vr6_6) ?hir6_6 (by kernel_rfl) (by kernel_rfl) (by kernel_rfl) ?hqr6_6 ?hyr6_6 (by assumption) ?restr6_6
          case hir6_6 => simp only [List.getElem?_toArray, List.getElem?_cons_succ, List.getElem?_cons_zero]; rfl
          case hqr6_6 => exact fun _ _ _ h => h
          case hyr6_6 => (refine Or.inl ⟨by rfl, ?_⟩; intro w hSw; (try dsimp only at hSw); go_simp; all_goals with_reducible rfl)
          try simp only [Act.put, List.setIfInBounds_toArray, List.set_cons_zero, List.set_cons_succ]
          refine wpAnyH_take (i := 7) (oi := ?oir6_7) (v := ?vr6_7) ?hir6_7 (by kernel_rfl) (by kernel_rfl) (by kernel_rfl) ?hqr6_7 ?hyr6_7 (by assumption) ?restr6_7
          case hir6_7 => simp only [List.getElem?_toArray, List.getElem?_cons_succ, List.getElem?_cons_zero]; rfl
          case hqr6_7 => exact fun _ _ _ h => h
          case hyr6_7 => (refine Or.inl ⟨by rfl, ?_⟩; intro w hSw; (try dsimp only at hSw); go_simp; all_goals with_reducible rfl)
          try simp only [Act.put, List.setIfInBounds_toArray, List.set_cons_zero, List.set_cons_succ]
          refine wpAnyH_take (i := 8) (oi := ?oir6_8) (v := ?vr6_8) ?hir6_8 (by kernel_rfl) (by kernel_rfl) (by kernel_rfl) ?hqr6_8 ?hyr6_8 (by assumption) ?restr6_8
          case hir6_8 => simp only [List.getElem?_toArray, List.getElem?_cons_succ, List.getElem?_cons_zero]; rfl
          case hqr6_8 => exact fun _ _ _ h => h
          case hyr6_8 => (refine Or.inl ⟨by rfl, ?_⟩; intro w hSw; (try dsimp only at hSw); go_simp; all_goals with_reducible rfl)
          try simp only [Act.put, List.setIfInBounds_toArray, List.set_cons_zero, List.set_cons_succ]
          refine wpAnyH_take (i := 9) (oi := ?oir6_9) (v := ?vr6_9) ?hir6_9 (by kernel_rfl) (by kernel_rfl) (by kernel_rfl) ?hqr6_9 ?hyr6_9 (by assumption) ?restr6_9
          case hir6_9 => simp only [List.getElem?_toArray, List.getElem?_cons_succ, List.getElem?_cons_zero]; rfl
          case hqr6_9 => exact fun _ _ _ h => h
          case hyr6_9 => (refine Or.inl ⟨by rfl, ?_⟩; intro w hSw; (try dsimp only at hSw); go_simp; all_goals with_reducible rfl)
          try simp only [Act.put, List.setIfInBounds_toArray, List.set_cons_zero, List.set_cons_succ]
          refine wpAnyH_take (i := 10) (oi := ?oir6_10) (v := ?vr6_10) ?hir6_10 (by kernel_rfl) (by kernel_rfl) (by kernel_rfl) ?hqr6_10 ?hyr6_10 (by assumption) ?restr6_10
          case hir6_10 => simp only [List.getElem?_toArray, List.getElem?_cons_succ, List.getElem?_cons_zero]; rfl
          case hqr6_10 => exact fun _ _ _ h => h
          case hyr6_10 => (refine Or.inl ⟨by rfl, ?_⟩; intro w hSw; (try dsimp only at hSw); go_simp; all_goals with_reducible rfl)
          try simp only [Act.put, List.setIfInBounds_toArray, List.set_cons_zero, List.set_cons_succ]
          refine wpAnyH_take (i := 11) (oi := ?oir6_11) (v := ?vr6_11) ?hir6_11 (by kernel_rfl) (by kernel_rfl) (by kernel_rfl) ?hqr6_11 ?hyr6_11 (by assumption) ?restr6_11
          case hir6_11 => simp only [List.getElem?_toArray, List.getElem?_cons_succ, List.getElem?_cons_zero]; rfl
          case hqr6_11 => exact fun _ _ _ h => h
          case hyr6_11 => (refine Or.inl ⟨by rfl, ?_⟩; intro w hSw; (try dsimp only at hSw); go_simp; all_goals with_reducible rfl)
          try simp only [Act.put, List.setIfInBounds_toArray, List.set_cons_zero, List.set_cons_succ]
          refine wpAnyH_take (i := 12) (oi := ?oir6_12) (v := ?vr6_12) ?hir6_12 (by kernel_rfl) (by kernel_rfl) (by kernel_rfl) ?hqr6_12 ?hyr6_12 (by assumption) ?restr6_12
          case hir6_12 => simp only [List.getElem?_toArray, List.getElem?_cons_succ, List.getElem?_cons_zero]; rfl
          case hqr6_12 => exact fun _ _ _ h => h
          case hyr6_12 => (refine Or.inl ⟨by rfl, ?_⟩; intro w hSw; (try dsimp only at hSw); go_simp; all_goals with_reducible rfl)
          try simp only [Act.put, List.setIfInBounds_toArray, List.set_cons_zero, List.set_cons_succ]
          refine wpAnyH_ready (rs := [13]) (by kernel_rfl) (by simp) ?_
          refine AllReadyH.cons (o := ?or7_13) ?hor7_13 (fun K hK => ?kr7_13) AllReadyH.nil
          case hor7_13 => simp only [List.getElem?_toArray, List.getElem?_cons_succ, List.getElem?_cons_zero]; rfl
          go_simp
          have c := whole_any w36 0 (by decide) (by decide)
          refine c.mono ?_
          rintro e w37 ⟨a_q, n_q, c_q, b_q, m_q, d_q, rfl, h_qn_37, h_qd_37, hb⟩
          clear c
          have B37 := B36.trans (hb.mono B36.size)
          have h_an_37 := h_an_36.below hb
          have h_ad_37 := h_ad_36.below hb
          have h_a_37 := h_a_36.later hb
          have h_bn_37 := h_bn_36.below hb
          have h_bd_37 := h_bd_36.below hb
          have h_b_37 := h_b_36.later hb
          have h_cn_37 := h_cn_36.below hb
          have h_cd_37 := h_cd_36.below hb
          have h_c_37 := h_c_36.later hb
          have h_dn_37 := h_dn_36.below hb
          have h_dd_37 := h_dd_36.below hb
          have h_d_37 := h_d_36.later hb
          have h_xn_37 := h_xn_36.below hb
          have h_xd_37 := h_xd_36.below hb
          have h_x_37 := h_x_36.later hb
          have h_fn_37 := h_fn_36.below hb
          have h_fd_37 := h_fd_36.below hb
          have h_f_37 := h_f_36.later hb
          have h_gn_37 := h_gn_36.below hb
          have h_gd_37 := h_gd_36.below hb
          have h_g_37 := h_g_36.later hb
          have h_l_37 := h_l_36.later hb
          clear hb B36 h_an_36 h_ad_36 h_a_36 h_bn_36 h_bd_36 h_b_36 h_cn_36 h_cd_36 h_c_36 h_dn_36 h_dd_36 h_d_36 h_xn_36 h_xd_36 h_x_36 h_fn_36 h_fd_36 h_f_36 h_gn_36 h_gd_36 h_g_36 h_l_36
          go_wp2_with fail
          clear hHeld
          refine hK.out _ _ ?_ (fun hHeld => ?_)
          · exact ⟨h_a_37.cell 0 _ rfl, h_a_37.cell 1 _ rfl, h_a_37.cell 2 _ rfl, h_b_37.cell 0 _ rfl, h_b_37.cell 1 _ rfl, h_b_37.cell 2 _ rfl, h_c_37.cell 0 _ rfl, h_c_37.cell 1 _ rfl, h_c_37.cell 2 _ rfl, trivial⟩
          clear hK K
          try simp only [Act.put, List.setIfInBounds_toArray, List.set_cons_zero, List.set_cons_succ]
          refine wpAnyH_ready (rs := [14]) (by kernel_rfl) (by simp) ?_
          refine AllReadyH.cons (o := ?or8_14) ?hor8_14 (fun K hK => ?kr8_14) AllReadyH.nil
          case hor8_14 => simp only [List.getElem?_toArray, List.getElem?_cons_succ, List.getElem?_cons_zero]; rfl
          go_simp
          have c := ratSame_any w37 (g1 := (ofC 0 1).1.neg) (g2 := (ofC 0 1).1.neg) h_bn_37 h_bd_37 h_qn_37 h_qd_37
          rw [show (⟨(ofC 0 1).1.neg, (ofC 0 1).1.num, (ofC 0 1).1.den⟩ : QV) = (ofC 0 1).1 from rfl] at c
          rw [sameV_self] at c
          refine c.mono ?_
          rintro e w38 ⟨rfl, hb⟩
          clear c
          have B38 := B37.trans (hb.mono B37.size)
          have h_an_38 := h_an_37.below hb
          have h_ad_38 := h_ad_37.below hb
          have h_a_38 := h_a_37.later hb
          have h_bn_38 := h_bn_37.below hb
          have h_bd_38 := h_bd_37.below hb
          have h_b_38 := h_b_37.later hb
          have h_cn_38 := h_cn_37.below hb
          have h_cd_38 := h_cd_37.below hb
          have h_c_38 := h_c_37.later hb
          have h_dn_38 := h_dn_37.below hb
          have h_dd_38 := h_dd_37.below hb
          have h_d_38 := h_d_37.later hb
          have h_xn_38 := h_xn_37.below hb
          have h_xd_38 := h_xd_37.below hb
          have h_x_38 := h_x_37.later hb
          have h_fn_38 := h_fn_37.below hb
          have h_fd_38 := h_fd_37.below hb
          have h_f_38 := h_f_37.later hb
          have h_gn_38 := h_gn_37.below hb
          have h_gd_38 := h_gd_37.below hb
          have h_g_38 := h_g_37.later hb
          have h_l_38 := h_l_37.later hb
          clear hb B37 h_an_37 h_ad_37 h_a_37 h_bn_37 h_bd_37 h_b_37 h_cn_37 h_cd_37 h_c_37 h_dn_37 h_dd_37 h_d_37 h_xn_37 h_xd_37 h_x_37 h_fn_37 h_fd_37 h_f_37 h_gn_37 h_gd_37 h_g_37 h_l_37 h_qn_37 h_qd_37
          go_wp2_with fail
          clear hHeld
          refine hK.out _ _ ?_ (fun hHeld => ?_)
          · exact ⟨h_a_38.cell 0 _ rfl, h_a_38.cell 1 _ rfl, h_a_38.cell 2 _ rfl, h_b_38.cell 0 _ rfl, h_b_38.cell 1 _ rfl, h_b_38.cell 2 _ rfl, h_c_38.cell 0 _ rfl, h_c_38.cell 1 _ rfl, h_c_38.cell 2 _ rfl, trivial⟩
          clear hK K
          try simp only [Act.put, List.setIfInBounds_toArray, List.set_cons_zero, List.set_cons_succ]
          as_aux_lemma =>
            refine wpAnyH_take (i := 15) (oi := ?oir10_15) (v := ?vr10_15) ?hir10_15 (by kernel_rfl) (by kernel_rfl) (by kernel_rfl) ?hqr10_15 ?hyr10_15 (by assumption) ?restr10_15
            case hir10_15 => simp only [List.getElem?_toArray, List.getElem?_cons_succ, List.getElem?_cons_zero]; rfl
            case hqr10_15 => exact fun _ _ _ h => h
            case hyr10_15 => (refine Or.inl ⟨by rfl, ?_⟩; intro w hSw; (try dsimp only at hSw); go_simp; all_goals with_reducible rfl)
            try simp only [Act.put, List.setIfInBounds_toArray, List.set_cons_zero, List.set_cons_succ]
            refine wpAnyH_take (i := 16) (oi := ?oir10_16) (v := ?vr10_16) ?hir10_16 (by kernel_rfl) (by kernel_rfl) (by kernel_rfl) ?hqr10_16 ?hyr10_16 (by assumption) ?restr10_16
            case hir10_16 => simp only [List.getElem?_toArray, List.getElem?_cons_succ, List.getElem?_cons_zero]; rfl
            case hqr10_16 => exact fun _ _ _ h => h
            case hyr10_16 => (refine Or.inl ⟨by rfl, ?_⟩; intro w hSw; (try dsimp only at hSw); go_simp; all_goals with_reducible rfl)
            try simp only [Act.put, List.setIfInBounds_toArray, List.set_cons_zero, List.set_cons_succ]
            refine wpAnyH_take (i := 17) (oi := ?oir10_17) (v := ?vr10_17) ?hir10_17 (by kernel_rfl) (by kernel_rfl) (by kernel_rfl) ?hqr10_17 ?hyr10_17 (by assumption) ?restr10_17
            case hir10_17 => simp only [List.getElem?_toArray, List.getElem?_cons_succ, List.getElem?_cons_zero]; rfl
            case hqr10_17 => exact fun _ _ _ h => h
            case hyr10_17 => (refine Or.inl ⟨by rfl, ?_⟩; intro w hSw; (try dsimp only at hSw); go_simp; all_goals with_reducible rfl)
            try simp only [Act.put, List.setIfInBounds_toArray, List.set_cons_zero, List.set_cons_succ]
            refine wpAnyH_take (i := 18) (oi := ?oir10_18) (v := ?vr10_18) ?hir10_18 (by kernel_rfl) (by kernel_rfl) (by kernel_rfl) ?hqr10_18 ?hyr10_18 (by assumption) ?restr10_18
            case hir10_18 => simp only [List.getElem?_toArray, List.getElem?_cons_succ, List.getElem?_cons_zero]; rfl
            case hqr10_18 => exact fun _ _ _ h => h
            case hyr10_18 => (refine Or.inl ⟨by rfl, ?_⟩; intro w hSw; (try dsimp only at hSw); go_simp; all_goals with_reducible rfl)
            try simp only [Act.put, List.setIfInBounds_toArray, List.set_cons_zero, List.set_cons_succ]
            refine wpAnyH_take (i := 19) (oi := ?oir10_19) (v := ?vr10_19) ?hir10_19 (by kernel_rfl) (by kernel_rfl) (by kernel_rfl) ?hqr10_19 ?hyr10_19 (by assumption) ?restr10_19
            case hir10_19 => simp only [List.getElem?_toArray, List.getElem?_cons_succ, List.getElem?_cons_zero]; rfl
            case hqr10_19 => exact fun _ _ _ h => h
            case hyr10_19 => (refine Or.inl ⟨by rfl, ?_⟩; intro w hSw; (try dsimp only at hSw); go_simp; all_goals with_reducible rfl)
            try simp only [Act.put, List.setIfInBounds_toArray, List.set_cons_zero, List.set_cons_succ]
            refine wpAnyH_take (i := 20) (oi := ?oir10_20) (v := ?vr10_20) ?hir10_20 (by kernel_rfl) (by kernel_rfl) (by kernel_rfl) ?hqr10_20 ?hyr10_20 (by assumption) ?restr10_20
            case hir10_20 => simp only [List.getElem?_toArray, List.getElem?_cons_succ, List.getElem?_cons_zero]; rfl
            case hqr10_20 => exact fun _ _ _ h => h
            case hyr10_20 => (refine Or.inl ⟨by rfl, ?_⟩; intro w hSw; (try dsimp only at hSw); go_simp; all_goals with_reducible rfl)
            try simp only [Act.put, List.setIfInBounds_toArray, List.set_cons_zero, List.set_cons_succ]
            refine wpAnyH_take (i := 21) (oi := ?oir10_21) (v := ?vr10_21) ?hir10_21 (by kernel_rfl) (by kernel_rfl) (by kernel_rfl) ?hqr10_21 ?hyr10_21 (by assumption) ?restr10_21
            case hir10_21 => simp only [List.getElem?_toArray, List.getElem?_cons_succ, List.getElem?_cons_zero]; rfl
            case hqr10_21 => exact fun _ _ _ h => h
            case hyr10_21 => (refine Or.inl ⟨by rfl, ?_⟩; intro w hSw; (try dsimp only at hSw); go_simp; all_goals with_reducible rfl)
            try simp only [Act.put, List.setIfInBounds_toArray, List.set_cons_zero, List.set_cons_succ]
            refine wpAnyH_ready (rs := [22]) (by kernel_rfl) (by simp) ?_
            refine AllReadyH.cons (o := ?or11_22) ?hor11_22 (fun K hK => ?kr11_22) AllReadyH.nil
            case hor11_22 => simp only [List.getElem?_toArray, List.getElem?_cons_succ, List.getElem?_cons_zero]; rfl
            go_simp
            have c := rof_any w38 1 2 (by decide) (by decide) (by decide) (by decide)
            refine c.mono ?_
            rintro e w39 ⟨a_q, n_q, c_q, b_q, m_q, d_q, rfl, h_qn_39, h_qd_39, hb⟩
            clear c
            have B39 := B38.trans (hb.mono B38.size)
            have h_an_39 := h_an_38.below hb
            have h_ad_39 := h_ad_38.below hb
            have h_a_39 := h_a_38.later hb
            have h_bn_39 := h_bn_38.below hb
            have h_bd_39 := h_bd_38.below hb
            have h_b_39 := h_b_38.later hb
            have h_cn_39 := h_cn_38.below hb
            have h_cd_39 := h_cd_38.below hb
            have h_c_39 := h_c_38.later hb
            have h_dn_39 := h_dn_38.below hb
            have h_dd_39 := h_dd_38.below hb
            have h_d_39 := h_d_38.later hb
            have h_xn_39 := h_xn_38.below hb
            have h_xd_39 := h_xd_38.below hb
            have h_x_39 := h_x_38.later hb
            have h_fn_39 := h_fn_38.below hb
            have h_fd_39 := h_fd_38.below hb
            have h_f_39 := h_f_38.later hb
            have h_gn_39 := h_gn_38.below hb
            have h_gd_39 := h_gd_38.below hb
            have h_g_39 := h_g_38.later hb
            have h_l_39 := h_l_38.later hb
            clear hb B38 h_an_38 h_ad_38 h_a_38 h_bn_38 h_bd_38 h_b_38 h_cn_38 h_cd_38 h_c_38 h_dn_38 h_dd_38 h_d_38 h_xn_38 h_xd_38 h_x_38 h_fn_38 h_fd_38 h_f_38 h_gn_38 h_gd_38 h_g_38 h_l_38
            go_wp2_with fail
            clear hHeld
            refine hK.out _ _ ?_ (fun hHeld => ?_)
            · exact ⟨h_a_39.cell 0 _ rfl, h_a_39.cell 1 _ rfl, h_a_39.cell 2 _ rfl, h_b_39.cell 0 _ rfl, h_b_39.cell 1 _ rfl, h_b_39.cell 2 _ rfl, h_c_39.cell 0 _ rfl, h_c_39.cell 1 _ rfl, h_c_39.cell 2 _ rfl, trivial⟩
            clear hK K
            try simp only [Act.put, List.setIfInBounds_toArray, List.set_cons_zero, List.set_cons_succ]
            refine wpAnyH_ready (rs := [23]) (by kernel_rfl) (by simp) ?_
            refine AllReadyH.cons (o := ?or12_23) ?hor12_23 (fun K hK => ?kr12_23) AllReadyH.nil
            case hor12_23 => simp only [List.getElem?_toArray, List.getElem?_cons_succ, List.getElem?_cons_zero]; rfl
            go_simp
            have c := ratSame_any w39 (g1 := (ofC 1 2).1.neg) (g2 := (ofC 1 2).1.neg) h_cn_39 h_cd_39 h_qn_39 h_qd_39
            rw [show (⟨(ofC 1 2).1.neg, (ofC 1 2).1.num, (ofC 1 2).1.den⟩ : QV) = (ofC 1 2).1 from rfl] at c
            rw [sameV_self] at c
            refine c.mono ?_
            rintro e w40 ⟨rfl, hb⟩
            clear c
            have B40 := B39.trans (hb.mono B39.size)
            have h_an_40 := h_an_39.below hb
            have h_ad_40 := h_ad_39.below hb
            have h_a_40 := h_a_39.later hb
            have h_bn_40 := h_bn_39.below hb
            have h_bd_40 := h_bd_39.below hb
            have h_b_40 := h_b_39.later hb
            have h_cn_40 := h_cn_39.below hb
            have h_cd_40 := h_cd_39.below hb
            have h_c_40 := h_c_39.later hb
            have h_dn_40 := h_dn_39.below hb
            have h_dd_40 := h_dd_39.below hb
            have h_d_40 := h_d_39.later hb
            have h_xn_40 := h_xn_39.below hb
            have h_xd_40 := h_xd_39.below hb
            have h_x_40 := h_x_39.later hb
            have h_fn_40 := h_fn_39.below hb
            have h_fd_40 := h_fd_39.below hb
            have h_f_40 := h_f_39.later hb
            have h_gn_40 := h_gn_39.below hb
            have h_gd_40 := h_gd_39.below hb
            have h_g_40 := h_g_39.later hb
            have h_l_40 := h_l_39.later hb
            clear hb B39 h_an_39 h_ad_39 h_a_39 h_bn_39 h_bd_39 h_b_39 h_cn_39 h_cd_39 h_c_39 h_dn_39 h_dd_39 h_d_39 h_xn_39 h_xd_39 h_x_39 h_fn_39 h_fd_39 h_f_39 h_gn_39 h_gd_39 h_g_39 h_l_39 h_qn_39 h_qd_39
            go_wp2_with fail
            clear hHeld
            refine hK.out _ _ ?_ (fun hHeld => ?_)
            · exact ⟨h_a_40.cell 0 _ rfl, h_a_40.cell 1 _ rfl, h_a_40.cell 2 _ rfl, h_b_40.cell 0 _ rfl, h_b_40.cell 1 _ rfl, h_b_40.cell 2 _ rfl, h_c_40.cell 0 _ rfl, h_c_40.cell 1 _ rfl, h_c_40.cell 2 _ rfl, trivial⟩
            clear hK K
            try simp only [Act.put, List.setIfInBounds_toArray, List.set_cons_zero, List.set_cons_succ]
            refine wpAnyH_take (i := 24) (oi := ?oir13_24) (v := ?vr13_24) ?hir13_24 (by kernel_rfl) (by kernel_rfl) (by kernel_rfl) ?hqr13_24 ?hyr13_24 (by assumption) ?restr13_24
            case hir13_24 => simp only [List.getElem?_toArray, List.getElem?_cons_succ, List.getElem?_cons_zero]; rfl
            case hqr13_24 => exact fun _ _ _ h => h
            case hyr13_24 => (refine Or.inl ⟨by rfl, ?_⟩; intro w hSw; (try dsimp only at hSw); go_simp; all_goals with_reducible rfl)
            try simp only [Act.put, List.setIfInBounds_toArray, List.set_cons_zero, List.set_cons_succ]
            refine wpAnyH_take (i := 25) (oi := ?oir13_25) (v := ?vr13_25) ?hir13_25 (by kernel_rfl) (by kernel_rfl) (by kernel_rfl) ?hqr13_25 ?hyr13_25 (by assumption) ?restr13_25
            case hir13_25 => simp only [List.getElem?_toArray, List.getElem?_cons_succ, List.getElem?_cons_zero]; rfl
            case hqr13_25 => exact fun _ _ _ h => h
            case hyr13_25 => (refine Or.inl ⟨by rfl, ?_⟩; intro w hSw; (try dsimp only at hSw); go_simp; all_goals with_reducible rfl)
            try simp only [Act.put, List.setIfInBounds_toArray, List.set_cons_zero, List.set_cons_succ]
            refine wpAnyH_take (i := 26) (oi := ?oir13_26) (v := ?vr13_26) ?hir13_26 (by kernel_rfl) (by kernel_rfl) (by kernel_rfl) ?hqr13_26 ?hyr13_26 (by assumption) ?restr13_26
            case hir13_26 => simp only [List.getElem?_toArray, List.getElem?_cons_succ, List.getElem?_cons_zero]; rfl
            case hqr13_26 => exact fun _ _ _ h => h
            case hyr13_26 => (refine Or.inl ⟨by rfl, ?_⟩; intro w hSw; (try dsimp only at hSw); go_simp; all_goals with_reducible rfl)
            try simp only [Act.put, List.setIfInBounds_toArray, List.set_cons_zero, List.set_cons_succ]
            refine wpAnyH_take (i := 27) (oi := ?oir13_27) (v := ?vr13_27) ?hir13_27 (by kernel_rfl) (by kernel_rfl) (by kernel_rfl) ?hqr13_27 ?hyr13_27 (by assumption) ?restr13_27
            case hir13_27 => simp only [List.getElem?_toArray, List.getElem?_cons_succ, List.getElem?_cons_zero]; rfl
            case hqr13_27 => exact fun _ _ _ h => h
            case hyr13_27 => (refine Or.inl ⟨by rfl, ?_⟩; intro w hSw; (try dsimp only at hSw); go_simp; all_goals with_reducible rfl)
            try simp only [Act.put, List.setIfInBounds_toArray, List.set_cons_zero, List.set_cons_succ]
            refine wpAnyH_take (i := 28) (oi := ?oir13_28) (v := ?vr13_28) ?hir13_28 (by kernel_rfl) (by kernel_rfl) (by kernel_rfl) ?hqr13_28 ?hyr13_28 (by assumption) ?restr13_28
            case hir13_28 => simp only [List.getElem?_toArray, List.getElem?_cons_succ, List.getElem?_cons_zero]; rfl
            case hqr13_28 => exact fun _ _ _ h => h
            case hyr13_28 => (refine Or.inl ⟨by rfl, ?_⟩; intro w hSw; (try dsimp only at hSw); go_simp; all_goals with_reducible rfl)
            try simp only [Act.put, List.setIfInBounds_toArray, List.set_cons_zero, List.set_cons_succ]
            refine wpAnyH_take (i := 29) (oi := ?oir13_29) (v := ?vr13_29) ?hir13_29 (by kernel_rfl) (by kernel_rfl) (by kernel_rfl) ?hqr13_29 ?hyr13_29 (by assumption) ?restr13_29
            case hir13_29 => simp only [List.getElem?_toArray, List.getElem?_cons_succ, List.getElem?_cons_zero]; rfl
            case hqr13_29 => exact fun _ _ _ h => h
            case hyr13_29 => (refine Or.inl ⟨by rfl, ?_⟩; intro w hSw; (try dsimp only at hSw); go_simp; all_goals with_reducible rfl)
            try simp only [Act.put, List.setIfInBounds_toArray, List.set_cons_zero, List.set_cons_succ]
            refine wpAnyH_done (by kernel_rfl) ?_ _
            clear hHeld
            go_wp2_with fail
            have hb := (Below.refl w40.heap.size w40).drew
            have B41 := B40.trans (hb.mono B40.size)
            have h_an_41 := h_an_40.below hb
            have h_ad_41 := h_ad_40.below hb
            have h_a_41 := h_a_40.later hb
            have h_bn_41 := h_bn_40.below hb
            have h_bd_41 := h_bd_40.below hb
            have h_b_41 := h_b_40.later hb
            have h_cn_41 := h_cn_40.below hb
            have h_cd_41 := h_cd_40.below hb
            have h_c_41 := h_c_40.later hb
            have h_dn_41 := h_dn_40.below hb
            have h_dd_41 := h_dd_40.below hb
            have h_d_41 := h_d_40.later hb
            have h_xn_41 := h_xn_40.below hb
            have h_xd_41 := h_xd_40.below hb
            have h_x_41 := h_x_40.later hb
            have h_fn_41 := h_fn_40.below hb
            have h_fd_41 := h_fd_40.below hb
            have h_f_41 := h_f_40.later hb
            have h_gn_41 := h_gn_40.below hb
            have h_gd_41 := h_gd_40.below hb
            have h_g_41 := h_g_40.later hb
            have h_l_41 := h_l_40.later hb
            clear hb B40 h_an_40 h_ad_40 h_a_40 h_bn_40 h_bd_40 h_b_40 h_cn_40 h_cd_40 h_c_40 h_dn_40 h_dd_40 h_d_40 h_xn_40 h_xd_40 h_x_40 h_fn_40 h_fd_40 h_f_40 h_gn_40 h_gd_40 h_g_40 h_l_40
            refine wp_region_held_drew (S := (fun w' => w'.cell? ⟨w3.heap.size, 0, none⟩ = some (.bool ((ofC 5 6).1).neg) ∧ w'.cell? ⟨w3.heap.size, 1, none⟩ = some (.slice a_a n_a c_a) ∧ w'.cell? ⟨w3.heap.size, 2, none⟩ = some (.slice b_a m_a d_a) ∧ w'.cell? ⟨w23.heap.size, 0, none⟩ = some (.bool ((ofC (-3) 2).1).neg) ∧ w'.cell? ⟨w23.heap.size, 1, none⟩ = some (.slice a_x n_x c_x) ∧ w'.cell? ⟨w23.heap.size, 2, none⟩ = some (.slice b_x m_x d_x) ∧ True)) (by kernel_rfl) ?_ (fun hHeld => ?_)
            · exact ⟨h_a_41.cell 0 _ rfl, h_a_41.cell 1 _ rfl, h_a_41.cell 2 _ rfl, h_x_41.cell 0 _ rfl, h_x_41.cell 1 _ rfl, h_x_41.cell 2 _ rfl, trivial⟩
            generalize w40.drew = w41 at *
            as_aux_lemma =>
              refine wpAnyH_take (i := 0) (oi := ?oir15_0) (v := ?vr15_0) ?hir15_0 (by kernel_rfl) (by kernel_rfl) (by kernel_rfl) ?hqr15_0 ?hyr15_0 (by assumption) ?restr15_0
              case hir15_0 => simp only [List.getElem?_toArray, List.getElem?_cons_succ, List.getElem?_cons_zero]; rfl
              case hqr15_0 => exact fun _ _ _ h => h
              case hyr15_0 => (refine Or.inl ⟨by rfl, ?_⟩; intro w hSw; (try dsimp only at hSw); go_simp; all_goals with_reducible rfl)
              try simp only [Act.put, List.setIfInBounds_toArray, List.set_cons_zero, List.set_cons_succ]
              refine wpAnyH_take (i := 1) (oi := ?oir15_1) (v := ?vr15_1) ?hir15_1 (by kernel_rfl) (by kernel_rfl) (by kernel_rfl) ?hqr15_1 ?hyr15_1 (by assumption) ?restr15_1
              case hir15_1 => simp only [List.getElem?_toArray, List.getElem?_cons_succ, List.getElem?_cons_zero]; rfl
              case hqr15_1 => exact fun _ _ _ h => h
              case hyr15_1 => (refine Or.inl ⟨by rfl, ?_⟩; intro w hSw; (try dsimp only at hSw); go_simp; all_goals with_reducible rfl)
              try simp only [Act.put, List.setIfInBounds_toArray, List.set_cons_zero, List.set_cons_succ]
              refine wpAnyH_take (i := 2) (oi := ?oir15_2) (v := ?vr15_2) ?hir15_2 (by kernel_rfl) (by kernel_rfl) (by kernel_rfl) ?hqr15_2 ?hyr15_2 (by assumption) ?restr15_2
              case hir15_2 => simp only [List.getElem?_toArray, List.getElem?_cons_succ, List.getElem?_cons_zero]; rfl
              case hqr15_2 => exact fun _ _ _ h => h
              case hyr15_2 => (refine Or.inl ⟨by rfl, ?_⟩; intro w hSw; (try dsimp only at hSw); go_simp; all_goals with_reducible rfl)
              try simp only [Act.put, List.setIfInBounds_toArray, List.set_cons_zero, List.set_cons_succ]
              refine wpAnyH_take (i := 3) (oi := ?oir15_3) (v := ?vr15_3) ?hir15_3 (by kernel_rfl) (by kernel_rfl) (by kernel_rfl) ?hqr15_3 ?hyr15_3 (by assumption) ?restr15_3
              case hir15_3 => simp only [List.getElem?_toArray, List.getElem?_cons_succ, List.getElem?_cons_zero]; rfl
              case hqr15_3 => exact fun _ _ _ h => h
              case hyr15_3 => (refine Or.inl ⟨by rfl, ?_⟩; intro w hSw; (try dsimp only at hSw); go_simp; all_goals with_reducible rfl)
              try simp only [Act.put, List.setIfInBounds_toArray, List.set_cons_zero, List.set_cons_succ]
              refine wpAnyH_take (i := 4) (oi := ?oir15_4) (v := ?vr15_4) ?hir15_4 (by kernel_rfl) (by kernel_rfl) (by kernel_rfl) ?hqr15_4 ?hyr15_4 (by assumption) ?restr15_4
              case hir15_4 => simp only [List.getElem?_toArray, List.getElem?_cons_succ, List.getElem?_cons_zero]; rfl
              case hqr15_4 => exact fun _ _ _ h => h
              case hyr15_4 => (refine Or.inl ⟨by rfl, ?_⟩; intro w hSw; (try dsimp only at hSw); go_simp; all_goals with_reducible rfl)
              try simp only [Act.put, List.setIfInBounds_toArray, List.set_cons_zero, List.set_cons_succ]
              refine wpAnyH_take (i := 5) (oi := ?oir15_5) (v := ?vr15_5) ?hir15_5 (by kernel_rfl) (by kernel_rfl) (by kernel_rfl) ?hqr15_5 ?hyr15_5 (by assumption) ?restr15_5
              case hir15_5 => simp only [List.getElem?_toArray, List.getElem?_cons_succ, List.getElem?_cons_zero]; rfl
              case hqr15_5 => exact fun _ _ _ h => h
              case hyr15_5 => (refine Or.inl ⟨by rfl, ?_⟩; intro w hSw; (try dsimp only at hSw); go_simp; all_goals with_reducible rfl)
              try simp only [Act.put, List.setIfInBounds_toArray, List.set_cons_zero, List.set_cons_succ]
              refine wpAnyH_take (i := 6) (oi := ?oir15_6) (v := ?vr15_6) ?hir15_6 (by kernel_rfl) (by kernel_rfl) (by kernel_rfl) ?hqr15_6 ?hyr15_6 (by assumption) ?restr15_6
              case hir15_6 => simp only [List.getElem?_toArray, List.getElem?_cons_succ, List.getElem?_cons_zero]; rfl
              case hqr15_6 => exact fun _ _ _ h => h
              case hyr15_6 => (refine Or.inl ⟨by rfl, ?_⟩; intro w hSw; (try dsimp only at hSw); go_simp; all_goals with_reducible rfl)
              try simp only [Act.put, List.setIfInBounds_toArray, List.set_cons_zero, List.set_cons_succ]
              refine wpAnyH_take (i := 7) (oi := ?oir15_7) (v := ?vr15_7) ?hir15_7 (by kernel_rfl) (by kernel_rfl) (by kernel_rfl) ?hqr15_7 ?hyr15_7 (by assumption) ?restr15_7
              case hir15_7 => simp only [List.getElem?_toArray, List.getElem?_cons_succ, List.getElem?_cons_zero]; rfl
              case hqr15_7 => exact fun _ _ _ h => h
              case hyr15_7 => (refine Or.inl ⟨by rfl, ?_⟩; intro w hSw; (try dsimp only at hSw); go_simp; all_goals with_reducible rfl)
              try simp only [Act.put, List.setIfInBounds_toArray, List.set_cons_zero, List.set_cons_succ]
              refine wpAnyH_take (i := 8) (oi := ?oir15_8) (v := ?vr15_8) ?hir15_8 (by kernel_rfl) (by kernel_rfl) (by kernel_rfl) ?hqr15_8 ?hyr15_8 (by assumption) ?restr15_8
              case hir15_8 => simp only [List.getElem?_toArray, List.getElem?_cons_succ, List.getElem?_cons_zero]; rfl
              case hqr15_8 => exact fun _ _ _ h => h
              case hyr15_8 => (refine Or.inl ⟨by rfl, ?_⟩; intro w hSw; (try dsimp only at hSw); go_simp; all_goals with_reducible rfl)
              try simp only [Act.put, List.setIfInBounds_toArray, List.set_cons_zero, List.set_cons_succ]
              refine wpAnyH_take (i := 9) (oi := ?oir15_9) (v := ?vr15_9) ?hir15_9 (by kernel_rfl) (by kernel_rfl) (by kernel_rfl) ?hqr15_9 ?hyr15_9 (by assumption) ?restr15_9
              case hir15_9 => simp only [List.getElem?_toArray, List.getElem?_cons_succ, List.getElem?_cons_zero]; rfl
              case hqr15_9 => exact fun _ _ _ h => h
              case hyr15_9 => (refine Or.inl ⟨by rfl, ?_⟩; intro w hSw; (try dsimp only at hSw); go_simp; all_goals with_reducible rfl)
              try simp only [Act.put, List.setIfInBounds_toArray, List.set_cons_zero, List.set_cons_succ]
              refine wpAnyH_take (i := 10) (oi := ?oir15_10) (v := ?vr15_10) ?hir15_10 (by kernel_rfl) (by kernel_rfl) (by kernel_rfl) ?hqr15_10 ?hyr15_10 (by assumption) ?restr15_10
              case hir15_10 => simp only [List.getElem?_toArray, List.getElem?_cons_succ, List.getElem?_cons_zero]; rfl
              case hqr15_10 => exact fun _ _ _ h => h
              case hyr15_10 => (refine Or.inl ⟨by rfl, ?_⟩; intro w hSw; (try dsimp only at hSw); go_simp; all_goals with_reducible rfl)
              try simp only [Act.put, List.setIfInBounds_toArray, List.set_cons_zero, List.set_cons_succ]
              refine wpAnyH_take (i := 11) (oi := ?oir15_11) (v := ?vr15_11) ?hir15_11 (by kernel_rfl) (by kernel_rfl) (by kernel_rfl) ?hqr15_11 ?hyr15_11 (by assumption) ?restr15_11
              case hir15_11 => simp only [List.getElem?_toArray, List.getElem?_cons_succ, List.getElem?_cons_zero]; rfl
              case hqr15_11 => exact fun _ _ _ h => h
              case hyr15_11 => (refine Or.inl ⟨by rfl, ?_⟩; intro w hSw; (try dsimp only at hSw); go_simp; all_goals with_reducible rfl)
              try simp only [Act.put, List.setIfInBounds_toArray, List.set_cons_zero, List.set_cons_succ]
              refine wpAnyH_take (i := 12) (oi := ?oir15_12) (v := ?vr15_12) ?hir15_12 (by kernel_rfl) (by kernel_rfl) (by kernel_rfl) ?hqr15_12 ?hyr15_12 (by assumption) ?restr15_12
              case hir15_12 => simp only [List.getElem?_toArray, List.getElem?_cons_succ, List.getElem?_cons_zero]; rfl
              case hqr15_12 => exact fun _ _ _ h => h
              case hyr15_12 => (refine Or.inl ⟨by rfl, ?_⟩; intro w hSw; (try dsimp only at hSw); go_simp; all_goals with_reducible rfl)
              try simp only [Act.put, List.setIfInBounds_toArray, List.set_cons_zero, List.set_cons_succ]
              refine wpAnyH_take (i := 13) (oi := ?oir15_13) (v := ?vr15_13) ?hir15_13 (by kernel_rfl) (by kernel_rfl) (by kernel_rfl) ?hqr15_13 ?hyr15_13 (by assumption) ?restr15_13
              case hir15_13 => simp only [List.getElem?_toArray, List.getElem?_cons_succ, List.getElem?_cons_zero]; rfl
              case hqr15_13 => exact fun _ _ _ h => h
              case hyr15_13 => (refine Or.inl ⟨by rfl, ?_⟩; intro w hSw; (try dsimp only at hSw); go_simp; all_goals with_reducible rfl)
              try simp only [Act.put, List.setIfInBounds_toArray, List.set_cons_zero, List.set_cons_succ]
              refine wpAnyH_take (i := 14) (oi := ?oir15_14) (v := ?vr15_14) ?hir15_14 (by kernel_rfl) (by kernel_rfl) (by kernel_rfl) ?hqr15_14 ?hyr15_14 (by assumption) ?restr15_14
              case hir15_14 => simp only [List.getElem?_toArray, List.getElem?_cons_succ, List.getElem?_cons_zero]; rfl
              case hqr15_14 => exact fun _ _ _ h => h
              case hyr15_14 => (refine Or.inl ⟨by rfl, ?_⟩; intro w hSw; (try dsimp only at hSw); go_simp; all_goals with_reducible rfl)
              try simp only [Act.put, List.setIfInBounds_toArray, List.set_cons_zero, List.set_cons_succ]
              as_aux_lemma =>
                refine wpAnyH_take (i := 15) (oi := ?oir16_15) (v := ?vr16_15) ?hir16_15 (by kernel_rfl) (by kernel_rfl) (by kernel_rfl) ?hqr16_15 ?hyr16_15 (by assumption) ?restr16_15
                case hir16_15 => simp only [List.getElem?_toArray, List.getElem?_cons_succ, List.getElem?_cons_zero]; rfl
                case hqr16_15 => exact fun _ _ _ h => h
                case hyr16_15 => (refine Or.inl ⟨by rfl, ?_⟩; intro w hSw; (try dsimp only at hSw); go_simp; all_goals with_reducible rfl)
                try simp only [Act.put, List.setIfInBounds_toArray, List.set_cons_zero, List.set_cons_succ]
                refine wpAnyH_take (i := 16) (oi := ?oir16_16) (v := ?vr16_16) ?hir16_16 (by kernel_rfl) (by kernel_rfl) (by kernel_rfl) ?hqr16_16 ?hyr16_16 (by assumption) ?restr16_16
                case hir16_16 => simp only [List.getElem?_toArray, List.getElem?_cons_succ, List.getElem?_cons_zero]; rfl
                case hqr16_16 => exact fun _ _ _ h => h
                case hyr16_16 => (refine Or.inl ⟨by rfl, ?_⟩; intro w hSw; (try dsimp only at hSw); go_simp; all_goals with_reducible rfl)
                try simp only [Act.put, List.setIfInBounds_toArray, List.set_cons_zero, List.set_cons_succ]
                refine wpAnyH_take (i := 17) (oi := ?oir16_17) (v := ?vr16_17) ?hir16_17 (by kernel_rfl) (by kernel_rfl) (by kernel_rfl) ?hqr16_17 ?hyr16_17 (by assumption) ?restr16_17
                case hir16_17 => simp only [List.getElem?_toArray, List.getElem?_cons_succ, List.getElem?_cons_zero]; rfl
                case hqr16_17 => exact fun _ _ _ h => h
                case hyr16_17 => (refine Or.inl ⟨by rfl, ?_⟩; intro w hSw; (try dsimp only at hSw); go_simp; all_goals with_reducible rfl)
                try simp only [Act.put, List.setIfInBounds_toArray, List.set_cons_zero, List.set_cons_succ]
                refine wpAnyH_take (i := 18) (oi := ?oir16_18) (v := ?vr16_18) ?hir16_18 (by kernel_rfl) (by kernel_rfl) (by kernel_rfl) ?hqr16_18 ?hyr16_18 (by assumption) ?restr16_18
                case hir16_18 => simp only [List.getElem?_toArray, List.getElem?_cons_succ, List.getElem?_cons_zero]; rfl
                case hqr16_18 => exact fun _ _ _ h => h
                case hyr16_18 => (refine Or.inl ⟨by rfl, ?_⟩; intro w hSw; (try dsimp only at hSw); go_simp; all_goals with_reducible rfl)
                try simp only [Act.put, List.setIfInBounds_toArray, List.set_cons_zero, List.set_cons_succ]
                refine wpAnyH_take (i := 19) (oi := ?oir16_19) (v := ?vr16_19) ?hir16_19 (by kernel_rfl) (by kernel_rfl) (by kernel_rfl) ?hqr16_19 ?hyr16_19 (by assumption) ?restr16_19
                case hir16_19 => simp only [List.getElem?_toArray, List.getElem?_cons_succ, List.getElem?_cons_zero]; rfl
                case hqr16_19 => exact fun _ _ _ h => h
                case hyr16_19 => (refine Or.inl ⟨by rfl, ?_⟩; intro w hSw; (try dsimp only at hSw); go_simp; all_goals with_reducible rfl)
                try simp only [Act.put, List.setIfInBounds_toArray, List.set_cons_zero, List.set_cons_succ]
                refine wpAnyH_take (i := 20) (oi := ?oir16_20) (v := ?vr16_20) ?hir16_20 (by kernel_rfl) (by kernel_rfl) (by kernel_rfl) ?hqr16_20 ?hyr16_20 (by assumption) ?restr16_20
                case hir16_20 => simp only [List.getElem?_toArray, List.getElem?_cons_succ, List.getElem?_cons_zero]; rfl
                case hqr16_20 => exact fun _ _ _ h => h
                case hyr16_20 => (refine Or.inl ⟨by rfl, ?_⟩; intro w hSw; (try dsimp only at hSw); go_simp; all_goals with_reducible rfl)
                try simp only [Act.put, List.setIfInBounds_toArray, List.set_cons_zero, List.set_cons_succ]
                refine wpAnyH_take (i := 21) (oi := ?oir16_21) (v := ?vr16_21) ?hir16_21 (by kernel_rfl) (by kernel_rfl) (by kernel_rfl) ?hqr16_21 ?hyr16_21 (by assumption) ?restr16_21
                case hir16_21 => simp only [List.getElem?_toArray, List.getElem?_cons_succ, List.getElem?_cons_zero]; rfl
                case hqr16_21 => exact fun _ _ _ h => h
                case hyr16_21 => (refine Or.inl ⟨by rfl, ?_⟩; intro w hSw; (try dsimp only at hSw); go_simp; all_goals with_reducible rfl)
                try simp only [Act.put, List.setIfInBounds_toArray, List.set_cons_zero, List.set_cons_succ]
                refine wpAnyH_take (i := 22) (oi := ?oir16_22) (v := ?vr16_22) ?hir16_22 (by kernel_rfl) (by kernel_rfl) (by kernel_rfl) ?hqr16_22 ?hyr16_22 (by assumption) ?restr16_22
                case hir16_22 => simp only [List.getElem?_toArray, List.getElem?_cons_succ, List.getElem?_cons_zero]; rfl
                case hqr16_22 => exact fun _ _ _ h => h
                case hyr16_22 => (refine Or.inl ⟨by rfl, ?_⟩; intro w hSw; (try dsimp only at hSw); go_simp; all_goals with_reducible rfl)
                try simp only [Act.put, List.setIfInBounds_toArray, List.set_cons_zero, List.set_cons_succ]
                refine wpAnyH_take (i := 23) (oi := ?oir16_23) (v := ?vr16_23) ?hir16_23 (by kernel_rfl) (by kernel_rfl) (by kernel_rfl) ?hqr16_23 ?hyr16_23 (by assumption) ?restr16_23
                case hir16_23 => simp only [List.getElem?_toArray, List.getElem?_cons_succ, List.getElem?_cons_zero]; rfl
                case hqr16_23 => exact fun _ _ _ h => h
                case hyr16_23 => (refine Or.inl ⟨by rfl, ?_⟩; intro w hSw; (try dsimp only at hSw); go_simp; all_goals with_reducible rfl)
                try simp only [Act.put, List.setIfInBounds_toArray, List.set_cons_zero, List.set_cons_succ]
                refine wpAnyH_take (i := 24) (oi := ?oir16_24) (v := ?vr16_24) ?hir16_24 (by kernel_rfl) (by kernel_rfl) (by kernel_rfl) ?hqr16_24 ?hyr16_24 (by assumption) ?restr16_24
                case hir16_24 => simp only [List.getElem?_toArray, List.getElem?_cons_succ, List.getElem?_cons_zero]; rfl
                case hqr16_24 => exact fun _ _ _ h => h
                case hyr16_24 => (refine Or.inl ⟨by rfl, ?_⟩; intro w hSw; (try dsimp only at hSw); go_simp; all_goals with_reducible rfl)
                try simp only [Act.put, List.setIfInBounds_toArray, List.set_cons_zero, List.set_cons_succ]
                refine wpAnyH_take (i := 25) (oi := ?oir16_25) (v := ?vr16_25) ?hir16_25 (by kernel_rfl) (by kernel_rfl) (by kernel_rfl) ?hqr16_25 ?hyr16_25 (by assumption) ?restr16_25
                case hir16_25 => simp only [List.getElem?_toArray, List.getElem?_cons_succ, List.getElem?_cons_zero]; rfl
                case hqr16_25 => exact fun _ _ _ h => h
                case hyr16_25 => (refine Or.inl ⟨by rfl, ?_⟩; intro w hSw; (try dsimp only at hSw); go_simp; all_goals with_reducible rfl)
                try simp only [Act.put, List.setIfInBounds_toArray, List.set_cons_zero, List.set_cons_succ]
                refine wpAnyH_take (i := 26) (oi := ?oir16_26) (v := ?vr16_26) ?hir16_26 (by kernel_rfl) (by kernel_rfl) (by kernel_rfl) ?hqr16_26 ?hyr16_26 (by assumption) ?restr16_26
                case hir16_26 => simp only [List.getElem?_toArray, List.getElem?_cons_succ, List.getElem?_cons_zero]; rfl
                case hqr16_26 => exact fun _ _ _ h => h
                case hyr16_26 => (refine Or.inl ⟨by rfl, ?_⟩; intro w hSw; (try dsimp only at hSw); go_simp; all_goals with_reducible rfl)
                try simp only [Act.put, List.setIfInBounds_toArray, List.set_cons_zero, List.set_cons_succ]
                refine wpAnyH_take (i := 27) (oi := ?oir16_27) (v := ?vr16_27) ?hir16_27 (by kernel_rfl) (by kernel_rfl) (by kernel_rfl) ?hqr16_27 ?hyr16_27 (by assumption) ?restr16_27
                case hir16_27 => simp only [List.getElem?_toArray, List.getElem?_cons_succ, List.getElem?_cons_zero]; rfl
                case hqr16_27 => exact fun _ _ _ h => h
                case hyr16_27 => (refine Or.inl ⟨by rfl, ?_⟩; intro w hSw; (try dsimp only at hSw); go_simp; all_goals with_reducible rfl)
                try simp only [Act.put, List.setIfInBounds_toArray, List.set_cons_zero, List.set_cons_succ]
                refine wpAnyH_take (i := 28) (oi := ?oir16_28) (v := ?vr16_28) ?hir16_28 (by kernel_rfl) (by kernel_rfl) (by kernel_rfl) ?hqr16_28 ?hyr16_28 (by assumption) ?restr16_28
                case hir16_28 => simp only [List.getElem?_toArray, List.getElem?_cons_succ, List.getElem?_cons_zero]; rfl
                case hqr16_28 => exact fun _ _ _ h => h
                case hyr16_28 => (refine Or.inl ⟨by rfl, ?_⟩; intro w hSw; (try dsimp only at hSw); go_simp; all_goals with_reducible rfl)
                try simp only [Act.put, List.setIfInBounds_toArray, List.set_cons_zero, List.set_cons_succ]
                refine wpAnyH_take (i := 29) (oi := ?oir16_29) (v := ?vr16_29) ?hir16_29 (by kernel_rfl) (by kernel_rfl) (by kernel_rfl) ?hqr16_29 ?hyr16_29 (by assumption) ?restr16_29
                case hir16_29 => simp only [List.getElem?_toArray, List.getElem?_cons_succ, List.getElem?_cons_zero]; rfl
                case hqr16_29 => exact fun _ _ _ h => h
                case hyr16_29 => (refine Or.inl ⟨by rfl, ?_⟩; intro w hSw; (try dsimp only at hSw); go_simp; all_goals with_reducible rfl)
                try simp only [Act.put, List.setIfInBounds_toArray, List.set_cons_zero, List.set_cons_succ]
                refine wpAnyH_take (i := 30) (oi := ?oir16_30) (v := ?vr16_30) ?hir16_30 (by kernel_rfl) (by kernel_rfl) (by kernel_rfl) ?hqr16_30 ?hyr16_30 (by assumption) ?restr16_30
                case hir16_30 => simp only [List.getElem?_toArray, List.getElem?_cons_succ, List.getElem?_cons_zero]; rfl
                case hqr16_30 => exact fun _ _ _ h => h
                case hyr16_30 => (refine Or.inl ⟨by rfl, ?_⟩; intro w hSw; (try dsimp only at hSw); go_simp; all_goals with_reducible rfl)
                try simp only [Act.put, List.setIfInBounds_toArray, List.set_cons_zero, List.set_cons_succ]
                refine wpAnyH_ready (rs := [31]) (by kernel_rfl) (by simp) ?_
                refine AllReadyH.cons (o := ?or17_31) ?hor17_31 (fun K hK => ?kr17_31) AllReadyH.nil
                case hor17_31 => simp only [List.getElem?_toArray, List.getElem?_cons_succ, List.getElem?_cons_zero]; rfl
                go_simp
                have c := rof_any w41 (-3) 2 (by decide) (by decide) (by decide) (by decide)
                refine c.mono ?_
                rintro e w42 ⟨a_q, n_q, c_q, b_q, m_q, d_q, rfl, h_qn_42, h_qd_42, hb⟩
                clear c
                have B42 := B41.trans (hb.mono B41.size)
                have h_an_42 := h_an_41.below hb
                have h_ad_42 := h_ad_41.below hb
                have h_a_42 := h_a_41.later hb
                have h_bn_42 := h_bn_41.below hb
                have h_bd_42 := h_bd_41.below hb
                have h_b_42 := h_b_41.later hb
                have h_cn_42 := h_cn_41.below hb
                have h_cd_42 := h_cd_41.below hb
                have h_c_42 := h_c_41.later hb
                have h_dn_42 := h_dn_41.below hb
                have h_dd_42 := h_dd_41.below hb
                have h_d_42 := h_d_41.later hb
                have h_xn_42 := h_xn_41.below hb
                have h_xd_42 := h_xd_41.below hb
                have h_x_42 := h_x_41.later hb
                have h_fn_42 := h_fn_41.below hb
                have h_fd_42 := h_fd_41.below hb
                have h_f_42 := h_f_41.later hb
                have h_gn_42 := h_gn_41.below hb
                have h_gd_42 := h_gd_41.below hb
                have h_g_42 := h_g_41.later hb
                have h_l_42 := h_l_41.later hb
                clear hb B41 h_an_41 h_ad_41 h_a_41 h_bn_41 h_bd_41 h_b_41 h_cn_41 h_cd_41 h_c_41 h_dn_41 h_dd_41 h_d_41 h_xn_41 h_xd_41 h_x_41 h_fn_41 h_fd_41 h_f_41 h_gn_41 h_gd_41 h_g_41 h_l_41
                go_wp2_with fail
                clear hHeld
                refine hK.out _ _ ?_ (fun hHeld => ?_)
                · exact ⟨h_a_42.cell 0 _ rfl, h_a_42.cell 1 _ rfl, h_a_42.cell 2 _ rfl, h_x_42.cell 0 _ rfl, h_x_42.cell 1 _ rfl, h_x_42.cell 2 _ rfl, trivial⟩
                clear hK K
                try simp only [Act.put, List.setIfInBounds_toArray, List.set_cons_zero, List.set_cons_succ]
                refine wpAnyH_ready (rs := [32]) (by kernel_rfl) (by simp) ?_
                refine AllReadyH.cons (o := ?or18_32) ?hor18_32 (fun K hK => ?kr18_32) AllReadyH.nil
                case hor18_32 => simp only [List.getElem?_toArray, List.getElem?_cons_succ, List.getElem?_cons_zero]; rfl
                go_simp
                have c := ratSame_any w42 (g1 := (ofC (-3) 2).1.neg) (g2 := (ofC (-3) 2).1.neg) h_xn_42 h_xd_42 h_qn_42 h_qd_42
                rw [show (⟨(ofC (-3) 2).1.neg, (ofC (-3) 2).1.num, (ofC (-3) 2).1.den⟩ : QV) = (ofC (-3) 2).1 from rfl] at c
                rw [sameV_self] at c
                refine c.mono ?_
                rintro e w43 ⟨rfl, hb⟩
                clear c
                have B43 := B42.trans (hb.mono B42.size)
                have h_an_43 := h_an_42.below hb
                have h_ad_43 := h_ad_42.below hb
                have h_a_43 := h_a_42.later hb
                have h_bn_43 := h_bn_42.below hb
                have h_bd_43 := h_bd_42.below hb
                have h_b_43 := h_b_42.later hb
                have h_cn_43 := h_cn_42.below hb
                have h_cd_43 := h_cd_42.below hb
                have h_c_43 := h_c_42.later hb
                have h_dn_43 := h_dn_42.below hb
                have h_dd_43 := h_dd_42.below hb
                have h_d_43 := h_d_42.later hb
                have h_xn_43 := h_xn_42.below hb
                have h_xd_43 := h_xd_42.below hb
                have h_x_43 := h_x_42.later hb
                have h_fn_43 := h_fn_42.below hb
                have h_fd_43 := h_fd_42.below hb
                have h_f_43 := h_f_42.later hb
                have h_gn_43 := h_gn_42.below hb
                have h_gd_43 := h_gd_42.below hb
                have h_g_43 := h_g_42.later hb
                have h_l_43 := h_l_42.later hb
                clear hb B42 h_an_42 h_ad_42 h_a_42 h_bn_42 h_bd_42 h_b_42 h_cn_42 h_cd_42 h_c_42 h_dn_42 h_dd_42 h_d_42 h_xn_42 h_xd_42 h_x_42 h_fn_42 h_fd_42 h_f_42 h_gn_42 h_gd_42 h_g_42 h_l_42 h_qn_42 h_qd_42
                go_wp2_with fail
                clear hHeld
                refine hK.out _ _ ?_ (fun hHeld => ?_)
                · exact ⟨h_a_43.cell 0 _ rfl, h_a_43.cell 1 _ rfl, h_a_43.cell 2 _ rfl, h_x_43.cell 0 _ rfl, h_x_43.cell 1 _ rfl, h_x_43.cell 2 _ rfl, trivial⟩
                clear hK K
                try simp only [Act.put, List.setIfInBounds_toArray, List.set_cons_zero, List.set_cons_succ]
                as_aux_lemma =>
                  refine wpAnyH_take (i := 33) (oi := ?oir19_33) (v := ?vr19_33) ?hir19_33 (by kernel_rfl) (by kernel_rfl) (by kernel_rfl) ?hqr19_33 ?hyr19_33 (by assumption) ?restr19_33
                  case hir19_33 => simp only [List.getElem?_toArray, List.getElem?_cons_succ, List.getElem?_cons_zero]; rfl
                  case hqr19_33 => exact fun _ _ _ h => h
                  case hyr19_33 => (refine Or.inl ⟨by rfl, ?_⟩; intro w hSw; (try dsimp only at hSw); go_simp; all_goals with_reducible rfl)
                  try simp only [Act.put, List.setIfInBounds_toArray, List.set_cons_zero, List.set_cons_succ]
                  refine wpAnyH_take (i := 34) (oi := ?oir19_34) (v := ?vr19_34) ?hir19_34 (by kernel_rfl) (by kernel_rfl) (by kernel_rfl) ?hqr19_34 ?hyr19_34 (by assumption) ?restr19_34
                  case hir19_34 => simp only [List.getElem?_toArray, List.getElem?_cons_succ, List.getElem?_cons_zero]; rfl
                  case hqr19_34 => exact fun _ _ _ h => h
                  case hyr19_34 => (refine Or.inl ⟨by rfl, ?_⟩; intro w hSw; (try dsimp only at hSw); go_simp; all_goals with_reducible rfl)
                  try simp only [Act.put, List.setIfInBounds_toArray, List.set_cons_zero, List.set_cons_succ]
                  refine wpAnyH_take (i := 35) (oi := ?oir19_35) (v := ?vr19_35) ?hir19_35 (by kernel_rfl) (by kernel_rfl) (by kernel_rfl) ?hqr19_35 ?hyr19_35 (by assumption) ?restr19_35
                  case hir19_35 => simp only [List.getElem?_toArray, List.getElem?_cons_succ, List.getElem?_cons_zero]; rfl
                  case hqr19_35 => exact fun _ _ _ h => h
                  case hyr19_35 => (refine Or.inl ⟨by rfl, ?_⟩; intro w hSw; (try dsimp only at hSw); go_simp; all_goals with_reducible rfl)
                  try simp only [Act.put, List.setIfInBounds_toArray, List.set_cons_zero, List.set_cons_succ]
                  refine wpAnyH_take (i := 36) (oi := ?oir19_36) (v := ?vr19_36) ?hir19_36 (by kernel_rfl) (by kernel_rfl) (by kernel_rfl) ?hqr19_36 ?hyr19_36 (by assumption) ?restr19_36
                  case hir19_36 => simp only [List.getElem?_toArray, List.getElem?_cons_succ, List.getElem?_cons_zero]; rfl
                  case hqr19_36 => exact fun _ _ _ h => h
                  case hyr19_36 => (refine Or.inl ⟨by rfl, ?_⟩; intro w hSw; (try dsimp only at hSw); go_simp; all_goals with_reducible rfl)
                  try simp only [Act.put, List.setIfInBounds_toArray, List.set_cons_zero, List.set_cons_succ]
                  refine wpAnyH_take (i := 37) (oi := ?oir19_37) (v := ?vr19_37) ?hir19_37 (by kernel_rfl) (by kernel_rfl) (by kernel_rfl) ?hqr19_37 ?hyr19_37 (by assumption) ?restr19_37
                  case hir19_37 => simp only [List.getElem?_toArray, List.getElem?_cons_succ, List.getElem?_cons_zero]; rfl
                  case hqr19_37 => exact fun _ _ _ h => h
                  case hyr19_37 => (refine Or.inl ⟨by rfl, ?_⟩; intro w hSw; (try dsimp only at hSw); go_simp; all_goals with_reducible rfl)
                  try simp only [Act.put, List.setIfInBounds_toArray, List.set_cons_zero, List.set_cons_succ]
                  refine wpAnyH_take (i := 38) (oi := ?oir19_38) (v := ?vr19_38) ?hir19_38 (by kernel_rfl) (by kernel_rfl) (by kernel_rfl) ?hqr19_38 ?hyr19_38 (by assumption) ?restr19_38
                  case hir19_38 => simp only [List.getElem?_toArray, List.getElem?_cons_succ, List.getElem?_cons_zero]; rfl
                  case hqr19_38 => exact fun _ _ _ h => h
                  case hyr19_38 => (refine Or.inl ⟨by rfl, ?_⟩; intro w hSw; (try dsimp only at hSw); go_simp; all_goals with_reducible rfl)
                  try simp only [Act.put, List.setIfInBounds_toArray, List.set_cons_zero, List.set_cons_succ]
                  refine wpAnyH_take (i := 39) (oi := ?oir19_39) (v := ?vr19_39) ?hir19_39 (by kernel_rfl) (by kernel_rfl) (by kernel_rfl) ?hqr19_39 ?hyr19_39 (by assumption) ?restr19_39
                  case hir19_39 => simp only [List.getElem?_toArray, List.getElem?_cons_succ, List.getElem?_cons_zero]; rfl
                  case hqr19_39 => exact fun _ _ _ h => h
                  case hyr19_39 => (refine Or.inl ⟨by rfl, ?_⟩; intro w hSw; (try dsimp only at hSw); go_simp; all_goals with_reducible rfl)
                  try simp only [Act.put, List.setIfInBounds_toArray, List.set_cons_zero, List.set_cons_succ]
                  refine wpAnyH_take (i := 40) (oi := ?oir19_40) (v := ?vr19_40) ?hir19_40 (by kernel_rfl) (by kernel_rfl) (by kernel_rfl) ?hqr19_40 ?hyr19_40 (by assumption) ?restr19_40
                  case hir19_40 => simp only [List.getElem?_toArray, List.getElem?_cons_succ, List.getElem?_cons_zero]; rfl
                  case hqr19_40 => exact fun _ _ _ h => h
                  case hyr19_40 => (refine Or.inl ⟨by rfl, ?_⟩; intro w hSw; (try dsimp only at hSw); go_simp; all_goals with_reducible rfl)
                  try simp only [Act.put, List.setIfInBounds_toArray, List.set_cons_zero, List.set_cons_succ]
                  refine wpAnyH_take (i := 41) (oi := ?oir19_41) (v := ?vr19_41) ?hir19_41 (by kernel_rfl) (by kernel_rfl) (by kernel_rfl) ?hqr19_41 ?hyr19_41 (by assumption) ?restr19_41
                  case hir19_41 => simp only [List.getElem?_toArray, List.getElem?_cons_succ, List.getElem?_cons_zero]; rfl
                  case hqr19_41 => exact fun _ _ _ h => h
                  case hyr19_41 => (refine Or.inl ⟨by rfl, ?_⟩; intro w hSw; (try dsimp only at hSw); go_simp; all_goals with_reducible rfl)
                  try simp only [Act.put, List.setIfInBounds_toArray, List.set_cons_zero, List.set_cons_succ]
                  refine wpAnyH_take (i := 42) (oi := ?oir19_42) (v := ?vr19_42) ?hir19_42 (by kernel_rfl) (by kernel_rfl) (by kernel_rfl) ?hqr19_42 ?hyr19_42 (by assumption) ?restr19_42
                  case hir19_42 => simp only [List.getElem?_toArray, List.getElem?_cons_succ, List.getElem?_cons_zero]; rfl
                  case hqr19_42 => exact fun _ _ _ h => h
                  case hyr19_42 => (refine Or.inl ⟨by rfl, ?_⟩; intro w hSw; (try dsimp only at hSw); go_simp; all_goals with_reducible rfl)
                  try simp only [Act.put, List.setIfInBounds_toArray, List.set_cons_zero, List.set_cons_succ]
                  refine wpAnyH_take (i := 43) (oi := ?oir19_43) (v := ?vr19_43) ?hir19_43 (by kernel_rfl) (by kernel_rfl) (by kernel_rfl) ?hqr19_43 ?hyr19_43 (by assumption) ?restr19_43
                  case hir19_43 => simp only [List.getElem?_toArray, List.getElem?_cons_succ, List.getElem?_cons_zero]; rfl
                  case hqr19_43 => exact fun _ _ _ h => h
                  case hyr19_43 => (refine Or.inl ⟨by rfl, ?_⟩; intro w hSw; (try dsimp only at hSw); go_simp; all_goals with_reducible rfl)
                  try simp only [Act.put, List.setIfInBounds_toArray, List.set_cons_zero, List.set_cons_succ]
                  refine wpAnyH_take (i := 44) (oi := ?oir19_44) (v := ?vr19_44) ?hir19_44 (by kernel_rfl) (by kernel_rfl) (by kernel_rfl) ?hqr19_44 ?hyr19_44 (by assumption) ?restr19_44
                  case hir19_44 => simp only [List.getElem?_toArray, List.getElem?_cons_succ, List.getElem?_cons_zero]; rfl
                  case hqr19_44 => exact fun _ _ _ h => h
                  case hyr19_44 => (refine Or.inl ⟨by rfl, ?_⟩; intro w hSw; (try dsimp only at hSw); go_simp; all_goals with_reducible rfl)
                  try simp only [Act.put, List.setIfInBounds_toArray, List.set_cons_zero, List.set_cons_succ]
                  refine wpAnyH_take (i := 45) (oi := ?oir19_45) (v := ?vr19_45) ?hir19_45 (by kernel_rfl) (by kernel_rfl) (by kernel_rfl) ?hqr19_45 ?hyr19_45 (by assumption) ?restr19_45
                  case hir19_45 => simp only [List.getElem?_toArray, List.getElem?_cons_succ, List.getElem?_cons_zero]; rfl
                  case hqr19_45 => exact fun _ _ _ h => h
                  case hyr19_45 => (refine Or.inl ⟨by rfl, ?_⟩; intro w hSw; (try dsimp only at hSw); go_simp; all_goals with_reducible rfl)
                  try simp only [Act.put, List.setIfInBounds_toArray, List.set_cons_zero, List.set_cons_succ]
                  refine wpAnyH_take (i := 46) (oi := ?oir19_46) (v := ?vr19_46) ?hir19_46 (by kernel_rfl) (by kernel_rfl) (by kernel_rfl) ?hqr19_46 ?hyr19_46 (by assumption) ?restr19_46
                  case hir19_46 => simp only [List.getElem?_toArray, List.getElem?_cons_succ, List.getElem?_cons_zero]; rfl
                  case hqr19_46 => exact fun _ _ _ h => h
                  case hyr19_46 => (refine Or.inl ⟨by rfl, ?_⟩; intro w hSw; (try dsimp only at hSw); go_simp; all_goals with_reducible rfl)
                  try simp only [Act.put, List.setIfInBounds_toArray, List.set_cons_zero, List.set_cons_succ]
                  refine wpAnyH_take (i := 47) (oi := ?oir19_47) (v := ?vr19_47) ?hir19_47 (by kernel_rfl) (by kernel_rfl) (by kernel_rfl) ?hqr19_47 ?hyr19_47 (by assumption) ?restr19_47
                  case hir19_47 => simp only [List.getElem?_toArray, List.getElem?_cons_succ, List.getElem?_cons_zero]; rfl
                  case hqr19_47 => exact fun _ _ _ h => h
                  case hyr19_47 => (refine Or.inl ⟨by rfl, ?_⟩; intro w hSw; (try dsimp only at hSw); go_simp; all_goals with_reducible rfl)
                  try simp only [Act.put, List.setIfInBounds_toArray, List.set_cons_zero, List.set_cons_succ]
                  refine wpAnyH_take (i := 48) (oi := ?oir19_48) (v := ?vr19_48) ?hir19_48 (by kernel_rfl) (by kernel_rfl) (by kernel_rfl) ?hqr19_48 ?hyr19_48 (by assumption) ?restr19_48
                  case hir19_48 => simp only [List.getElem?_toArray, List.getElem?_cons_succ, List.getElem?_cons_zero]; rfl
                  case hqr19_48 => exact fun _ _ _ h => h
                  case hyr19_48 => (refine Or.inl ⟨by rfl, ?_⟩; intro w hSw; (try dsimp only at hSw); go_simp; all_goals with_reducible rfl)
                  try simp only [Act.put, List.setIfInBounds_toArray, List.set_cons_zero, List.set_cons_succ]
                  refine wpAnyH_take (i := 49) (oi := ?oir19_49) (v := ?vr19_49) ?hir19_49 (by kernel_rfl) (by kernel_rfl) (by kernel_rfl) ?hqr19_49 ?hyr19_49 (by assumption) ?restr19_49
                  case hir19_49 => simp only [List.getElem?_toArray, List.getElem?_cons_succ, List.getElem?_cons_zero]; rfl
                  case hqr19_49 => exact fun _ _ _ h => h
                  case hyr19_49 => (refine Or.inl ⟨by rfl, ?_⟩; intro w hSw; (try dsimp only at hSw); go_simp; all_goals with_reducible rfl)
                  try simp only [Act.put, List.setIfInBounds_toArray, List.set_cons_zero, List.set_cons_succ]
                  refine wpAnyH_take (i := 50) (oi := ?oir19_50) (v := ?vr19_50) ?hir19_50 (by kernel_rfl) (by kernel_rfl) (by kernel_rfl) ?hqr19_50 ?hyr19_50 (by assumption) ?restr19_50
                  case hir19_50 => simp only [List.getElem?_toArray, List.getElem?_cons_succ, List.getElem?_cons_zero]; rfl
                  case hqr19_50 => exact fun _ _ _ h => h
                  case hyr19_50 => (refine Or.inl ⟨by rfl, ?_⟩; intro w hSw; (try dsimp only at hSw); go_simp; all_goals with_reducible rfl)
                  try simp only [Act.put, List.setIfInBounds_toArray, List.set_cons_zero, List.set_cons_succ]
                  refine wpAnyH_take (i := 51) (oi := ?oir20_51) (v := ?vr20_51) ?hir20_51 (by kernel_rfl) (by kernel_rfl) (by kernel_rfl) ?hqr20_51 ?hyr20_51 (by assumption) ?restr20_51
                  case hir20_51 => simp only [List.getElem?_toArray, List.getElem?_cons_succ, List.getElem?_cons_zero]; rfl
                  case hqr20_51 => exact fun _ _ _ h => h
                  case hyr20_51 => (refine Or.inl ⟨by rfl, ?_⟩; intro w hSw; (try dsimp only at hSw); go_simp; all_goals with_reducible rfl)
                  try simp only [Act.put, List.setIfInBounds_toArray, List.set_cons_zero, List.set_cons_succ]
                  refine wpAnyH_ready (rs := [52]) (by kernel_rfl) (by simp) ?_
                  refine AllReadyH.cons (o := ?or21_52) ?hor21_52 (fun K hK => ?kr21_52) AllReadyH.nil
                  case hor21_52 => simp only [List.getElem?_toArray, List.getElem?_cons_succ, List.getElem?_cons_zero]; rfl
                  go_simp
                  have c := ratCheck_any w43 (neg := (ofC 5 6).1.neg) h_an_43 h_ad_43
                  rw [show (⟨(ofC 5 6).1.neg, (ofC 5 6).1.num, (ofC 5 6).1.den⟩ : QV) = (ofC 5 6).1 from rfl] at c
                  rw [rx_chk1] at c
                  refine c.mono ?_
                  rintro e w44 ⟨rfl, hb⟩
                  clear c
                  have B44 := B43.trans (hb.mono B43.size)
                  have h_an_44 := h_an_43.below hb
                  have h_ad_44 := h_ad_43.below hb
                  have h_a_44 := h_a_43.later hb
                  have h_bn_44 := h_bn_43.below hb
                  have h_bd_44 := h_bd_43.below hb
                  have h_b_44 := h_b_43.later hb
                  have h_cn_44 := h_cn_43.below hb
                  have h_cd_44 := h_cd_43.below hb
                  have h_c_44 := h_c_43.later hb
                  have h_dn_44 := h_dn_43.below hb
                  have h_dd_44 := h_dd_43.below hb
                  have h_d_44 := h_d_43.later hb
                  have h_xn_44 := h_xn_43.below hb
                  have h_xd_44 := h_xd_43.below hb
                  have h_x_44 := h_x_43.later hb
                  have h_fn_44 := h_fn_43.below hb
                  have h_fd_44 := h_fd_43.below hb
                  have h_f_44 := h_f_43.later hb
                  have h_gn_44 := h_gn_43.below hb
                  have h_gd_44 := h_gd_43.below hb
                  have h_g_44 := h_g_43.later hb
                  have h_l_44 := h_l_43.later hb
                  clear hb B43 h_an_43 h_ad_43 h_a_43 h_bn_43 h_bd_43 h_b_43 h_cn_43 h_cd_43 h_c_43 h_dn_43 h_dd_43 h_d_43 h_xn_43 h_xd_43 h_x_43 h_fn_43 h_fd_43 h_f_43 h_gn_43 h_gd_43 h_g_43 h_l_43
                  go_wp2_with fail
                  clear hHeld
                  refine hK.out _ _ ?_ (fun hHeld => ?_)
                  · exact ⟨h_a_44.cell 0 _ rfl, h_a_44.cell 1 _ rfl, h_a_44.cell 2 _ rfl, h_x_44.cell 0 _ rfl, h_x_44.cell 1 _ rfl, h_x_44.cell 2 _ rfl, trivial⟩
                  clear hK K
                  try simp only [Act.put, List.setIfInBounds_toArray, List.set_cons_zero, List.set_cons_succ]
                  as_aux_lemma =>
                    refine wpAnyH_take (i := 53) (oi := ?oir22_53) (v := ?vr22_53) ?hir22_53 (by kernel_rfl) (by kernel_rfl) (by kernel_rfl) ?hqr22_53 ?hyr22_53 (by assumption) ?restr22_53
                    case hir22_53 => simp only [List.getElem?_toArray, List.getElem?_cons_succ, List.getElem?_cons_zero]; rfl
                    case hqr22_53 => exact fun _ _ _ h => h
                    case hyr22_53 => (refine Or.inl ⟨by rfl, ?_⟩; intro w hSw; (try dsimp only at hSw); go_simp; all_goals with_reducible rfl)
                    try simp only [Act.put, List.setIfInBounds_toArray, List.set_cons_zero, List.set_cons_succ]
                    refine wpAnyH_take (i := 54) (oi := ?oir22_54) (v := ?vr22_54) ?hir22_54 (by kernel_rfl) (by kernel_rfl) (by kernel_rfl) ?hqr22_54 ?hyr22_54 (by assumption) ?restr22_54
                    case hir22_54 => simp only [List.getElem?_toArray, List.getElem?_cons_succ, List.getElem?_cons_zero]; rfl
                    case hqr22_54 => exact fun _ _ _ h => h
                    case hyr22_54 => (refine Or.inl ⟨by rfl, ?_⟩; intro w hSw; (try dsimp only at hSw); go_simp; all_goals with_reducible rfl)
                    try simp only [Act.put, List.setIfInBounds_toArray, List.set_cons_zero, List.set_cons_succ]
                    refine wpAnyH_take (i := 55) (oi := ?oir22_55) (v := ?vr22_55) ?hir22_55 (by kernel_rfl) (by kernel_rfl) (by kernel_rfl) ?hqr22_55 ?hyr22_55 (by assumption) ?restr22_55
                    case hir22_55 => simp only [List.getElem?_toArray, List.getElem?_cons_succ, List.getElem?_cons_zero]; rfl
                    case hqr22_55 => exact fun _ _ _ h => h
                    case hyr22_55 => (refine Or.inl ⟨by rfl, ?_⟩; intro w hSw; (try dsimp only at hSw); go_simp; all_goals with_reducible rfl)
                    try simp only [Act.put, List.setIfInBounds_toArray, List.set_cons_zero, List.set_cons_succ]
                    refine wpAnyH_ready (rs := [56, 57]) (by kernel_rfl) (by simp) ?_
                    refine (AllReadyH.cons (o := ?ob23_56) ?hob23_56 (fun K hK => ?kb23_56) (AllReadyH.cons (o := ?ob23_57) ?hob23_57 (fun K hK => ?kb23_57) AllReadyH.nil))
                    case hob23_56 => simp only [List.getElem?_toArray, List.getElem?_cons_succ, List.getElem?_cons_zero]; rfl
                    case hob23_57 => simp only [List.getElem?_toArray, List.getElem?_cons_succ, List.getElem?_cons_zero]; rfl
                    case kb23_56 =>
                      go_simp
                      have hb := below_al w44 (.cells #[.int .u32 2] 47)
                      have B45 := B44.trans (hb.mono B44.size)
                      have h_an_45 := h_an_44.below hb
                      have h_ad_45 := h_ad_44.below hb
                      have h_a_45 := h_a_44.later hb
                      have h_bn_45 := h_bn_44.below hb
                      have h_bd_45 := h_bd_44.below hb
                      have h_b_45 := h_b_44.later hb
                      have h_cn_45 := h_cn_44.below hb
                      have h_cd_45 := h_cd_44.below hb
                      have h_c_45 := h_c_44.later hb
                      have h_dn_45 := h_dn_44.below hb
                      have h_dd_45 := h_dd_44.below hb
                      have h_d_45 := h_d_44.later hb
                      have h_xn_45 := h_xn_44.below hb
                      have h_xd_45 := h_xd_44.below hb
                      have h_x_45 := h_x_44.later hb
                      have h_fn_45 := h_fn_44.below hb
                      have h_fd_45 := h_fd_44.below hb
                      have h_f_45 := h_f_44.later hb
                      have h_gn_45 := h_gn_44.below hb
                      have h_gd_45 := h_gd_44.below hb
                      have h_g_45 := h_g_44.later hb
                      have h_l_45 := h_l_44.later hb
                      clear hb B44 h_an_44 h_ad_44 h_a_44 h_bn_44 h_bd_44 h_b_44 h_cn_44 h_cd_44 h_c_44 h_dn_44 h_dd_44 h_d_44 h_xn_44 h_xd_44 h_x_44 h_fn_44 h_fd_44 h_f_44 h_gn_44 h_gd_44 h_g_44 h_l_44
                      have h_u_45 := lit_u1 2 (by decide) w44
                      clear hHeld
                      refine hK.out _ _ ?_ (fun hHeld => ?_)
                      · exact ⟨h_a_45.cell 0 _ rfl, h_a_45.cell 1 _ rfl, h_a_45.cell 2 _ rfl, h_x_45.cell 0 _ rfl, h_x_45.cell 1 _ rfl, h_x_45.cell 2 _ rfl, trivial⟩
                      clear hK K
                      try simp only [Act.put, List.setIfInBounds_toArray, List.set_cons_zero, List.set_cons_succ]
                      generalize (w44.alloc (.cells #[.int .u32 2] 47)) = w45 at *
                      refine wpAnyH_ready (rs := [57]) (by kernel_rfl) (by simp) ?_
                      refine (AllReadyH.cons (o := ?ob24_57) ?hob24_57 (fun K hK => ?kb24_57) AllReadyH.nil)
                      case hob24_57 => simp only [List.getElem?_toArray, List.getElem?_cons_succ, List.getElem?_cons_zero]; rfl
                      case kb24_57 =>
                        go_simp
                        have hb := below_al w45 (.cells #[.int .u32 4] 47)
                        have B46 := B45.trans (hb.mono B45.size)
                        have h_an_46 := h_an_45.below hb
                        have h_ad_46 := h_ad_45.below hb
                        have h_a_46 := h_a_45.later hb
                        have h_bn_46 := h_bn_45.below hb
                        have h_bd_46 := h_bd_45.below hb
                        have h_b_46 := h_b_45.later hb
                        have h_cn_46 := h_cn_45.below hb
                        have h_cd_46 := h_cd_45.below hb
                        have h_c_46 := h_c_45.later hb
                        have h_dn_46 := h_dn_45.below hb
                        have h_dd_46 := h_dd_45.below hb
                        have h_d_46 := h_d_45.later hb
                        have h_xn_46 := h_xn_45.below hb
                        have h_xd_46 := h_xd_45.below hb
                        have h_x_46 := h_x_45.later hb
                        have h_fn_46 := h_fn_45.below hb
                        have h_fd_46 := h_fd_45.below hb
                        have h_f_46 := h_f_45.later hb
                        have h_gn_46 := h_gn_45.below hb
                        have h_gd_46 := h_gd_45.below hb
                        have h_g_46 := h_g_45.later hb
                        have h_l_46 := h_l_45.later hb
                        have h_u_46 := h_u_45.below hb
                        clear hb B45 h_an_45 h_ad_45 h_a_45 h_bn_45 h_bd_45 h_b_45 h_cn_45 h_cd_45 h_c_45 h_dn_45 h_dd_45 h_d_45 h_xn_45 h_xd_45 h_x_45 h_fn_45 h_fd_45 h_f_45 h_gn_45 h_gd_45 h_g_45 h_l_45 h_u_45
                        have h_v_46 := lit_u1 4 (by decide) w45
                        clear hHeld
                        refine hK.out _ _ ?_ (fun hHeld => ?_)
                        · exact ⟨h_a_46.cell 0 _ rfl, h_a_46.cell 1 _ rfl, h_a_46.cell 2 _ rfl, h_x_46.cell 0 _ rfl, h_x_46.cell 1 _ rfl, h_x_46.cell 2 _ rfl, trivial⟩
                        clear hK K
                        try simp only [Act.put, List.setIfInBounds_toArray, List.set_cons_zero, List.set_cons_succ]
                        generalize (w45.alloc (.cells #[.int .u32 4] 47)) = w46 at *
                        refine wpAnyH_take (i := 58) (oi := ?oir25_58) (v := ?vr25_58) ?hir25_58 (by kernel_rfl) (by kernel_rfl) (by kernel_rfl) ?hqr25_58 ?hyr25_58 (by assumption) ?restr25_58
                        case hir25_58 => simp only [List.getElem?_toArray, List.getElem?_cons_succ, List.getElem?_cons_zero]; rfl
                        case hqr25_58 => exact fun _ _ _ h => h
                        case hyr25_58 => (refine Or.inl ⟨by rfl, ?_⟩; intro w hSw; (try dsimp only at hSw); go_simp; all_goals with_reducible rfl)
                        try simp only [Act.put, List.setIfInBounds_toArray, List.set_cons_zero, List.set_cons_succ]
                        refine wpAnyH_ready (rs := [59]) (by kernel_rfl) (by simp) ?_
                        refine AllReadyH.cons (o := ?or26_59) ?hor26_59 (fun K hK => ?kr26_59) AllReadyH.nil
                        case hor26_59 => simp only [List.getElem?_toArray, List.getElem?_cons_succ, List.getElem?_cons_zero]; rfl
                        go_simp
                        have c := ratCheck_any w46 (neg := false) h_u_46 h_v_46
                        rw [rx_chk2] at c
                        refine c.mono ?_
                        rintro e w47 ⟨rfl, hb⟩
                        clear c
                        have B47 := B46.trans (hb.mono B46.size)
                        have h_an_47 := h_an_46.below hb
                        have h_ad_47 := h_ad_46.below hb
                        have h_a_47 := h_a_46.later hb
                        have h_bn_47 := h_bn_46.below hb
                        have h_bd_47 := h_bd_46.below hb
                        have h_b_47 := h_b_46.later hb
                        have h_cn_47 := h_cn_46.below hb
                        have h_cd_47 := h_cd_46.below hb
                        have h_c_47 := h_c_46.later hb
                        have h_dn_47 := h_dn_46.below hb
                        have h_dd_47 := h_dd_46.below hb
                        have h_d_47 := h_d_46.later hb
                        have h_xn_47 := h_xn_46.below hb
                        have h_xd_47 := h_xd_46.below hb
                        have h_x_47 := h_x_46.later hb
                        have h_fn_47 := h_fn_46.below hb
                        have h_fd_47 := h_fd_46.below hb
                        have h_f_47 := h_f_46.later hb
                        have h_gn_47 := h_gn_46.below hb
                        have h_gd_47 := h_gd_46.below hb
                        have h_g_47 := h_g_46.later hb
                        have h_l_47 := h_l_46.later hb
                        have h_u_47 := h_u_46.below hb
                        have h_v_47 := h_v_46.below hb
                        clear hb B46 h_an_46 h_ad_46 h_a_46 h_bn_46 h_bd_46 h_b_46 h_cn_46 h_cd_46 h_c_46 h_dn_46 h_dd_46 h_d_46 h_xn_46 h_xd_46 h_x_46 h_fn_46 h_fd_46 h_f_46 h_gn_46 h_gd_46 h_g_46 h_l_46 h_u_46 h_v_46
                        go_wp2_with fail
                        clear hHeld
                        refine hK.out _ _ ?_ (fun hHeld => ?_)
                        · exact ⟨h_a_47.cell 0 _ rfl, h_a_47.cell 1 _ rfl, h_a_47.cell 2 _ rfl, h_x_47.cell 0 _ rfl, h_x_47.cell 1 _ rfl, h_x_47.cell 2 _ rfl, trivial⟩
                        clear hK K
                        try simp only [Act.put, List.setIfInBounds_toArray, List.set_cons_zero, List.set_cons_succ]
                        refine wpAnyH_take (i := 60) (oi := ?oir27_60) (v := ?vr27_60) ?hir27_60 (by kernel_rfl) (by kernel_rfl) (by kernel_rfl) ?hqr27_60 ?hyr27_60 (by assumption) ?restr27_60
                        case hir27_60 => simp only [List.getElem?_toArray, List.getElem?_cons_succ, List.getElem?_cons_zero]; rfl
                        case hqr27_60 => exact fun _ _ _ h => h
                        case hyr27_60 => (refine Or.inl ⟨by rfl, ?_⟩; intro w hSw; (try dsimp only at hSw); go_simp; all_goals with_reducible rfl)
                        try simp only [Act.put, List.setIfInBounds_toArray, List.set_cons_zero, List.set_cons_succ]
                        refine wpAnyH_take (i := 61) (oi := ?oir27_61) (v := ?vr27_61) ?hir27_61 (by kernel_rfl) (by kernel_rfl) (by kernel_rfl) ?hqr27_61 ?hyr27_61 (by assumption) ?restr27_61
                        case hir27_61 => simp only [List.getElem?_toArray, List.getElem?_cons_succ, List.getElem?_cons_zero]; rfl
                        case hqr27_61 => exact fun _ _ _ h => h
                        case hyr27_61 => (refine Or.inl ⟨by rfl, ?_⟩; intro w hSw; (try dsimp only at hSw); go_simp; all_goals with_reducible rfl)
                        try simp only [Act.put, List.setIfInBounds_toArray, List.set_cons_zero, List.set_cons_succ]
                        refine wpAnyH_take (i := 62) (oi := ?oir27_62) (v := ?vr27_62) ?hir27_62 (by kernel_rfl) (by kernel_rfl) (by kernel_rfl) ?hqr27_62 ?hyr27_62 (by assumption) ?restr27_62
                        case hir27_62 => simp only [List.getElem?_toArray, List.getElem?_cons_succ, List.getElem?_cons_zero]; rfl
                        case hqr27_62 => exact fun _ _ _ h => h
                        case hyr27_62 => (refine Or.inl ⟨by rfl, ?_⟩; intro w hSw; (try dsimp only at hSw); go_simp; all_goals with_reducible rfl)
                        try simp only [Act.put, List.setIfInBounds_toArray, List.set_cons_zero, List.set_cons_succ]
                        refine wpAnyH_ready (rs := [63]) (by kernel_rfl) (by simp) ?_
                        refine (AllReadyH.cons (o := ?ob28_63) ?hob28_63 (fun K hK => ?kb28_63) AllReadyH.nil)
                        case hob28_63 => simp only [List.getElem?_toArray, List.getElem?_cons_succ, List.getElem?_cons_zero]; rfl
                        case kb28_63 =>
                          go_simp
                          have hb := below_al w47 (.cells #[.int .u32 1] 47)
                          have B48 := B47.trans (hb.mono B47.size)
                          have h_an_48 := h_an_47.below hb
                          have h_ad_48 := h_ad_47.below hb
                          have h_a_48 := h_a_47.later hb
                          have h_bn_48 := h_bn_47.below hb
                          have h_bd_48 := h_bd_47.below hb
                          have h_b_48 := h_b_47.later hb
                          have h_cn_48 := h_cn_47.below hb
                          have h_cd_48 := h_cd_47.below hb
                          have h_c_48 := h_c_47.later hb
                          have h_dn_48 := h_dn_47.below hb
                          have h_dd_48 := h_dd_47.below hb
                          have h_d_48 := h_d_47.later hb
                          have h_xn_48 := h_xn_47.below hb
                          have h_xd_48 := h_xd_47.below hb
                          have h_x_48 := h_x_47.later hb
                          have h_fn_48 := h_fn_47.below hb
                          have h_fd_48 := h_fd_47.below hb
                          have h_f_48 := h_f_47.later hb
                          have h_gn_48 := h_gn_47.below hb
                          have h_gd_48 := h_gd_47.below hb
                          have h_g_48 := h_g_47.later hb
                          have h_l_48 := h_l_47.later hb
                          have h_u_48 := h_u_47.below hb
                          have h_v_48 := h_v_47.below hb
                          clear hb B47 h_an_47 h_ad_47 h_a_47 h_bn_47 h_bd_47 h_b_47 h_cn_47 h_cd_47 h_c_47 h_dn_47 h_dd_47 h_d_47 h_xn_47 h_xd_47 h_x_47 h_fn_47 h_fd_47 h_f_47 h_gn_47 h_gd_47 h_g_47 h_l_47 h_u_47 h_v_47
                          have h_t_48 := lit_u1 1 (by decide) w47
                          clear hHeld
                          refine hK.out _ _ ?_ (fun hHeld => ?_)
                          · exact ⟨h_a_48.cell 0 _ rfl, h_a_48.cell 1 _ rfl, h_a_48.cell 2 _ rfl, h_x_48.cell 0 _ rfl, h_x_48.cell 1 _ rfl, h_x_48.cell 2 _ rfl, trivial⟩
                          clear hK K
                          try simp only [Act.put, List.setIfInBounds_toArray, List.set_cons_zero, List.set_cons_succ]
                          generalize (w47.alloc (.cells #[.int .u32 1] 47)) = w48 at *
                          refine wpAnyH_take (i := 64) (oi := ?oir29_64) (v := ?vr29_64) ?hir29_64 (by kernel_rfl) (by kernel_rfl) (by kernel_rfl) ?hqr29_64 ?hyr29_64 (by assumption) ?restr29_64
                          case hir29_64 => simp only [List.getElem?_toArray, List.getElem?_cons_succ, List.getElem?_cons_zero]; rfl
                          case hqr29_64 => exact fun _ _ _ h => h
                          case hyr29_64 => (refine Or.inl ⟨by rfl, ?_⟩; intro w hSw; (try dsimp only at hSw); go_simp; all_goals with_reducible rfl)
                          try simp only [Act.put, List.setIfInBounds_toArray, List.set_cons_zero, List.set_cons_succ]
                          refine wpAnyH_ready (rs := [65]) (by kernel_rfl) (by simp) ?_
                          refine AllReadyH.cons (o := ?or30_65) ?hor30_65 (fun K hK => ?kr30_65) AllReadyH.nil
                          case hor30_65 => simp only [List.getElem?_toArray, List.getElem?_cons_succ, List.getElem?_cons_zero]; rfl
                          go_simp
                          have c := ratCheck_any w48 (neg := true) (Rd.nil .u32 w48) h_t_48
                          rw [rx_chk3] at c
                          refine c.mono ?_
                          rintro e w49 ⟨rfl, hb⟩
                          clear c
                          have B49 := B48.trans (hb.mono B48.size)
                          have h_an_49 := h_an_48.below hb
                          have h_ad_49 := h_ad_48.below hb
                          have h_a_49 := h_a_48.later hb
                          have h_bn_49 := h_bn_48.below hb
                          have h_bd_49 := h_bd_48.below hb
                          have h_b_49 := h_b_48.later hb
                          have h_cn_49 := h_cn_48.below hb
                          have h_cd_49 := h_cd_48.below hb
                          have h_c_49 := h_c_48.later hb
                          have h_dn_49 := h_dn_48.below hb
                          have h_dd_49 := h_dd_48.below hb
                          have h_d_49 := h_d_48.later hb
                          have h_xn_49 := h_xn_48.below hb
                          have h_xd_49 := h_xd_48.below hb
                          have h_x_49 := h_x_48.later hb
                          have h_fn_49 := h_fn_48.below hb
                          have h_fd_49 := h_fd_48.below hb
                          have h_f_49 := h_f_48.later hb
                          have h_gn_49 := h_gn_48.below hb
                          have h_gd_49 := h_gd_48.below hb
                          have h_g_49 := h_g_48.later hb
                          have h_l_49 := h_l_48.later hb
                          have h_u_49 := h_u_48.below hb
                          have h_v_49 := h_v_48.below hb
                          have h_t_49 := h_t_48.below hb
                          clear hb B48 h_an_48 h_ad_48 h_a_48 h_bn_48 h_bd_48 h_b_48 h_cn_48 h_cd_48 h_c_48 h_dn_48 h_dd_48 h_d_48 h_xn_48 h_xd_48 h_x_48 h_fn_48 h_fd_48 h_f_48 h_gn_48 h_gd_48 h_g_48 h_l_48 h_u_48 h_v_48 h_t_48
                          go_wp2_with fail
                          clear hHeld
                          refine hK.out _ _ ?_ (fun hHeld => ?_)
                          · exact ⟨h_a_49.cell 0 _ rfl, h_a_49.cell 1 _ rfl, h_a_49.cell 2 _ rfl, h_x_49.cell 0 _ rfl, h_x_49.cell 1 _ rfl, h_x_49.cell 2 _ rfl, trivial⟩
                          clear hK K
                          try simp only [Act.put, List.setIfInBounds_toArray, List.set_cons_zero, List.set_cons_succ]
                          refine wpAnyH_take (i := 66) (oi := ?oir31_66) (v := ?vr31_66) ?hir31_66 (by kernel_rfl) (by kernel_rfl) (by kernel_rfl) ?hqr31_66 ?hyr31_66 (by assumption) ?restr31_66
                          case hir31_66 => simp only [List.getElem?_toArray, List.getElem?_cons_succ, List.getElem?_cons_zero]; rfl
                          case hqr31_66 => exact fun _ _ _ h => h
                          case hyr31_66 => (refine Or.inl ⟨by rfl, ?_⟩; intro w hSw; (try dsimp only at hSw); go_simp; all_goals with_reducible rfl)
                          try simp only [Act.put, List.setIfInBounds_toArray, List.set_cons_zero, List.set_cons_succ]
                          refine wpAnyH_take (i := 67) (oi := ?oir31_67) (v := ?vr31_67) ?hir31_67 (by kernel_rfl) (by kernel_rfl) (by kernel_rfl) ?hqr31_67 ?hyr31_67 (by assumption) ?restr31_67
                          case hir31_67 => simp only [List.getElem?_toArray, List.getElem?_cons_succ, List.getElem?_cons_zero]; rfl
                          case hqr31_67 => exact fun _ _ _ h => h
                          case hyr31_67 => (refine Or.inl ⟨by rfl, ?_⟩; intro w hSw; (try dsimp only at hSw); go_simp; all_goals with_reducible rfl)
                          try simp only [Act.put, List.setIfInBounds_toArray, List.set_cons_zero, List.set_cons_succ]
                          refine wpAnyH_take (i := 68) (oi := ?oir31_68) (v := ?vr31_68) ?hir31_68 (by kernel_rfl) (by kernel_rfl) (by kernel_rfl) ?hqr31_68 ?hyr31_68 (by assumption) ?restr31_68
                          case hir31_68 => simp only [List.getElem?_toArray, List.getElem?_cons_succ, List.getElem?_cons_zero]; rfl
                          case hqr31_68 => exact fun _ _ _ h => h
                          case hyr31_68 => (refine Or.inl ⟨by rfl, ?_⟩; intro w hSw; (try dsimp only at hSw); go_simp; all_goals with_reducible rfl)
                          try simp only [Act.put, List.setIfInBounds_toArray, List.set_cons_zero, List.set_cons_succ]
                          refine wpAnyH_done (by kernel_rfl) ?_ _
                          clear hHeld
                          go_wp2_with fail
                          go_ret
                          exact ⟨rfl, B49⟩
                    case kb23_57 =>
                      go_simp
                      have hb := below_al w44 (.cells #[.int .u32 4] 47)
                      have B45 := B44.trans (hb.mono B44.size)
                      have h_an_45 := h_an_44.below hb
                      have h_ad_45 := h_ad_44.below hb
                      have h_a_45 := h_a_44.later hb
                      have h_bn_45 := h_bn_44.below hb
                      have h_bd_45 := h_bd_44.below hb
                      have h_b_45 := h_b_44.later hb
                      have h_cn_45 := h_cn_44.below hb
                      have h_cd_45 := h_cd_44.below hb
                      have h_c_45 := h_c_44.later hb
                      have h_dn_45 := h_dn_44.below hb
                      have h_dd_45 := h_dd_44.below hb
                      have h_d_45 := h_d_44.later hb
                      have h_xn_45 := h_xn_44.below hb
                      have h_xd_45 := h_xd_44.below hb
                      have h_x_45 := h_x_44.later hb
                      have h_fn_45 := h_fn_44.below hb
                      have h_fd_45 := h_fd_44.below hb
                      have h_f_45 := h_f_44.later hb
                      have h_gn_45 := h_gn_44.below hb
                      have h_gd_45 := h_gd_44.below hb
                      have h_g_45 := h_g_44.later hb
                      have h_l_45 := h_l_44.later hb
                      clear hb B44 h_an_44 h_ad_44 h_a_44 h_bn_44 h_bd_44 h_b_44 h_cn_44 h_cd_44 h_c_44 h_dn_44 h_dd_44 h_d_44 h_xn_44 h_xd_44 h_x_44 h_fn_44 h_fd_44 h_f_44 h_gn_44 h_gd_44 h_g_44 h_l_44
                      have h_v_45 := lit_u1 4 (by decide) w44
                      clear hHeld
                      refine hK.out _ _ ?_ (fun hHeld => ?_)
                      · exact ⟨h_a_45.cell 0 _ rfl, h_a_45.cell 1 _ rfl, h_a_45.cell 2 _ rfl, h_x_45.cell 0 _ rfl, h_x_45.cell 1 _ rfl, h_x_45.cell 2 _ rfl, trivial⟩
                      clear hK K
                      try simp only [Act.put, List.setIfInBounds_toArray, List.set_cons_zero, List.set_cons_succ]
                      generalize (w44.alloc (.cells #[.int .u32 4] 47)) = w45 at *
                      refine wpAnyH_ready (rs := [56]) (by kernel_rfl) (by simp) ?_
                      refine (AllReadyH.cons (o := ?ob32_56) ?hob32_56 (fun K hK => ?kb32_56) AllReadyH.nil)
                      case hob32_56 => simp only [List.getElem?_toArray, List.getElem?_cons_succ, List.getElem?_cons_zero]; rfl
                      case kb32_56 =>
                        go_simp
                        have hb := below_al w45 (.cells #[.int .u32 2] 47)
                        have B46 := B45.trans (hb.mono B45.size)
                        have h_an_46 := h_an_45.below hb
                        have h_ad_46 := h_ad_45.below hb
                        have h_a_46 := h_a_45.later hb
                        have h_bn_46 := h_bn_45.below hb
                        have h_bd_46 := h_bd_45.below hb
                        have h_b_46 := h_b_45.later hb
                        have h_cn_46 := h_cn_45.below hb
                        have h_cd_46 := h_cd_45.below hb
                        have h_c_46 := h_c_45.later hb
                        have h_dn_46 := h_dn_45.below hb
                        have h_dd_46 := h_dd_45.below hb
                        have h_d_46 := h_d_45.later hb
                        have h_xn_46 := h_xn_45.below hb
                        have h_xd_46 := h_xd_45.below hb
                        have h_x_46 := h_x_45.later hb
                        have h_fn_46 := h_fn_45.below hb
                        have h_fd_46 := h_fd_45.below hb
                        have h_f_46 := h_f_45.later hb
                        have h_gn_46 := h_gn_45.below hb
                        have h_gd_46 := h_gd_45.below hb
                        have h_g_46 := h_g_45.later hb
                        have h_l_46 := h_l_45.later hb
                        have h_v_46 := h_v_45.below hb
                        clear hb B45 h_an_45 h_ad_45 h_a_45 h_bn_45 h_bd_45 h_b_45 h_cn_45 h_cd_45 h_c_45 h_dn_45 h_dd_45 h_d_45 h_xn_45 h_xd_45 h_x_45 h_fn_45 h_fd_45 h_f_45 h_gn_45 h_gd_45 h_g_45 h_l_45 h_v_45
                        have h_u_46 := lit_u1 2 (by decide) w45
                        clear hHeld
                        refine hK.out _ _ ?_ (fun hHeld => ?_)
                        · exact ⟨h_a_46.cell 0 _ rfl, h_a_46.cell 1 _ rfl, h_a_46.cell 2 _ rfl, h_x_46.cell 0 _ rfl, h_x_46.cell 1 _ rfl, h_x_46.cell 2 _ rfl, trivial⟩
                        clear hK K
                        try simp only [Act.put, List.setIfInBounds_toArray, List.set_cons_zero, List.set_cons_succ]
                        generalize (w45.alloc (.cells #[.int .u32 2] 47)) = w46 at *
                        refine wpAnyH_take (i := 58) (oi := ?oir33_58) (v := ?vr33_58) ?hir33_58 (by kernel_rfl) (by kernel_rfl) (by kernel_rfl) ?hqr33_58 ?hyr33_58 (by assumption) ?restr33_58
                        case hir33_58 => simp only [List.getElem?_toArray, List.getElem?_cons_succ, List.getElem?_cons_zero]; rfl
                        case hqr33_58 => exact fun _ _ _ h => h
                        case hyr33_58 => (refine Or.inl ⟨by rfl, ?_⟩; intro w hSw; (try dsimp only at hSw); go_simp; all_goals with_reducible rfl)
                        try simp only [Act.put, List.setIfInBounds_toArray, List.set_cons_zero, List.set_cons_succ]
                        refine wpAnyH_ready (rs := [59]) (by kernel_rfl) (by simp) ?_
                        refine AllReadyH.cons (o := ?or34_59) ?hor34_59 (fun K hK => ?kr34_59) AllReadyH.nil
                        case hor34_59 => simp only [List.getElem?_toArray, List.getElem?_cons_succ, List.getElem?_cons_zero]; rfl
                        go_simp
                        have c := ratCheck_any w46 (neg := false) h_u_46 h_v_46
                        rw [rx_chk2] at c
                        refine c.mono ?_
                        rintro e w47 ⟨rfl, hb⟩
                        clear c
                        have B47 := B46.trans (hb.mono B46.size)
                        have h_an_47 := h_an_46.below hb
                        have h_ad_47 := h_ad_46.below hb
                        have h_a_47 := h_a_46.later hb
                        have h_bn_47 := h_bn_46.below hb
                        have h_bd_47 := h_bd_46.below hb
                        have h_b_47 := h_b_46.later hb
                        have h_cn_47 := h_cn_46.below hb
                        have h_cd_47 := h_cd_46.below hb
                        have h_c_47 := h_c_46.later hb
                        have h_dn_47 := h_dn_46.below hb
                        have h_dd_47 := h_dd_46.below hb
                        have h_d_47 := h_d_46.later hb
                        have h_xn_47 := h_xn_46.below hb
                        have h_xd_47 := h_xd_46.below hb
                        have h_x_47 := h_x_46.later hb
                        have h_fn_47 := h_fn_46.below hb
                        have h_fd_47 := h_fd_46.below hb
                        have h_f_47 := h_f_46.later hb
                        have h_gn_47 := h_gn_46.below hb
                        have h_gd_47 := h_gd_46.below hb
                        have h_g_47 := h_g_46.later hb
                        have h_l_47 := h_l_46.later hb
                        have h_v_47 := h_v_46.below hb
                        have h_u_47 := h_u_46.below hb
                        clear hb B46 h_an_46 h_ad_46 h_a_46 h_bn_46 h_bd_46 h_b_46 h_cn_46 h_cd_46 h_c_46 h_dn_46 h_dd_46 h_d_46 h_xn_46 h_xd_46 h_x_46 h_fn_46 h_fd_46 h_f_46 h_gn_46 h_gd_46 h_g_46 h_l_46 h_v_46 h_u_46
                        go_wp2_with fail
                        clear hHeld
                        refine hK.out _ _ ?_ (fun hHeld => ?_)
                        · exact ⟨h_a_47.cell 0 _ rfl, h_a_47.cell 1 _ rfl, h_a_47.cell 2 _ rfl, h_x_47.cell 0 _ rfl, h_x_47.cell 1 _ rfl, h_x_47.cell 2 _ rfl, trivial⟩
                        clear hK K
                        try simp only [Act.put, List.setIfInBounds_toArray, List.set_cons_zero, List.set_cons_succ]
                        refine wpAnyH_take (i := 60) (oi := ?oir35_60) (v := ?vr35_60) ?hir35_60 (by kernel_rfl) (by kernel_rfl) (by kernel_rfl) ?hqr35_60 ?hyr35_60 (by assumption) ?restr35_60
                        case hir35_60 => simp only [List.getElem?_toArray, List.getElem?_cons_succ, List.getElem?_cons_zero]; rfl
                        case hqr35_60 => exact fun _ _ _ h => h
                        case hyr35_60 => (refine Or.inl ⟨by rfl, ?_⟩; intro w hSw; (try dsimp only at hSw); go_simp; all_goals with_reducible rfl)
                        try simp only [Act.put, List.setIfInBounds_toArray, List.set_cons_zero, List.set_cons_succ]
                        refine wpAnyH_take (i := 61) (oi := ?oir35_61) (v := ?vr35_61) ?hir35_61 (by kernel_rfl) (by kernel_rfl) (by kernel_rfl) ?hqr35_61 ?hyr35_61 (by assumption) ?restr35_61
                        case hir35_61 => simp only [List.getElem?_toArray, List.getElem?_cons_succ, List.getElem?_cons_zero]; rfl
                        case hqr35_61 => exact fun _ _ _ h => h
                        case hyr35_61 => (refine Or.inl ⟨by rfl, ?_⟩; intro w hSw; (try dsimp only at hSw); go_simp; all_goals with_reducible rfl)
                        try simp only [Act.put, List.setIfInBounds_toArray, List.set_cons_zero, List.set_cons_succ]
                        refine wpAnyH_take (i := 62) (oi := ?oir35_62) (v := ?vr35_62) ?hir35_62 (by kernel_rfl) (by kernel_rfl) (by kernel_rfl) ?hqr35_62 ?hyr35_62 (by assumption) ?restr35_62
                        case hir35_62 => simp only [List.getElem?_toArray, List.getElem?_cons_succ, List.getElem?_cons_zero]; rfl
                        case hqr35_62 => exact fun _ _ _ h => h
                        case hyr35_62 => (refine Or.inl ⟨by rfl, ?_⟩; intro w hSw; (try dsimp only at hSw); go_simp; all_goals with_reducible rfl)
                        try simp only [Act.put, List.setIfInBounds_toArray, List.set_cons_zero, List.set_cons_succ]
                        refine wpAnyH_ready (rs := [63]) (by kernel_rfl) (by simp) ?_
                        refine (AllReadyH.cons (o := ?ob36_63) ?hob36_63 (fun K hK => ?kb36_63) AllReadyH.nil)
                        case hob36_63 => simp only [List.getElem?_toArray, List.getElem?_cons_succ, List.getElem?_cons_zero]; rfl
                        case kb36_63 =>
                          go_simp
                          have hb := below_al w47 (.cells #[.int .u32 1] 47)
                          have B48 := B47.trans (hb.mono B47.size)
                          have h_an_48 := h_an_47.below hb
                          have h_ad_48 := h_ad_47.below hb
                          have h_a_48 := h_a_47.later hb
                          have h_bn_48 := h_bn_47.below hb
                          have h_bd_48 := h_bd_47.below hb
                          have h_b_48 := h_b_47.later hb
                          have h_cn_48 := h_cn_47.below hb
                          have h_cd_48 := h_cd_47.below hb
                          have h_c_48 := h_c_47.later hb
                          have h_dn_48 := h_dn_47.below hb
                          have h_dd_48 := h_dd_47.below hb
                          have h_d_48 := h_d_47.later hb
                          have h_xn_48 := h_xn_47.below hb
                          have h_xd_48 := h_xd_47.below hb
                          have h_x_48 := h_x_47.later hb
                          have h_fn_48 := h_fn_47.below hb
                          have h_fd_48 := h_fd_47.below hb
                          have h_f_48 := h_f_47.later hb
                          have h_gn_48 := h_gn_47.below hb
                          have h_gd_48 := h_gd_47.below hb
                          have h_g_48 := h_g_47.later hb
                          have h_l_48 := h_l_47.later hb
                          have h_v_48 := h_v_47.below hb
                          have h_u_48 := h_u_47.below hb
                          clear hb B47 h_an_47 h_ad_47 h_a_47 h_bn_47 h_bd_47 h_b_47 h_cn_47 h_cd_47 h_c_47 h_dn_47 h_dd_47 h_d_47 h_xn_47 h_xd_47 h_x_47 h_fn_47 h_fd_47 h_f_47 h_gn_47 h_gd_47 h_g_47 h_l_47 h_v_47 h_u_47
                          have h_t_48 := lit_u1 1 (by decide) w47
                          clear hHeld
                          refine hK.out _ _ ?_ (fun hHeld => ?_)
                          · exact ⟨h_a_48.cell 0 _ rfl, h_a_48.cell 1 _ rfl, h_a_48.cell 2 _ rfl, h_x_48.cell 0 _ rfl, h_x_48.cell 1 _ rfl, h_x_48.cell 2 _ rfl, trivial⟩
                          clear hK K
                          try simp only [Act.put, List.setIfInBounds_toArray, List.set_cons_zero, List.set_cons_succ]
                          generalize (w47.alloc (.cells #[.int .u32 1] 47)) = w48 at *
                          refine wpAnyH_take (i := 64) (oi := ?oir37_64) (v := ?vr37_64) ?hir37_64 (by kernel_rfl) (by kernel_rfl) (by kernel_rfl) ?hqr37_64 ?hyr37_64 (by assumption) ?restr37_64
                          case hir37_64 => simp only [List.getElem?_toArray, List.getElem?_cons_succ, List.getElem?_cons_zero]; rfl
                          case hqr37_64 => exact fun _ _ _ h => h
                          case hyr37_64 => (refine Or.inl ⟨by rfl, ?_⟩; intro w hSw; (try dsimp only at hSw); go_simp; all_goals with_reducible rfl)
                          try simp only [Act.put, List.setIfInBounds_toArray, List.set_cons_zero, List.set_cons_succ]
                          refine wpAnyH_ready (rs := [65]) (by kernel_rfl) (by simp) ?_
                          refine AllReadyH.cons (o := ?or38_65) ?hor38_65 (fun K hK => ?kr38_65) AllReadyH.nil
                          case hor38_65 => simp only [List.getElem?_toArray, List.getElem?_cons_succ, List.getElem?_cons_zero]; rfl
                          go_simp
                          have c := ratCheck_any w48 (neg := true) (Rd.nil .u32 w48) h_t_48
                          rw [rx_chk3] at c
                          refine c.mono ?_
                          rintro e w49 ⟨rfl, hb⟩
                          clear c
                          have B49 := B48.trans (hb.mono B48.size)
                          have h_an_49 := h_an_48.below hb
                          have h_ad_49 := h_ad_48.below hb
                          have h_a_49 := h_a_48.later hb
                          have h_bn_49 := h_bn_48.below hb
                          have h_bd_49 := h_bd_48.below hb
                          have h_b_49 := h_b_48.later hb
                          have h_cn_49 := h_cn_48.below hb
                          have h_cd_49 := h_cd_48.below hb
                          have h_c_49 := h_c_48.later hb
                          have h_dn_49 := h_dn_48.below hb
                          have h_dd_49 := h_dd_48.below hb
                          have h_d_49 := h_d_48.later hb
                          have h_xn_49 := h_xn_48.below hb
                          have h_xd_49 := h_xd_48.below hb
                          have h_x_49 := h_x_48.later hb
                          have h_fn_49 := h_fn_48.below hb
                          have h_fd_49 := h_fd_48.below hb
                          have h_f_49 := h_f_48.later hb
                          have h_gn_49 := h_gn_48.below hb
                          have h_gd_49 := h_gd_48.below hb
                          have h_g_49 := h_g_48.later hb
                          have h_l_49 := h_l_48.later hb
                          have h_v_49 := h_v_48.below hb
                          have h_u_49 := h_u_48.below hb
                          have h_t_49 := h_t_48.below hb
                          clear hb B48 h_an_48 h_ad_48 h_a_48 h_bn_48 h_bd_48 h_b_48 h_cn_48 h_cd_48 h_c_48 h_dn_48 h_dd_48 h_d_48 h_xn_48 h_xd_48 h_x_48 h_fn_48 h_fd_48 h_f_48 h_gn_48 h_gd_48 h_g_48 h_l_48 h_v_48 h_u_48 h_t_48
                          go_wp2_with fail
                          clear hHeld
                          refine hK.out _ _ ?_ (fun hHeld => ?_)
                          · exact ⟨h_a_49.cell 0 _ rfl, h_a_49.cell 1 _ rfl, h_a_49.cell 2 _ rfl, h_x_49.cell 0 _ rfl, h_x_49.cell 1 _ rfl, h_x_49.cell 2 _ rfl, trivial⟩
                          clear hK K
                          try simp only [Act.put, List.setIfInBounds_toArray, List.set_cons_zero, List.set_cons_succ]
                          refine wpAnyH_take (i := 66) (oi := ?oir39_66) (v := ?vr39_66) ?hir39_66 (by kernel_rfl) (by kernel_rfl) (by kernel_rfl) ?hqr39_66 ?hyr39_66 (by assumption) ?restr39_66
                          case hir39_66 => simp only [List.getElem?_toArray, List.getElem?_cons_succ, List.getElem?_cons_zero]; rfl
                          case hqr39_66 => exact fun _ _ _ h => h
                          case hyr39_66 => (refine Or.inl ⟨by rfl, ?_⟩; intro w hSw; (try dsimp only at hSw); go_simp; all_goals with_reducible rfl)
                          try simp only [Act.put, List.setIfInBounds_toArray, List.set_cons_zero, List.set_cons_succ]
                          refine wpAnyH_take (i := 67) (oi := ?oir39_67) (v := ?vr39_67) ?hir39_67 (by kernel_rfl) (by kernel_rfl) (by kernel_rfl) ?hqr39_67 ?hyr39_67 (by assumption) ?restr39_67
                          case hir39_67 => simp only [List.getElem?_toArray, List.getElem?_cons_succ, List.getElem?_cons_zero]; rfl
                          case hqr39_67 => exact fun _ _ _ h => h
                          case hyr39_67 => (refine Or.inl ⟨by rfl, ?_⟩; intro w hSw; (try dsimp only at hSw); go_simp; all_goals with_reducible rfl)
                          try simp only [Act.put, List.setIfInBounds_toArray, List.set_cons_zero, List.set_cons_succ]
                          refine wpAnyH_take (i := 68) (oi := ?oir39_68) (v := ?vr39_68) ?hir39_68 (by kernel_rfl) (by kernel_rfl) (by kernel_rfl) ?hqr39_68 ?hyr39_68 (by assumption) ?restr39_68
                          case hir39_68 => simp only [List.getElem?_toArray, List.getElem?_cons_succ, List.getElem?_cons_zero]; rfl
                          case hqr39_68 => exact fun _ _ _ h => h
                          case hyr39_68 => (refine Or.inl ⟨by rfl, ?_⟩; intro w hSw; (try dsimp only at hSw); go_simp; all_goals with_reducible rfl)
                          try simp only [Act.put, List.setIfInBounds_toArray, List.set_cons_zero, List.set_cons_succ]
                          refine wpAnyH_done (by kernel_rfl) ?_ _
                          clear hHeld
                          go_wp2_with fail
                          go_ret
                          exact ⟨rfl, B49⟩
    case pos =>
      have LR := HL.out _ BR
      clear HL h_an_32 h_ad_32 h_a_32 h_bn_32 h_bd_32 h_b_32 h_cn_32 h_cd_32 h_c_32 h_dn_32 h_dd_32 h_d_32 h_xn_32 h_xd_32 h_x_32 h_fn_32 h_fd_32 h_f_32 h_gn_32 h_gd_32 h_g_32 h_l_32
      have sv : k = 0 ∨ k = 1 ∨ k = 2 ∨ k = 3 ∨ k = 4 ∨ k = 5 ∨ k = 6 := by omega
      clear hlt hk
      rcases sv with rfl | rfl | rfl | rfl | rfl | rfl | rfl
      · have k0 := LR.cell 0 _ rfl
        clear LR
        go_wp2_with fail
        have c := ratRead_any wr [50, 47, 52] (by decide) (by decide)
        rw [rx_r0] at c
        refine c.mono ?_
        rintro e wq ⟨a0, n0, c0, b0, m0, d0, rfl, -, -, hb⟩
        clear c k0
        have BR := BR.trans (hb.mono BR.size)
        have BR := BR.trans ((below_al wq (.cells #[.bool (zeroV).neg, .slice a0 n0 c0, .slice b0 m0 d0] 24)).mono BR.size)
        clear hb
        go_wp2_with (refine wpList_store_new rfl 24 _ _ rfl atRat _ _ _ rfl rfl rfl rfl (rat_one _ _ _ _ _ _ _) ?_)
        go_roundw
        case rel => exact ⟨1, by decide, by go_num, BR⟩
        case measure => simp [intOf]
      · have k0 := LR.cell 1 _ rfl
        clear LR
        go_wp2_with fail
        have c := ratRead_any wr [51, 47, 49] (by decide) (by decide)
        rw [rx_r1] at c
        refine c.mono ?_
        rintro e wq ⟨a0, n0, c0, b0, m0, d0, rfl, -, -, hb⟩
        clear c k0
        have BR := BR.trans (hb.mono BR.size)
        have BR := BR.trans ((below_al wq (.cells #[.bool (zeroV).neg, .slice a0 n0 c0, .slice b0 m0 d0] 24)).mono BR.size)
        clear hb
        go_wp2_with (refine wpList_store_new rfl 24 _ _ rfl atRat _ _ _ rfl rfl rfl rfl (rat_one _ _ _ _ _ _ _) ?_)
        go_roundw
        case rel => exact ⟨2, by decide, by go_num, BR⟩
        case measure => simp [intOf]
      · have k0 := LR.cell 2 _ rfl
        clear LR
        go_wp2_with fail
        have c := ratRead_any wr [45, 48] (by decide) (by decide)
        rw [rx_r2] at c
        refine c.mono ?_
        rintro e wq ⟨a0, n0, c0, b0, m0, d0, rfl, -, -, hb⟩
        clear c k0
        have BR := BR.trans (hb.mono BR.size)
        have BR := BR.trans ((below_al wq (.cells #[.bool (zeroV).neg, .slice a0 n0 c0, .slice b0 m0 d0] 24)).mono BR.size)
        clear hb
        go_wp2_with (refine wpList_store_new rfl 24 _ _ rfl atRat _ _ _ rfl rfl rfl rfl (rat_one _ _ _ _ _ _ _) ?_)
        go_roundw
        case rel => exact ⟨3, by decide, by go_num, BR⟩
        case measure => simp [intOf]
      · have k0 := LR.cell 3 _ rfl
        clear LR
        go_wp2_with fail
        have c := ratRead_any wr [49, 47, 48] (by decide) (by decide)
        rw [rx_r3] at c
        refine c.mono ?_
        rintro e wq ⟨a0, n0, c0, b0, m0, d0, rfl, -, -, hb⟩
        clear c k0
        have BR := BR.trans (hb.mono BR.size)
        have BR := BR.trans ((below_al wq (.cells #[.bool (zeroV).neg, .slice a0 n0 c0, .slice b0 m0 d0] 24)).mono BR.size)
        clear hb
        go_wp2_with (refine wpList_store_new rfl 24 _ _ rfl atRat _ _ _ rfl rfl rfl rfl (rat_one _ _ _ _ _ _ _) ?_)
        go_roundw
        case rel => exact ⟨4, by decide, by go_num, BR⟩
        case measure => simp [intOf]
      · have k0 := LR.cell 4 _ rfl
        clear LR
        go_wp2_with fail
        have c := ratRead_any wr [] (by decide) (by decide)
        rw [rx_r4] at c
        refine c.mono ?_
        rintro e wq ⟨a0, n0, c0, b0, m0, d0, rfl, -, -, hb⟩
        clear c k0
        have BR := BR.trans (hb.mono BR.size)
        have BR := BR.trans ((below_al wq (.cells #[.bool (zeroV).neg, .slice a0 n0 c0, .slice b0 m0 d0] 24)).mono BR.size)
        clear hb
        go_wp2_with (refine wpList_store_new rfl 24 _ _ rfl atRat _ _ _ rfl rfl rfl rfl (rat_one _ _ _ _ _ _ _) ?_)
        go_roundw
        case rel => exact ⟨5, by decide, by go_num, BR⟩
        case measure => simp [intOf]
      · have k0 := LR.cell 5 _ rfl
        clear LR
        go_wp2_with fail
        have c := ratRead_any wr [47] (by decide) (by decide)
        rw [rx_r5] at c
        refine c.mono ?_
        rintro e wq ⟨a0, n0, c0, b0, m0, d0, rfl, -, -, hb⟩
        clear c k0
        have BR := BR.trans (hb.mono BR.size)
        have BR := BR.trans ((below_al wq (.cells #[.bool (zeroV).neg, .slice a0 n0 c0, .slice b0 m0 d0] 24)).mono BR.size)
        clear hb
        go_wp2_with (refine wpList_store_new rfl 24 _ _ rfl atRat _ _ _ rfl rfl rfl rfl (rat_one _ _ _ _ _ _ _) ?_)
        go_roundw
        case rel => exact ⟨6, by decide, by go_num, BR⟩
        case measure => simp [intOf]
      · have k0 := LR.cell 6 _ rfl
        clear LR
        go_wp2_with fail
        have c := ratRead_any wr [49, 47, 45, 50] (by decide) (by decide)
        rw [rx_r6] at c
        refine c.mono ?_
        rintro e wq ⟨a0, n0, c0, b0, m0, d0, rfl, -, -, hb⟩
        clear c k0
        have BR := BR.trans (hb.mono BR.size)
        have BR := BR.trans ((below_al wq (.cells #[.bool (zeroV).neg, .slice a0 n0 c0, .slice b0 m0 d0] 24)).mono BR.size)
        clear hb
        go_wp2_with (refine wpList_store_new rfl 24 _ _ rfl atRat _ _ _ rfl rfl rfl rfl (rat_one _ _ _ _ _ _ _) ?_)
        go_roundw
        case rel => exact ⟨7, by decide, by go_num, BR⟩
        case measure => simp [intOf]

end Go.Proofs.YtdaajeklnhbhjaaDoor
