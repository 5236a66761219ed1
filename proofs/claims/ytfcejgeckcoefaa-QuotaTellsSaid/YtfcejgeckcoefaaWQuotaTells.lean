/- The walk of the law QuotaTells: it returns true and turns nothing that was there. No condition. Printed by gen_quolaws.py. -/
import Derived.Test.YtfcejgeckcoefaaQuoG
import Derived.BigQuiet
import Derived.Deep.CutRange
namespace Go.Proofs.Ytfcejgeckcoefaa
open Go.RowKit Go.Suf
set_option linter.unusedVariables false
set_option linter.unusedSimpArgs false

set_option maxRecDepth 100000 in
set_option maxHeartbeats 8000000 in
theorem quotaTells_walk (w : World) (v : Int) (h_v1 : -9223372036854775808 ≤ v) (h_v2 : v ≤ 9223372036854775807) (s : Int) (h_s1 : -9223372036854775808 ≤ s) (h_s2 : s ≤ 9223372036854775807) :
    Calls Try.prog 3 #[.int .i64 v, .int .i64 s] w fun e w' => e = .returned (.bool true) ∧ Below w.heap.size w w' := by
  have i_v : i64 v := ⟨h_v1, h_v2⟩
  have i_s : i64 s := ⟨h_s1, h_s2⟩
  have l_v : v < 9223372036854775808 := by omega
  have l_s : s < 9223372036854775808 := by omega
  have B0 : Below w.heap.size w w := Below.refl _ _
  go_enter Try.func3, Try.ntmps3
  go_wp2_with fail
  have c := droop_any w v s
  refine c.mono ?_
  rintro e w1 ⟨rfl, hb⟩
  clear c
  have B1 := B0.trans (hb.mono B0.size)
  clear hb B0
  go_wp2_with fail
  have c := refDroop_any w1 v s
  refine c.mono ?_
  rintro e w2 ⟨rfl, hb⟩
  clear c
  have B2 := B1.trans (hb.mono B1.size)
  clear hb B1
  go_wp2_with fail
  have c := hare_any w2 v s h_s1 l_s
  refine c.mono ?_
  rintro e w3 ⟨a_c, n_c, c_c, b_c, m_c, d_c, rfl, h_cn_3, h_cd_3, hb⟩
  clear c
  have B3 := B2.trans (hb.mono B2.size)
  clear hb B2
  have hb := below_al w3 (.cells #[.bool ((partC v s s).1).neg, .slice a_c n_c c_c, .slice b_c m_c d_c] 27)
  have B4 := B3.trans (hb.mono B3.size)
  have h_cn_4 := h_cn_3.below hb
  have h_cd_4 := h_cd_3.below hb
  clear hb B3 h_cn_3 h_cd_3
  have h_c_4 := Has.new w3 #[.bool ((partC v s s).1).neg, .slice a_c n_c c_c, .slice b_c m_c d_c] 27
  go_wp2_with first | refine wpList_store_new rfl 27 _ _ rfl atRat _ _ _ rfl rfl rfl rfl (rat_one _ _ _ _ _ _ _) ?_
  generalize (w3.alloc (.cells #[.bool ((partC v s s).1).neg, .slice a_c n_c c_c, .slice b_c m_c d_c] 27)) = w4 at *
  have c := refHare_any w4 v s h_s1 l_s
  refine c.mono ?_
  rintro e w5 ⟨a_d, n_d, c_d, b_d, m_d, d_d, rfl, h_dn_5, h_dd_5, hb⟩
  clear c
  have B5 := B4.trans (hb.mono B4.size)
  have h_cn_5 := h_cn_4.below hb
  have h_cd_5 := h_cd_4.below hb
  have h_c_5 := h_c_4.later hb
  clear hb B4 h_cn_4 h_cd_4 h_c_4
  have hb := below_al w5 (.cells #[.bool ((partC v s s).1).neg, .slice a_d n_d c_d, .slice b_d m_d d_d] 27)
  have B6 := B5.trans (hb.mono B5.size)
  have h_cn_6 := h_cn_5.below hb
  have h_cd_6 := h_cd_5.below hb
  have h_c_6 := h_c_5.later hb
  have h_dn_6 := h_dn_5.below hb
  have h_dd_6 := h_dd_5.below hb
  clear hb B5 h_cn_5 h_cd_5 h_c_5 h_dn_5 h_dd_5
  have h_d_6 := Has.new w5 #[.bool ((partC v s s).1).neg, .slice a_d n_d c_d, .slice b_d m_d d_d] 27
  go_wp2_with first | refine wpList_store_new rfl 27 _ _ rfl atRat _ _ _ rfl rfl rfl rfl (rat_one _ _ _ _ _ _ _) ?_
  generalize (w5.alloc (.cells #[.bool ((partC v s s).1).neg, .slice a_d n_d c_d, .slice b_d m_d d_d] 27)) = w6 at *
  have c := hag_any w6 v s h_s1 l_s
  refine c.mono ?_
  rintro e w7 ⟨a_x, n_x, c_x, b_x, m_x, d_x, rfl, h_xn_7, h_xd_7, hb⟩
  clear c
  have B7 := B6.trans (hb.mono B6.size)
  have h_cn_7 := h_cn_6.below hb
  have h_cd_7 := h_cd_6.below hb
  have h_c_7 := h_c_6.later hb
  have h_dn_7 := h_dn_6.below hb
  have h_dd_7 := h_dd_6.below hb
  have h_d_7 := h_d_6.later hb
  clear hb B6 h_cn_6 h_cd_6 h_c_6 h_dn_6 h_dd_6 h_d_6
  have hb := below_al w7 (.cells #[.bool ((partC v s (s + 1)).1).neg, .slice a_x n_x c_x, .slice b_x m_x d_x] 27)
  have B8 := B7.trans (hb.mono B7.size)
  have h_cn_8 := h_cn_7.below hb
  have h_cd_8 := h_cd_7.below hb
  have h_c_8 := h_c_7.later hb
  have h_dn_8 := h_dn_7.below hb
  have h_dd_8 := h_dd_7.below hb
  have h_d_8 := h_d_7.later hb
  have h_xn_8 := h_xn_7.below hb
  have h_xd_8 := h_xd_7.below hb
  clear hb B7 h_cn_7 h_cd_7 h_c_7 h_dn_7 h_dd_7 h_d_7 h_xn_7 h_xd_7
  have h_x_8 := Has.new w7 #[.bool ((partC v s (s + 1)).1).neg, .slice a_x n_x c_x, .slice b_x m_x d_x] 27
  go_wp2_with first | refine wpList_store_new rfl 27 _ _ rfl atRat _ _ _ rfl rfl rfl rfl (rat_one _ _ _ _ _ _ _) ?_
  generalize (w7.alloc (.cells #[.bool ((partC v s (s + 1)).1).neg, .slice a_x n_x c_x, .slice b_x m_x d_x] 27)) = w8 at *
  have c := refHag_any w8 v s h_s1 l_s
  refine c.mono ?_
  rintro e w9 ⟨a_y, n_y, c_y, b_y, m_y, d_y, rfl, h_yn_9, h_yd_9, hb⟩
  clear c
  have B9 := B8.trans (hb.mono B8.size)
  have h_cn_9 := h_cn_8.below hb
  have h_cd_9 := h_cd_8.below hb
  have h_c_9 := h_c_8.later hb
  have h_dn_9 := h_dn_8.below hb
  have h_dd_9 := h_dd_8.below hb
  have h_d_9 := h_d_8.later hb
  have h_xn_9 := h_xn_8.below hb
  have h_xd_9 := h_xd_8.below hb
  have h_x_9 := h_x_8.later hb
  clear hb B8 h_cn_8 h_cd_8 h_c_8 h_dn_8 h_dd_8 h_d_8 h_xn_8 h_xd_8 h_x_8
  have hb := below_al w9 (.cells #[.bool ((partC v s (s + 1)).1).neg, .slice a_y n_y c_y, .slice b_y m_y d_y] 27)
  have B10 := B9.trans (hb.mono B9.size)
  have h_cn_10 := h_cn_9.below hb
  have h_cd_10 := h_cd_9.below hb
  have h_c_10 := h_c_9.later hb
  have h_dn_10 := h_dn_9.below hb
  have h_dd_10 := h_dd_9.below hb
  have h_d_10 := h_d_9.later hb
  have h_xn_10 := h_xn_9.below hb
  have h_xd_10 := h_xd_9.below hb
  have h_x_10 := h_x_9.later hb
  have h_yn_10 := h_yn_9.below hb
  have h_yd_10 := h_yd_9.below hb
  clear hb B9 h_cn_9 h_cd_9 h_c_9 h_dn_9 h_dd_9 h_d_9 h_xn_9 h_xd_9 h_x_9 h_yn_9 h_yd_9
  have h_y_10 := Has.new w9 #[.bool ((partC v s (s + 1)).1).neg, .slice a_y n_y c_y, .slice b_y m_y d_y] 27
  have k_c_0 := h_c_10.cell 0 _ rfl
  have k_c_1 := h_c_10.cell 1 _ rfl
  have k_c_2 := h_c_10.cell 2 _ rfl
  have k_d_0 := h_d_10.cell 0 _ rfl
  have k_d_1 := h_d_10.cell 1 _ rfl
  have k_d_2 := h_d_10.cell 2 _ rfl
  go_wp2_with first | refine wpList_store_new rfl 27 _ _ rfl atRat _ _ _ rfl rfl rfl rfl (rat_one _ _ _ _ _ _ _) ?_
  clear k_c_0 k_c_1 k_c_2 k_d_0 k_d_1 k_d_2
  generalize (w9.alloc (.cells #[.bool ((partC v s (s + 1)).1).neg, .slice a_y n_y c_y, .slice b_y m_y d_y] 27)) = w10 at *
  have c := refRatSame_any w10 (g1 := (partC v s s).1.neg) (g2 := (partC v s s).1.neg) h_cn_10 h_cd_10 h_dn_10 h_dd_10
  rw [ex_sameq] at c
  refine c.mono ?_
  rintro e w11 ⟨rfl, hb⟩
  clear c
  have B11 := B10.trans (hb.mono B10.size)
  have h_cn_11 := h_cn_10.below hb
  have h_cd_11 := h_cd_10.below hb
  have h_c_11 := h_c_10.later hb
  have h_dn_11 := h_dn_10.below hb
  have h_dd_11 := h_dd_10.below hb
  have h_d_11 := h_d_10.later hb
  have h_xn_11 := h_xn_10.below hb
  have h_xd_11 := h_xd_10.below hb
  have h_x_11 := h_x_10.later hb
  have h_yn_11 := h_yn_10.below hb
  have h_yd_11 := h_yd_10.below hb
  have h_y_11 := h_y_10.later hb
  clear hb B10 h_cn_10 h_cd_10 h_c_10 h_dn_10 h_dd_10 h_d_10 h_xn_10 h_xd_10 h_x_10 h_yn_10 h_yd_10 h_y_10
  have k_x_0 := h_x_11.cell 0 _ rfl
  have k_x_1 := h_x_11.cell 1 _ rfl
  have k_x_2 := h_x_11.cell 2 _ rfl
  have k_y_0 := h_y_11.cell 0 _ rfl
  have k_y_1 := h_y_11.cell 1 _ rfl
  have k_y_2 := h_y_11.cell 2 _ rfl
  go_wp2_with fail
  clear k_x_0 k_x_1 k_x_2 k_y_0 k_y_1 k_y_2
  have c := refRatSame_any w11 (g1 := (partC v s (s + 1)).1.neg) (g2 := (partC v s (s + 1)).1.neg) h_xn_11 h_xd_11 h_yn_11 h_yd_11
  rw [ex_sameq] at c
  refine c.mono ?_
  rintro e w12 ⟨rfl, hb⟩
  clear c
  have B12 := B11.trans (hb.mono B11.size)
  have h_cn_12 := h_cn_11.below hb
  have h_cd_12 := h_cd_11.below hb
  have h_c_12 := h_c_11.later hb
  have h_dn_12 := h_dn_11.below hb
  have h_dd_12 := h_dd_11.below hb
  have h_d_12 := h_d_11.later hb
  have h_xn_12 := h_xn_11.below hb
  have h_xd_12 := h_xd_11.below hb
  have h_x_12 := h_x_11.later hb
  have h_yn_12 := h_yn_11.below hb
  have h_yd_12 := h_yd_11.below hb
  have h_y_12 := h_y_11.later hb
  clear hb B11 h_cn_11 h_cd_11 h_c_11 h_dn_11 h_dd_11 h_d_11 h_xn_11 h_xd_11 h_x_11 h_yn_11 h_yd_11 h_y_11
  go_wp2_with fail
  have c := wakes_any w12
  refine c.mono ?_
  rintro e w13 ⟨rfl, hb⟩
  clear c
  have B13 := B12.trans (hb.mono B12.size)
  have h_cn_13 := h_cn_12.below hb
  have h_cd_13 := h_cd_12.below hb
  have h_c_13 := h_c_12.later hb
  have h_dn_13 := h_dn_12.below hb
  have h_dd_13 := h_dd_12.below hb
  have h_d_13 := h_d_12.later hb
  have h_xn_13 := h_xn_12.below hb
  have h_xd_13 := h_xd_12.below hb
  have h_x_13 := h_x_12.later hb
  have h_yn_13 := h_yn_12.below hb
  have h_yd_13 := h_yd_12.below hb
  have h_y_13 := h_y_12.later hb
  clear hb B12 h_cn_12 h_cd_12 h_c_12 h_dn_12 h_dd_12 h_d_12 h_xn_12 h_xd_12 h_x_12 h_yn_12 h_yd_12 h_y_12
  go_wp2_with fail
  go_ret
  exact ⟨rfl, B13⟩

end Go.Proofs.Ytfcejgeckcoefaa
