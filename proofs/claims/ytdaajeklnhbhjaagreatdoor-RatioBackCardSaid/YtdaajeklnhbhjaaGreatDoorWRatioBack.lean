/- The walk of the law RatioBack: it returns true and turns nothing that was there. No condition. Printed by gen_ratlaws.py. -/
import Derived.Test.YtdaajeklnhbhjaaGreatDoorRatW
import Derived.Test.YtdaajeklnhbhjaaGreatDoorRatV
import Derived.Test.YtdaajeklnhbhjaaGreatDoorRatY
import Derived.BigQuiet
import Derived.Deep.CutRange
namespace Go.Proofs.YtdaajeklnhbhjaaGreatDoor
open Go.RowKit Go.Suf
set_option linter.unusedVariables false
set_option linter.unusedSimpArgs false

set_option maxRecDepth 100000 in
set_option maxHeartbeats 8000000 in
theorem ratioBack_walk (w : World) {g_x : Bool} {a_x b_x : Option Addr} {n_x c_x m_x d_x : Nat} {xn xd : List Nat} (h_xn : Rd .u32 w a_x n_x c_x xn) (h_xd : Rd .u32 w b_x m_x d_x xd) {g_y : Bool} {a_y b_y : Option Addr} {n_y c_y m_y d_y : Nat} {yn yd : List Nat} (h_yn : Rd .u32 w a_y n_y c_y yn) (h_yd : Rd .u32 w b_y m_y d_y yd) :
    Calls Tryz.prog 7 #[ratV g_x a_x n_x c_x b_x m_x d_x, ratV g_y a_y n_y c_y b_y m_y d_y] w fun e w' => e = .returned (.bool true) ∧ Below w.heap.size w w' := by
  obtain ⟨x, rfl, rfl, rfl⟩ : ∃ x : QV, g_x = x.neg ∧ xn = x.num ∧ xd = x.den := ⟨⟨g_x, xn, xd⟩, rfl, rfl, rfl⟩
  obtain ⟨y, rfl, rfl, rfl⟩ : ∃ y : QV, g_y = y.neg ∧ yn = y.num ∧ yd = y.den := ⟨⟨g_y, yn, yd⟩, rfl, rfl, rfl⟩
  have B0 : Below w.heap.size w w := Below.refl _ _
  have h_xn_0 := h_xn
  have h_xd_0 := h_xd
  have h_yn_0 := h_yn
  have h_yd_0 := h_yd
  by_cases ok : okV x ∧ okV y
  case neg =>
    have RT := Lib.hid (show (decide (okV x) && decide (okV y)) = false from by rw [Bool.eq_false_iff]; intro h; simp only [Bool.and_eq_true, decide_eq_true_eq] at h; exact ok ⟨h.1, h.2⟩)
    clear ok
    go_enter Tryz.func7, Tryz.ntmps7
    have hb := below_al w (.cells #[.bool (x).neg, .slice a_x n_x c_x, .slice b_x m_x d_x] 24)
    have B1 := B0.trans (hb.mono B0.size)
    have h_xn_1 := h_xn_0.below hb
    have h_xd_1 := h_xd_0.below hb
    have h_yn_1 := h_yn_0.below hb
    have h_yd_1 := h_yd_0.below hb
    clear hb B0 h_xn_0 h_xd_0 h_yn_0 h_yd_0
    have h_x_1 := Has.new w #[.bool (x).neg, .slice a_x n_x c_x, .slice b_x m_x d_x] 24
    have hb := below_al (w.alloc (.cells #[.bool (x).neg, .slice a_x n_x c_x, .slice b_x m_x d_x] 24)) (.cells #[.bool (y).neg, .slice a_y n_y c_y, .slice b_y m_y d_y] 24)
    have B2 := B1.trans (hb.mono B1.size)
    have h_xn_2 := h_xn_1.below hb
    have h_xd_2 := h_xd_1.below hb
    have h_yn_2 := h_yn_1.below hb
    have h_yd_2 := h_yd_1.below hb
    have h_x_2 := h_x_1.later hb
    clear hb B1 h_xn_1 h_xd_1 h_yn_1 h_yd_1 h_x_1
    have h_y_2 := Has.new (w.alloc (.cells #[.bool (x).neg, .slice a_x n_x c_x, .slice b_x m_x d_x] 24)) #[.bool (y).neg, .slice a_y n_y c_y, .slice b_y m_y d_y] 24
    simp only [World.size_alloc] at h_y_2
    have k_x_0 := h_x_2.cell 0 _ rfl
    have k_x_1 := h_x_2.cell 1 _ rfl
    have k_x_2 := h_x_2.cell 2 _ rfl
    have k_y_0 := h_y_2.cell 0 _ rfl
    have k_y_1 := h_y_2.cell 1 _ rfl
    have k_y_2 := h_y_2.cell 2 _ rfl
    have hb := below_al ((w.alloc (.cells #[.bool (x).neg, .slice a_x n_x c_x, .slice b_x m_x d_x] 24)).alloc (.cells #[.bool (y).neg, .slice a_y n_y c_y, .slice b_y m_y d_y] 24)) (.cells #[.bool (x).neg, .slice a_x n_x c_x, .slice b_x m_x d_x, .bool (y).neg, .slice a_y n_y c_y, .slice b_y m_y d_y] 24)
    have B3 := B2.trans (hb.mono B2.size)
    have h_xn_3 := h_xn_2.below hb
    have h_xd_3 := h_xd_2.below hb
    have h_yn_3 := h_yn_2.below hb
    have h_yd_3 := h_yd_2.below hb
    have h_x_3 := h_x_2.later hb
    have h_y_3 := h_y_2.later hb
    clear hb B2 h_xn_2 h_xd_2 h_yn_2 h_yd_2 h_x_2 h_y_2
    have h_l_3 := Has.new ((w.alloc (.cells #[.bool (x).neg, .slice a_x n_x c_x, .slice b_x m_x d_x] 24)).alloc (.cells #[.bool (y).neg, .slice a_y n_y c_y, .slice b_y m_y d_y] 24)) #[.bool (x).neg, .slice a_x n_x c_x, .slice b_x m_x d_x, .bool (y).neg, .slice a_y n_y c_y, .slice b_y m_y d_y] 24
    simp only [World.size_alloc] at h_l_3
    go_wp2_with fail
    clear k_x_0 k_x_1 k_x_2 k_y_0 k_y_1 k_y_2
    generalize (((w.alloc (.cells #[.bool (x).neg, .slice a_x n_x c_x, .slice b_x m_x d_x] 24)).alloc (.cells #[.bool (y).neg, .slice a_y n_y c_y, .slice b_y m_y d_y] 24)).alloc (.cells #[.bool (x).neg, .slice a_x n_x c_x, .slice b_x m_x d_x, .bool (y).neg, .slice a_y n_y c_y, .slice b_y m_y d_y] 24)) = w3 at *
    have c := right2_any w3 (g_x := (x).neg) (g_y := (y).neg) h_xn_3 h_xd_3 h_yn_3 h_yd_3 h_l_3
    rw [show (⟨(x).neg, (x).num, (x).den⟩ : QV) = x from rfl] at c
    rw [show (⟨(y).neg, (y).num, (y).den⟩ : QV) = y from rfl] at c
    rw [RT.out] at c
    refine c.mono ?_
    rintro e w4 ⟨rfl, hb⟩
    clear c
    have B4 := B3.trans (hb.mono B3.size)
    have h_xn_4 := h_xn_3.below hb
    have h_xd_4 := h_xd_3.below hb
    have h_yn_4 := h_yn_3.below hb
    have h_yd_4 := h_yd_3.below hb
    have h_x_4 := h_x_3.later hb
    have h_y_4 := h_y_3.later hb
    clear hb B3 h_xn_3 h_xd_3 h_yn_3 h_yd_3 h_x_3 h_y_3 h_l_3
    go_wp2_with fail
    have c := wakes_any w4
    refine c.mono ?_
    rintro e w5 ⟨rfl, hb⟩
    clear c
    have B5 := B4.trans (hb.mono B4.size)
    have h_xn_5 := h_xn_4.below hb
    have h_xd_5 := h_xd_4.below hb
    have h_yn_5 := h_yn_4.below hb
    have h_yd_5 := h_yd_4.below hb
    have h_x_5 := h_x_4.later hb
    have h_y_5 := h_y_4.later hb
    clear hb B4 h_xn_4 h_xd_4 h_yn_4 h_yd_4 h_x_4 h_y_4
    go_wp2_with fail
    go_ret
    exact ⟨rfl, B5⟩
  have RT := Lib.hid (show (decide (okV x) && decide (okV y)) = true from by simp only [Bool.and_eq_true, decide_eq_true_eq]; exact ⟨ok.1, ok.2⟩)
  obtain ⟨s, n, q, f0, f1, f2, f3, f4, f5, f6, f7⟩ := back_law ⟨h_xn_0.bd, h_xd_0.bd⟩ ⟨h_yn_0.bd, h_yd_0.bd⟩ ok.1 ok.2
  have ly := h_yn_0.len
  have F0 := Lib.hid f0
  have F1 := Lib.hid f1
  have F2 := Lib.hid f2
  have F3 := Lib.hid f3
  have F4 := Lib.hid f4
  have F5 := Lib.hid f5
  clear f0 f1 f2 f3 f4 f5 ok
  by_cases zy : y.num.length = 0
  case pos =>
    obtain ⟨f8, f9⟩ := f6 zy
    subst f9
    have F8 := Lib.hid f8
    have d1 : ((n_y : Int) == 0) = true := by rw [← ly, zy]; rfl
    clear f6 f7 f8 zy ly
    go_enter Tryz.func7, Tryz.ntmps7
    have hb := below_al w (.cells #[.bool (x).neg, .slice a_x n_x c_x, .slice b_x m_x d_x] 24)
    have B1 := B0.trans (hb.mono B0.size)
    have h_xn_1 := h_xn_0.below hb
    have h_xd_1 := h_xd_0.below hb
    have h_yn_1 := h_yn_0.below hb
    have h_yd_1 := h_yd_0.below hb
    clear hb B0 h_xn_0 h_xd_0 h_yn_0 h_yd_0
    have h_x_1 := Has.new w #[.bool (x).neg, .slice a_x n_x c_x, .slice b_x m_x d_x] 24
    have hb := below_al (w.alloc (.cells #[.bool (x).neg, .slice a_x n_x c_x, .slice b_x m_x d_x] 24)) (.cells #[.bool (y).neg, .slice a_y n_y c_y, .slice b_y m_y d_y] 24)
    have B2 := B1.trans (hb.mono B1.size)
    have h_xn_2 := h_xn_1.below hb
    have h_xd_2 := h_xd_1.below hb
    have h_yn_2 := h_yn_1.below hb
    have h_yd_2 := h_yd_1.below hb
    have h_x_2 := h_x_1.later hb
    clear hb B1 h_xn_1 h_xd_1 h_yn_1 h_yd_1 h_x_1
    have h_y_2 := Has.new (w.alloc (.cells #[.bool (x).neg, .slice a_x n_x c_x, .slice b_x m_x d_x] 24)) #[.bool (y).neg, .slice a_y n_y c_y, .slice b_y m_y d_y] 24
    simp only [World.size_alloc] at h_y_2
    have k_x_0 := h_x_2.cell 0 _ rfl
    have k_x_1 := h_x_2.cell 1 _ rfl
    have k_x_2 := h_x_2.cell 2 _ rfl
    have k_y_0 := h_y_2.cell 0 _ rfl
    have k_y_1 := h_y_2.cell 1 _ rfl
    have k_y_2 := h_y_2.cell 2 _ rfl
    have hb := below_al ((w.alloc (.cells #[.bool (x).neg, .slice a_x n_x c_x, .slice b_x m_x d_x] 24)).alloc (.cells #[.bool (y).neg, .slice a_y n_y c_y, .slice b_y m_y d_y] 24)) (.cells #[.bool (x).neg, .slice a_x n_x c_x, .slice b_x m_x d_x, .bool (y).neg, .slice a_y n_y c_y, .slice b_y m_y d_y] 24)
    have B3 := B2.trans (hb.mono B2.size)
    have h_xn_3 := h_xn_2.below hb
    have h_xd_3 := h_xd_2.below hb
    have h_yn_3 := h_yn_2.below hb
    have h_yd_3 := h_yd_2.below hb
    have h_x_3 := h_x_2.later hb
    have h_y_3 := h_y_2.later hb
    clear hb B2 h_xn_2 h_xd_2 h_yn_2 h_yd_2 h_x_2 h_y_2
    have h_l_3 := Has.new ((w.alloc (.cells #[.bool (x).neg, .slice a_x n_x c_x, .slice b_x m_x d_x] 24)).alloc (.cells #[.bool (y).neg, .slice a_y n_y c_y, .slice b_y m_y d_y] 24)) #[.bool (x).neg, .slice a_x n_x c_x, .slice b_x m_x d_x, .bool (y).neg, .slice a_y n_y c_y, .slice b_y m_y d_y] 24
    simp only [World.size_alloc] at h_l_3
    go_wp2_with fail
    clear k_x_0 k_x_1 k_x_2 k_y_0 k_y_1 k_y_2
    generalize (((w.alloc (.cells #[.bool (x).neg, .slice a_x n_x c_x, .slice b_x m_x d_x] 24)).alloc (.cells #[.bool (y).neg, .slice a_y n_y c_y, .slice b_y m_y d_y] 24)).alloc (.cells #[.bool (x).neg, .slice a_x n_x c_x, .slice b_x m_x d_x, .bool (y).neg, .slice a_y n_y c_y, .slice b_y m_y d_y] 24)) = w3 at *
    have c := right2_any w3 (g_x := (x).neg) (g_y := (y).neg) h_xn_3 h_xd_3 h_yn_3 h_yd_3 h_l_3
    rw [show (⟨(x).neg, (x).num, (x).den⟩ : QV) = x from rfl] at c
    rw [show (⟨(y).neg, (y).num, (y).den⟩ : QV) = y from rfl] at c
    rw [RT.out] at c
    refine c.mono ?_
    rintro e w4 ⟨rfl, hb⟩
    clear c
    have B4 := B3.trans (hb.mono B3.size)
    have h_xn_4 := h_xn_3.below hb
    have h_xd_4 := h_xd_3.below hb
    have h_yn_4 := h_yn_3.below hb
    have h_yd_4 := h_yd_3.below hb
    have h_x_4 := h_x_3.later hb
    have h_y_4 := h_y_3.later hb
    clear hb B3 h_xn_3 h_xd_3 h_yn_3 h_yd_3 h_x_3 h_y_3 h_l_3
    have k_x_0 := h_x_4.cell 0 _ rfl
    have k_x_1 := h_x_4.cell 1 _ rfl
    have k_x_2 := h_x_4.cell 2 _ rfl
    have k_y_0 := h_y_4.cell 0 _ rfl
    have k_y_1 := h_y_4.cell 1 _ rfl
    have k_y_2 := h_y_4.cell 2 _ rfl
    go_wp2_with fail
    clear k_x_0 k_x_1 k_x_2 k_y_0 k_y_1 k_y_2
    have c := ratAdd_any w4 (g1 := (x).neg) (g2 := (y).neg) h_xn_4 h_xd_4 h_yn_4 h_yd_4
    rw [show (⟨(x).neg, (x).num, (x).den⟩ : QV) = x from rfl] at c
    rw [show (⟨(y).neg, (y).num, (y).den⟩ : QV) = y from rfl] at c
    rw [F0.out] at c
    refine c.mono ?_
    rintro e w5 ⟨a_e, n_e, c_e, b_e, m_e, d_e, rfl, h_en_5, h_ed_5, hb⟩
    clear c
    have B5 := B4.trans (hb.mono B4.size)
    have h_xn_5 := h_xn_4.below hb
    have h_xd_5 := h_xd_4.below hb
    have h_yn_5 := h_yn_4.below hb
    have h_yd_5 := h_yd_4.below hb
    have h_x_5 := h_x_4.later hb
    have h_y_5 := h_y_4.later hb
    clear hb B4 h_xn_4 h_xd_4 h_yn_4 h_yd_4 h_x_4 h_y_4
    have hb := below_al w5 (.cells #[.bool (s).neg, .slice a_e n_e c_e, .slice b_e m_e d_e] 24)
    have B6 := B5.trans (hb.mono B5.size)
    have h_xn_6 := h_xn_5.below hb
    have h_xd_6 := h_xd_5.below hb
    have h_yn_6 := h_yn_5.below hb
    have h_yd_6 := h_yd_5.below hb
    have h_x_6 := h_x_5.later hb
    have h_y_6 := h_y_5.later hb
    have h_en_6 := h_en_5.below hb
    have h_ed_6 := h_ed_5.below hb
    clear hb B5 h_xn_5 h_xd_5 h_yn_5 h_yd_5 h_x_5 h_y_5 h_en_5 h_ed_5
    have h_e_6 := Has.new w5 #[.bool (s).neg, .slice a_e n_e c_e, .slice b_e m_e d_e] 24
    have k_e_0 := h_e_6.cell 0 _ rfl
    have k_e_1 := h_e_6.cell 1 _ rfl
    have k_e_2 := h_e_6.cell 2 _ rfl
    have k_y_0 := h_y_6.cell 0 _ rfl
    have k_y_1 := h_y_6.cell 1 _ rfl
    have k_y_2 := h_y_6.cell 2 _ rfl
    go_wp2_with first | refine wpList_store_new rfl 24 _ _ rfl atRat _ _ _ rfl rfl rfl rfl (rat_one _ _ _ _ _ _ _) ?_
    clear k_e_0 k_e_1 k_e_2 k_y_0 k_y_1 k_y_2
    generalize (w5.alloc (.cells #[.bool (s).neg, .slice a_e n_e c_e, .slice b_e m_e d_e] 24)) = w6 at *
    have c := ratSub_any w6 (g1 := (s).neg) (g2 := (y).neg) h_en_6 h_ed_6 h_yn_6 h_yd_6
    rw [show (⟨(s).neg, (s).num, (s).den⟩ : QV) = s from rfl] at c
    rw [show (⟨(y).neg, (y).num, (y).den⟩ : QV) = y from rfl] at c
    rw [F1.out] at c
    refine c.mono ?_
    rintro e w7 ⟨a_f, n_f, c_f, b_f, m_f, d_f, rfl, h_fn_7, h_fd_7, hb⟩
    clear c
    have B7 := B6.trans (hb.mono B6.size)
    have h_xn_7 := h_xn_6.below hb
    have h_xd_7 := h_xd_6.below hb
    have h_yn_7 := h_yn_6.below hb
    have h_yd_7 := h_yd_6.below hb
    have h_x_7 := h_x_6.later hb
    have h_y_7 := h_y_6.later hb
    have h_en_7 := h_en_6.below hb
    have h_ed_7 := h_ed_6.below hb
    have h_e_7 := h_e_6.later hb
    clear hb B6 h_xn_6 h_xd_6 h_yn_6 h_yd_6 h_x_6 h_y_6 h_en_6 h_ed_6 h_e_6
    have hb := below_al w7 (.cells #[.bool (x).neg, .slice a_f n_f c_f, .slice b_f m_f d_f] 24)
    have B8 := B7.trans (hb.mono B7.size)
    have h_xn_8 := h_xn_7.below hb
    have h_xd_8 := h_xd_7.below hb
    have h_yn_8 := h_yn_7.below hb
    have h_yd_8 := h_yd_7.below hb
    have h_x_8 := h_x_7.later hb
    have h_y_8 := h_y_7.later hb
    have h_en_8 := h_en_7.below hb
    have h_ed_8 := h_ed_7.below hb
    have h_e_8 := h_e_7.later hb
    have h_fn_8 := h_fn_7.below hb
    have h_fd_8 := h_fd_7.below hb
    clear hb B7 h_xn_7 h_xd_7 h_yn_7 h_yd_7 h_x_7 h_y_7 h_en_7 h_ed_7 h_e_7 h_fn_7 h_fd_7
    have h_f_8 := Has.new w7 #[.bool (x).neg, .slice a_f n_f c_f, .slice b_f m_f d_f] 24
    have k_x_0 := h_x_8.cell 0 _ rfl
    have k_x_1 := h_x_8.cell 1 _ rfl
    have k_x_2 := h_x_8.cell 2 _ rfl
    go_wp2_with first | refine wpList_store_new rfl 24 _ _ rfl atRat _ _ _ rfl rfl rfl rfl (rat_one _ _ _ _ _ _ _) ?_
    clear k_x_0 k_x_1 k_x_2
    generalize (w7.alloc (.cells #[.bool (x).neg, .slice a_f n_f c_f, .slice b_f m_f d_f] 24)) = w8 at *
    have c := ratSub_any w8 (g1 := (x).neg) (g2 := (x).neg) h_xn_8 h_xd_8 h_xn_8 h_xd_8
    rw [show (⟨(x).neg, (x).num, (x).den⟩ : QV) = x from rfl] at c
    rw [F2.out] at c
    refine c.mono ?_
    rintro e w9 ⟨a_h, n_h, c_h, b_h, m_h, d_h, rfl, h_hn_9, h_hd_9, hb⟩
    clear c
    have B9 := B8.trans (hb.mono B8.size)
    have h_xn_9 := h_xn_8.below hb
    have h_xd_9 := h_xd_8.below hb
    have h_yn_9 := h_yn_8.below hb
    have h_yd_9 := h_yd_8.below hb
    have h_x_9 := h_x_8.later hb
    have h_y_9 := h_y_8.later hb
    have h_en_9 := h_en_8.below hb
    have h_ed_9 := h_ed_8.below hb
    have h_e_9 := h_e_8.later hb
    have h_fn_9 := h_fn_8.below hb
    have h_fd_9 := h_fd_8.below hb
    have h_f_9 := h_f_8.later hb
    clear hb B8 h_xn_8 h_xd_8 h_yn_8 h_yd_8 h_x_8 h_y_8 h_en_8 h_ed_8 h_e_8 h_fn_8 h_fd_8 h_f_8
    have hb := below_al w9 (.cells #[.bool ((ofC 0 1).1).neg, .slice a_h n_h c_h, .slice b_h m_h d_h] 24)
    have B10 := B9.trans (hb.mono B9.size)
    have h_xn_10 := h_xn_9.below hb
    have h_xd_10 := h_xd_9.below hb
    have h_yn_10 := h_yn_9.below hb
    have h_yd_10 := h_yd_9.below hb
    have h_x_10 := h_x_9.later hb
    have h_y_10 := h_y_9.later hb
    have h_en_10 := h_en_9.below hb
    have h_ed_10 := h_ed_9.below hb
    have h_e_10 := h_e_9.later hb
    have h_fn_10 := h_fn_9.below hb
    have h_fd_10 := h_fd_9.below hb
    have h_f_10 := h_f_9.later hb
    have h_hn_10 := h_hn_9.below hb
    have h_hd_10 := h_hd_9.below hb
    clear hb B9 h_xn_9 h_xd_9 h_yn_9 h_yd_9 h_x_9 h_y_9 h_en_9 h_ed_9 h_e_9 h_fn_9 h_fd_9 h_f_9 h_hn_9 h_hd_9
    have h_h_10 := Has.new w9 #[.bool ((ofC 0 1).1).neg, .slice a_h n_h c_h, .slice b_h m_h d_h] 24
    have k_y_0 := h_y_10.cell 0 _ rfl
    have k_y_1 := h_y_10.cell 1 _ rfl
    have k_y_2 := h_y_10.cell 2 _ rfl
    go_wp2_with first | refine wpList_store_new rfl 24 _ _ rfl atRat _ _ _ rfl rfl rfl rfl (rat_one _ _ _ _ _ _ _) ?_
    clear k_y_0 k_y_1 k_y_2
    generalize (w9.alloc (.cells #[.bool ((ofC 0 1).1).neg, .slice a_h n_h c_h, .slice b_h m_h d_h] 24)) = w10 at *
    have c := ratNeg_any w10 (g := (y).neg) h_yn_10 h_yd_10
    rw [show (⟨(y).neg, (y).num, (y).den⟩ : QV) = y from rfl] at c
    rw [F3.out] at c
    refine c.mono ?_
    rintro e w11 ⟨a_i, n_i, c_i, b_i, m_i, d_i, rfl, h_in_11, h_id_11, hb⟩
    clear c
    have B11 := B10.trans (hb.mono B10.size)
    have h_xn_11 := h_xn_10.below hb
    have h_xd_11 := h_xd_10.below hb
    have h_yn_11 := h_yn_10.below hb
    have h_yd_11 := h_yd_10.below hb
    have h_x_11 := h_x_10.later hb
    have h_y_11 := h_y_10.later hb
    have h_en_11 := h_en_10.below hb
    have h_ed_11 := h_ed_10.below hb
    have h_e_11 := h_e_10.later hb
    have h_fn_11 := h_fn_10.below hb
    have h_fd_11 := h_fd_10.below hb
    have h_f_11 := h_f_10.later hb
    have h_hn_11 := h_hn_10.below hb
    have h_hd_11 := h_hd_10.below hb
    have h_h_11 := h_h_10.later hb
    clear hb B10 h_xn_10 h_xd_10 h_yn_10 h_yd_10 h_x_10 h_y_10 h_en_10 h_ed_10 h_e_10 h_fn_10 h_fd_10 h_f_10 h_hn_10 h_hd_10 h_h_10
    have hb := below_al w11 (.cells #[.bool (n).neg, .slice a_i n_i c_i, .slice b_i m_i d_i] 24)
    have B12 := B11.trans (hb.mono B11.size)
    have h_xn_12 := h_xn_11.below hb
    have h_xd_12 := h_xd_11.below hb
    have h_yn_12 := h_yn_11.below hb
    have h_yd_12 := h_yd_11.below hb
    have h_x_12 := h_x_11.later hb
    have h_y_12 := h_y_11.later hb
    have h_en_12 := h_en_11.below hb
    have h_ed_12 := h_ed_11.below hb
    have h_e_12 := h_e_11.later hb
    have h_fn_12 := h_fn_11.below hb
    have h_fd_12 := h_fd_11.below hb
    have h_f_12 := h_f_11.later hb
    have h_hn_12 := h_hn_11.below hb
    have h_hd_12 := h_hd_11.below hb
    have h_h_12 := h_h_11.later hb
    have h_in_12 := h_in_11.below hb
    have h_id_12 := h_id_11.below hb
    clear hb B11 h_xn_11 h_xd_11 h_yn_11 h_yd_11 h_x_11 h_y_11 h_en_11 h_ed_11 h_e_11 h_fn_11 h_fd_11 h_f_11 h_hn_11 h_hd_11 h_h_11 h_in_11 h_id_11
    have h_i_12 := Has.new w11 #[.bool (n).neg, .slice a_i n_i c_i, .slice b_i m_i d_i] 24
    have k_e_0 := h_e_12.cell 0 _ rfl
    have k_e_1 := h_e_12.cell 1 _ rfl
    have k_e_2 := h_e_12.cell 2 _ rfl
    have k_i_0 := h_i_12.cell 0 _ rfl
    have k_i_1 := h_i_12.cell 1 _ rfl
    have k_i_2 := h_i_12.cell 2 _ rfl
    go_wp2_with first | refine wpList_store_new rfl 24 _ _ rfl atRat _ _ _ rfl rfl rfl rfl (rat_one _ _ _ _ _ _ _) ?_
    clear k_e_0 k_e_1 k_e_2 k_i_0 k_i_1 k_i_2
    generalize (w11.alloc (.cells #[.bool (n).neg, .slice a_i n_i c_i, .slice b_i m_i d_i] 24)) = w12 at *
    have c := ratAdd_any w12 (g1 := (s).neg) (g2 := (n).neg) h_en_12 h_ed_12 h_in_12 h_id_12
    rw [show (⟨(s).neg, (s).num, (s).den⟩ : QV) = s from rfl] at c
    rw [show (⟨(n).neg, (n).num, (n).den⟩ : QV) = n from rfl] at c
    rw [F4.out] at c
    refine c.mono ?_
    rintro e w13 ⟨a_j, n_j, c_j, b_j, m_j, d_j, rfl, h_jn_13, h_jd_13, hb⟩
    clear c
    have B13 := B12.trans (hb.mono B12.size)
    have h_xn_13 := h_xn_12.below hb
    have h_xd_13 := h_xd_12.below hb
    have h_yn_13 := h_yn_12.below hb
    have h_yd_13 := h_yd_12.below hb
    have h_x_13 := h_x_12.later hb
    have h_y_13 := h_y_12.later hb
    have h_en_13 := h_en_12.below hb
    have h_ed_13 := h_ed_12.below hb
    have h_e_13 := h_e_12.later hb
    have h_fn_13 := h_fn_12.below hb
    have h_fd_13 := h_fd_12.below hb
    have h_f_13 := h_f_12.later hb
    have h_hn_13 := h_hn_12.below hb
    have h_hd_13 := h_hd_12.below hb
    have h_h_13 := h_h_12.later hb
    have h_in_13 := h_in_12.below hb
    have h_id_13 := h_id_12.below hb
    have h_i_13 := h_i_12.later hb
    clear hb B12 h_xn_12 h_xd_12 h_yn_12 h_yd_12 h_x_12 h_y_12 h_en_12 h_ed_12 h_e_12 h_fn_12 h_fd_12 h_f_12 h_hn_12 h_hd_12 h_h_12 h_in_12 h_id_12 h_i_12
    have hb := below_al w13 (.cells #[.bool (x).neg, .slice a_j n_j c_j, .slice b_j m_j d_j] 24)
    have B14 := B13.trans (hb.mono B13.size)
    have h_xn_14 := h_xn_13.below hb
    have h_xd_14 := h_xd_13.below hb
    have h_yn_14 := h_yn_13.below hb
    have h_yd_14 := h_yd_13.below hb
    have h_x_14 := h_x_13.later hb
    have h_y_14 := h_y_13.later hb
    have h_en_14 := h_en_13.below hb
    have h_ed_14 := h_ed_13.below hb
    have h_e_14 := h_e_13.later hb
    have h_fn_14 := h_fn_13.below hb
    have h_fd_14 := h_fd_13.below hb
    have h_f_14 := h_f_13.later hb
    have h_hn_14 := h_hn_13.below hb
    have h_hd_14 := h_hd_13.below hb
    have h_h_14 := h_h_13.later hb
    have h_in_14 := h_in_13.below hb
    have h_id_14 := h_id_13.below hb
    have h_i_14 := h_i_13.later hb
    have h_jn_14 := h_jn_13.below hb
    have h_jd_14 := h_jd_13.below hb
    clear hb B13 h_xn_13 h_xd_13 h_yn_13 h_yd_13 h_x_13 h_y_13 h_en_13 h_ed_13 h_e_13 h_fn_13 h_fd_13 h_f_13 h_hn_13 h_hd_13 h_h_13 h_in_13 h_id_13 h_i_13 h_jn_13 h_jd_13
    have h_j_14 := Has.new w13 #[.bool (x).neg, .slice a_j n_j c_j, .slice b_j m_j d_j] 24
    go_wp2_with first | refine wpList_store_new rfl 24 _ _ rfl atRat _ _ _ rfl rfl rfl rfl (rat_one _ _ _ _ _ _ _) ?_
    generalize (w13.alloc (.cells #[.bool (x).neg, .slice a_j n_j c_j, .slice b_j m_j d_j] 24)) = w14 at *
    have hb := (Below.refl w14.heap.size w14).drew
    have B15 := B14.trans (hb.mono B14.size)
    have h_xn_15 := h_xn_14.below hb
    have h_xd_15 := h_xd_14.below hb
    have h_yn_15 := h_yn_14.below hb
    have h_yd_15 := h_yd_14.below hb
    have h_x_15 := h_x_14.later hb
    have h_y_15 := h_y_14.later hb
    have h_en_15 := h_en_14.below hb
    have h_ed_15 := h_ed_14.below hb
    have h_e_15 := h_e_14.later hb
    have h_fn_15 := h_fn_14.below hb
    have h_fd_15 := h_fd_14.below hb
    have h_f_15 := h_f_14.later hb
    have h_hn_15 := h_hn_14.below hb
    have h_hd_15 := h_hd_14.below hb
    have h_h_15 := h_h_14.later hb
    have h_in_15 := h_in_14.below hb
    have h_id_15 := h_id_14.below hb
    have h_i_15 := h_i_14.later hb
    have h_jn_15 := h_jn_14.below hb
    have h_jd_15 := h_jd_14.below hb
    have h_j_15 := h_j_14.later hb
    clear hb B14 h_xn_14 h_xd_14 h_yn_14 h_yd_14 h_x_14 h_y_14 h_en_14 h_ed_14 h_e_14 h_fn_14 h_fd_14 h_f_14 h_hn_14 h_hd_14 h_h_14 h_in_14 h_id_14 h_i_14 h_jn_14 h_jd_14 h_j_14
    refine wp_region_held_drew (S := (fun w' => w'.cell? ⟨w7.heap.size, 0, none⟩ = some (.bool (x).neg) ∧ w'.cell? ⟨w7.heap.size, 1, none⟩ = some (.slice a_f n_f c_f) ∧ w'.cell? ⟨w7.heap.size, 2, none⟩ = some (.slice b_f m_f d_f) ∧ w'.cell? ⟨w.heap.size, 0, none⟩ = some (.bool (x).neg) ∧ w'.cell? ⟨w.heap.size, 1, none⟩ = some (.slice a_x n_x c_x) ∧ w'.cell? ⟨w.heap.size, 2, none⟩ = some (.slice b_x m_x d_x) ∧ w'.cell? ⟨w13.heap.size, 0, none⟩ = some (.bool (x).neg) ∧ w'.cell? ⟨w13.heap.size, 1, none⟩ = some (.slice a_j n_j c_j) ∧ w'.cell? ⟨w13.heap.size, 2, none⟩ = some (.slice b_j m_j d_j) ∧ w'.cell? ⟨w9.heap.size, 0, none⟩ = some (.bool ((ofC 0 1).1).neg) ∧ w'.cell? ⟨w9.heap.size, 1, none⟩ = some (.slice a_h n_h c_h) ∧ w'.cell? ⟨w9.heap.size, 2, none⟩ = some (.slice b_h m_h d_h) ∧ True)) (by kernel_rfl) ?_ (fun hHeld => ?_)
    · exact ⟨h_f_15.cell 0 _ rfl, h_f_15.cell 1 _ rfl, h_f_15.cell 2 _ rfl, h_x_15.cell 0 _ rfl, h_x_15.cell 1 _ rfl, h_x_15.cell 2 _ rfl, h_j_15.cell 0 _ rfl, h_j_15.cell 1 _ rfl, h_j_15.cell 2 _ rfl, h_h_15.cell 0 _ rfl, h_h_15.cell 1 _ rfl, h_h_15.cell 2 _ rfl, trivial⟩
    generalize w14.drew = w15 at *
    refine wpAnyH_take (i := 0) (oi := ?oir1_0) (v := ?vr1_0) ?hir1_0 (by kernel_rfl) (by kernel_rfl) (by kernel_rfl) ?hqr1_0 ?hyr1_0 (by assumption) ?restr1_0
    case hir1_0 => simp only [List.getElem?_toArray, List.getElem?_cons_succ, List.getElem?_cons_zero]; rfl
    case hqr1_0 => exact fun _ _ _ h => h
    case hyr1_0 => (refine Or.inl ⟨by rfl, ?_⟩; intro w hSw; (try dsimp only at hSw); go_simp; all_goals with_reducible rfl)
    try simp only [Act.put, List.setIfInBounds_toArray, List.set_cons_zero, List.set_cons_succ]
    refine wpAnyH_take (i := 1) (oi := ?oir1_1) (v := ?vr1_1) ?hir1_1 (by kernel_rfl) (by kernel_rfl) (by kernel_rfl) ?hqr1_1 ?hyr1_1 (by assumption) ?restr1_1
    case hir1_1 => simp only [List.getElem?_toArray, List.getElem?_cons_succ, List.getElem?_cons_zero]; rfl
    case hqr1_1 => exact fun _ _ _ h => h
    case hyr1_1 => (refine Or.inl ⟨by rfl, ?_⟩; intro w hSw; (try dsimp only at hSw); go_simp; all_goals with_reducible rfl)
    try simp only [Act.put, List.setIfInBounds_toArray, List.set_cons_zero, List.set_cons_succ]
    refine wpAnyH_take (i := 2) (oi := ?oir1_2) (v := ?vr1_2) ?hir1_2 (by kernel_rfl) (by kernel_rfl) (by kernel_rfl) ?hqr1_2 ?hyr1_2 (by assumption) ?restr1_2
    case hir1_2 => simp only [List.getElem?_toArray, List.getElem?_cons_succ, List.getElem?_cons_zero]; rfl
    case hqr1_2 => exact fun _ _ _ h => h
    case hyr1_2 => (refine Or.inl ⟨by rfl, ?_⟩; intro w hSw; (try dsimp only at hSw); go_simp; all_goals with_reducible rfl)
    try simp only [Act.put, List.setIfInBounds_toArray, List.set_cons_zero, List.set_cons_succ]
    refine wpAnyH_take (i := 3) (oi := ?oir1_3) (v := ?vr1_3) ?hir1_3 (by kernel_rfl) (by kernel_rfl) (by kernel_rfl) ?hqr1_3 ?hyr1_3 (by assumption) ?restr1_3
    case hir1_3 => simp only [List.getElem?_toArray, List.getElem?_cons_succ, List.getElem?_cons_zero]; rfl
    case hqr1_3 => exact fun _ _ _ h => h
    case hyr1_3 => (refine Or.inl ⟨by rfl, ?_⟩; intro w hSw; (try dsimp only at hSw); go_simp; all_goals with_reducible rfl)
    try simp only [Act.put, List.setIfInBounds_toArray, List.set_cons_zero, List.set_cons_succ]
    refine wpAnyH_take (i := 4) (oi := ?oir1_4) (v := ?vr1_4) ?hir1_4 (by kernel_rfl) (by kernel_rfl) (by kernel_rfl) ?hqr1_4 ?hyr1_4 (by assumption) ?restr1_4
    case hir1_4 => simp only [List.getElem?_toArray, List.getElem?_cons_succ, List.getElem?_cons_zero]; rfl
    case hqr1_4 => exact fun _ _ _ h => h
    case hyr1_4 => (refine Or.inl ⟨by rfl, ?_⟩; intro w hSw; (try dsimp only at hSw); go_simp; all_goals with_reducible rfl)
    try simp only [Act.put, List.setIfInBounds_toArray, List.set_cons_zero, List.set_cons_succ]
    refine wpAnyH_take (i := 5) (oi := ?oir1_5) (v := ?vr1_5) ?hir1_5 (by kernel_rfl) (by kernel_rfl) (by kernel_rfl) ?hqr1_5 ?hyr1_5 (by assumption) ?restr1_5
    case hir1_5 => simp only [List.getElem?_toArray, List.getElem?_cons_succ, List.getElem?_cons_zero]; rfl
    case hqr1_5 => exact fun _ _ _ h => h
    case hyr1_5 => (refine Or.inl ⟨by rfl, ?_⟩; intro w hSw; (try dsimp only at hSw); go_simp; all_goals with_reducible rfl)
    try simp only [Act.put, List.setIfInBounds_toArray, List.set_cons_zero, List.set_cons_succ]
    refine wpAnyH_take (i := 6) (oi := ?oir1_6) (v := ?vr1_6) ?hir1_6 (by kernel_rfl) (by kernel_rfl) (by kernel_rfl) ?hqr1_6 ?hyr1_6 (by assumption) ?restr1_6
    case hir1_6 => simp only [List.getElem?_toArray, List.getElem?_cons_succ, List.getElem?_cons_zero]; rfl
    case hqr1_6 => exact fun _ _ _ h => h
    case hyr1_6 => (refine Or.inl ⟨by rfl, ?_⟩; intro w hSw; (try dsimp only at hSw); go_simp; all_goals with_reducible rfl)
    try simp only [Act.put, List.setIfInBounds_toArray, List.set_cons_zero, List.set_cons_succ]
    refine wpAnyH_take (i := 7) (oi := ?oir1_7) (v := ?vr1_7) ?hir1_7 (by kernel_rfl) (by kernel_rfl) (by kernel_rfl) ?hqr1_7 ?hyr1_7 (by assumption) ?restr1_7
    case hir1_7 => simp only [List.getElem?_toArray, List.getElem?_cons_succ, List.getElem?_cons_zero]; rfl
    case hqr1_7 => exact fun _ _ _ h => h
    case hyr1_7 => (refine Or.inl ⟨by rfl, ?_⟩; intro w hSw; (try dsimp only at hSw); go_simp; all_goals with_reducible rfl)
    try simp only [Act.put, List.setIfInBounds_toArray, List.set_cons_zero, List.set_cons_succ]
    refine wpAnyH_take (i := 8) (oi := ?oir1_8) (v := ?vr1_8) ?hir1_8 (by kernel_rfl) (by kernel_rfl) (by kernel_rfl) ?hqr1_8 ?hyr1_8 (by assumption) ?restr1_8
    case hir1_8 => simp only [List.getElem?_toArray, List.getElem?_cons_succ, List.getElem?_cons_zero]; rfl
    case hqr1_8 => exact fun _ _ _ h => h
    case hyr1_8 => (refine Or.inl ⟨by rfl, ?_⟩; intro w hSw; (try dsimp only at hSw); go_simp; all_goals with_reducible rfl)
    try simp only [Act.put, List.setIfInBounds_toArray, List.set_cons_zero, List.set_cons_succ]
    refine wpAnyH_take (i := 9) (oi := ?oir1_9) (v := ?vr1_9) ?hir1_9 (by kernel_rfl) (by kernel_rfl) (by kernel_rfl) ?hqr1_9 ?hyr1_9 (by assumption) ?restr1_9
    case hir1_9 => simp only [List.getElem?_toArray, List.getElem?_cons_succ, List.getElem?_cons_zero]; rfl
    case hqr1_9 => exact fun _ _ _ h => h
    case hyr1_9 => (refine Or.inl ⟨by rfl, ?_⟩; intro w hSw; (try dsimp only at hSw); go_simp; all_goals with_reducible rfl)
    try simp only [Act.put, List.setIfInBounds_toArray, List.set_cons_zero, List.set_cons_succ]
    refine wpAnyH_take (i := 10) (oi := ?oir1_10) (v := ?vr1_10) ?hir1_10 (by kernel_rfl) (by kernel_rfl) (by kernel_rfl) ?hqr1_10 ?hyr1_10 (by assumption) ?restr1_10
    case hir1_10 => simp only [List.getElem?_toArray, List.getElem?_cons_succ, List.getElem?_cons_zero]; rfl
    case hqr1_10 => exact fun _ _ _ h => h
    case hyr1_10 => (refine Or.inl ⟨by rfl, ?_⟩; intro w hSw; (try dsimp only at hSw); go_simp; all_goals with_reducible rfl)
    try simp only [Act.put, List.setIfInBounds_toArray, List.set_cons_zero, List.set_cons_succ]
    refine wpAnyH_take (i := 11) (oi := ?oir1_11) (v := ?vr1_11) ?hir1_11 (by kernel_rfl) (by kernel_rfl) (by kernel_rfl) ?hqr1_11 ?hyr1_11 (by assumption) ?restr1_11
    case hir1_11 => simp only [List.getElem?_toArray, List.getElem?_cons_succ, List.getElem?_cons_zero]; rfl
    case hqr1_11 => exact fun _ _ _ h => h
    case hyr1_11 => (refine Or.inl ⟨by rfl, ?_⟩; intro w hSw; (try dsimp only at hSw); go_simp; all_goals with_reducible rfl)
    try simp only [Act.put, List.setIfInBounds_toArray, List.set_cons_zero, List.set_cons_succ]
    refine wpAnyH_take (i := 12) (oi := ?oir1_12) (v := ?vr1_12) ?hir1_12 (by kernel_rfl) (by kernel_rfl) (by kernel_rfl) ?hqr1_12 ?hyr1_12 (by assumption) ?restr1_12
    case hir1_12 => simp only [List.getElem?_toArray, List.getElem?_cons_succ, List.getElem?_cons_zero]; rfl
    case hqr1_12 => exact fun _ _ _ h => h
    case hyr1_12 => (refine Or.inl ⟨by rfl, ?_⟩; intro w hSw; (try dsimp only at hSw); go_simp; all_goals with_reducible rfl)
    try simp only [Act.put, List.setIfInBounds_toArray, List.set_cons_zero, List.set_cons_succ]
    refine wpAnyH_take (i := 13) (oi := ?oir1_13) (v := ?vr1_13) ?hir1_13 (by kernel_rfl) (by kernel_rfl) (by kernel_rfl) ?hqr1_13 ?hyr1_13 (by assumption) ?restr1_13
    case hir1_13 => simp only [List.getElem?_toArray, List.getElem?_cons_succ, List.getElem?_cons_zero]; rfl
    case hqr1_13 => exact fun _ _ _ h => h
    case hyr1_13 => (refine Or.inl ⟨by rfl, ?_⟩; intro w hSw; (try dsimp only at hSw); go_simp; all_goals with_reducible rfl)
    try simp only [Act.put, List.setIfInBounds_toArray, List.set_cons_zero, List.set_cons_succ]
    refine wpAnyH_take (i := 14) (oi := ?oir1_14) (v := ?vr1_14) ?hir1_14 (by kernel_rfl) (by kernel_rfl) (by kernel_rfl) ?hqr1_14 ?hyr1_14 (by assumption) ?restr1_14
    case hir1_14 => simp only [List.getElem?_toArray, List.getElem?_cons_succ, List.getElem?_cons_zero]; rfl
    case hqr1_14 => exact fun _ _ _ h => h
    case hyr1_14 => (refine Or.inl ⟨by rfl, ?_⟩; intro w hSw; (try dsimp only at hSw); go_simp; all_goals with_reducible rfl)
    try simp only [Act.put, List.setIfInBounds_toArray, List.set_cons_zero, List.set_cons_succ]
    refine wpAnyH_take (i := 15) (oi := ?oir1_15) (v := ?vr1_15) ?hir1_15 (by kernel_rfl) (by kernel_rfl) (by kernel_rfl) ?hqr1_15 ?hyr1_15 (by assumption) ?restr1_15
    case hir1_15 => simp only [List.getElem?_toArray, List.getElem?_cons_succ, List.getElem?_cons_zero]; rfl
    case hqr1_15 => exact fun _ _ _ h => h
    case hyr1_15 => (refine Or.inl ⟨by rfl, ?_⟩; intro w hSw; (try dsimp only at hSw); go_simp; all_goals with_reducible rfl)
    try simp only [Act.put, List.setIfInBounds_toArray, List.set_cons_zero, List.set_cons_succ]
    refine wpAnyH_take (i := 16) (oi := ?oir1_16) (v := ?vr1_16) ?hir1_16 (by kernel_rfl) (by kernel_rfl) (by kernel_rfl) ?hqr1_16 ?hyr1_16 (by assumption) ?restr1_16
    case hir1_16 => simp only [List.getElem?_toArray, List.getElem?_cons_succ, List.getElem?_cons_zero]; rfl
    case hqr1_16 => exact fun _ _ _ h => h
    case hyr1_16 => (refine Or.inl ⟨by rfl, ?_⟩; intro w hSw; (try dsimp only at hSw); go_simp; all_goals with_reducible rfl)
    try simp only [Act.put, List.setIfInBounds_toArray, List.set_cons_zero, List.set_cons_succ]
    refine wpAnyH_take (i := 17) (oi := ?oir1_17) (v := ?vr1_17) ?hir1_17 (by kernel_rfl) (by kernel_rfl) (by kernel_rfl) ?hqr1_17 ?hyr1_17 (by assumption) ?restr1_17
    case hir1_17 => simp only [List.getElem?_toArray, List.getElem?_cons_succ, List.getElem?_cons_zero]; rfl
    case hqr1_17 => exact fun _ _ _ h => h
    case hyr1_17 => (refine Or.inl ⟨by rfl, ?_⟩; intro w hSw; (try dsimp only at hSw); go_simp; all_goals with_reducible rfl)
    try simp only [Act.put, List.setIfInBounds_toArray, List.set_cons_zero, List.set_cons_succ]
    refine wpAnyH_take (i := 18) (oi := ?oir1_18) (v := ?vr1_18) ?hir1_18 (by kernel_rfl) (by kernel_rfl) (by kernel_rfl) ?hqr1_18 ?hyr1_18 (by assumption) ?restr1_18
    case hir1_18 => simp only [List.getElem?_toArray, List.getElem?_cons_succ, List.getElem?_cons_zero]; rfl
    case hqr1_18 => exact fun _ _ _ h => h
    case hyr1_18 => (refine Or.inl ⟨by rfl, ?_⟩; intro w hSw; (try dsimp only at hSw); go_simp; all_goals with_reducible rfl)
    try simp only [Act.put, List.setIfInBounds_toArray, List.set_cons_zero, List.set_cons_succ]
    refine wpAnyH_take (i := 19) (oi := ?oir1_19) (v := ?vr1_19) ?hir1_19 (by kernel_rfl) (by kernel_rfl) (by kernel_rfl) ?hqr1_19 ?hyr1_19 (by assumption) ?restr1_19
    case hir1_19 => simp only [List.getElem?_toArray, List.getElem?_cons_succ, List.getElem?_cons_zero]; rfl
    case hqr1_19 => exact fun _ _ _ h => h
    case hyr1_19 => (refine Or.inl ⟨by rfl, ?_⟩; intro w hSw; (try dsimp only at hSw); go_simp; all_goals with_reducible rfl)
    try simp only [Act.put, List.setIfInBounds_toArray, List.set_cons_zero, List.set_cons_succ]
    refine wpAnyH_take (i := 20) (oi := ?oir1_20) (v := ?vr1_20) ?hir1_20 (by kernel_rfl) (by kernel_rfl) (by kernel_rfl) ?hqr1_20 ?hyr1_20 (by assumption) ?restr1_20
    case hir1_20 => simp only [List.getElem?_toArray, List.getElem?_cons_succ, List.getElem?_cons_zero]; rfl
    case hqr1_20 => exact fun _ _ _ h => h
    case hyr1_20 => (refine Or.inl ⟨by rfl, ?_⟩; intro w hSw; (try dsimp only at hSw); go_simp; all_goals with_reducible rfl)
    try simp only [Act.put, List.setIfInBounds_toArray, List.set_cons_zero, List.set_cons_succ]
    refine wpAnyH_ready (rs := [21]) (by kernel_rfl) (by simp) ?_
    refine AllReadyH.cons (o := ?or2_21) ?hor2_21 (fun K hK => ?kr2_21) AllReadyH.nil
    case hor2_21 => simp only [List.getElem?_toArray, List.getElem?_cons_succ, List.getElem?_cons_zero]; rfl
    go_simp
    have c := refRatSame_any w15 (g1 := (x).neg) (g2 := (x).neg) h_fn_15 h_fd_15 h_xn_15 h_xd_15
    rw [show (⟨(x).neg, (x).num, (x).den⟩ : QV) = x from rfl] at c
    rw [sameV_self] at c
    refine c.mono ?_
    rintro e w16 ⟨rfl, hb⟩
    clear c
    have B16 := B15.trans (hb.mono B15.size)
    have h_xn_16 := h_xn_15.below hb
    have h_xd_16 := h_xd_15.below hb
    have h_yn_16 := h_yn_15.below hb
    have h_yd_16 := h_yd_15.below hb
    have h_x_16 := h_x_15.later hb
    have h_y_16 := h_y_15.later hb
    have h_en_16 := h_en_15.below hb
    have h_ed_16 := h_ed_15.below hb
    have h_e_16 := h_e_15.later hb
    have h_fn_16 := h_fn_15.below hb
    have h_fd_16 := h_fd_15.below hb
    have h_f_16 := h_f_15.later hb
    have h_hn_16 := h_hn_15.below hb
    have h_hd_16 := h_hd_15.below hb
    have h_h_16 := h_h_15.later hb
    have h_in_16 := h_in_15.below hb
    have h_id_16 := h_id_15.below hb
    have h_i_16 := h_i_15.later hb
    have h_jn_16 := h_jn_15.below hb
    have h_jd_16 := h_jd_15.below hb
    have h_j_16 := h_j_15.later hb
    clear hb B15 h_xn_15 h_xd_15 h_yn_15 h_yd_15 h_x_15 h_y_15 h_en_15 h_ed_15 h_e_15 h_fn_15 h_fd_15 h_f_15 h_hn_15 h_hd_15 h_h_15 h_in_15 h_id_15 h_i_15 h_jn_15 h_jd_15 h_j_15
    go_wp2_with fail
    clear hHeld
    refine hK.out _ _ ?_ (fun hHeld => ?_)
    · exact ⟨h_f_16.cell 0 _ rfl, h_f_16.cell 1 _ rfl, h_f_16.cell 2 _ rfl, h_x_16.cell 0 _ rfl, h_x_16.cell 1 _ rfl, h_x_16.cell 2 _ rfl, h_j_16.cell 0 _ rfl, h_j_16.cell 1 _ rfl, h_j_16.cell 2 _ rfl, h_h_16.cell 0 _ rfl, h_h_16.cell 1 _ rfl, h_h_16.cell 2 _ rfl, trivial⟩
    clear hK K
    try simp only [Act.put, List.setIfInBounds_toArray, List.set_cons_zero, List.set_cons_succ]
    refine wpAnyH_take (i := 22) (oi := ?oir3_22) (v := ?vr3_22) ?hir3_22 (by kernel_rfl) (by kernel_rfl) (by kernel_rfl) ?hqr3_22 ?hyr3_22 (by assumption) ?restr3_22
    case hir3_22 => simp only [List.getElem?_toArray, List.getElem?_cons_succ, List.getElem?_cons_zero]; rfl
    case hqr3_22 => exact fun _ _ _ h => h
    case hyr3_22 => (refine Or.inl ⟨by rfl, ?_⟩; intro w hSw; (try dsimp only at hSw); go_simp; all_goals with_reducible rfl)
    try simp only [Act.put, List.setIfInBounds_toArray, List.set_cons_zero, List.set_cons_succ]
    refine wpAnyH_take (i := 23) (oi := ?oir3_23) (v := ?vr3_23) ?hir3_23 (by kernel_rfl) (by kernel_rfl) (by kernel_rfl) ?hqr3_23 ?hyr3_23 (by assumption) ?restr3_23
    case hir3_23 => simp only [List.getElem?_toArray, List.getElem?_cons_succ, List.getElem?_cons_zero]; rfl
    case hqr3_23 => exact fun _ _ _ h => h
    case hyr3_23 => (refine Or.inl ⟨by rfl, ?_⟩; intro w hSw; (try dsimp only at hSw); go_simp; all_goals with_reducible rfl)
    try simp only [Act.put, List.setIfInBounds_toArray, List.set_cons_zero, List.set_cons_succ]
    refine wpAnyH_take (i := 24) (oi := ?oir3_24) (v := ?vr3_24) ?hir3_24 (by kernel_rfl) (by kernel_rfl) (by kernel_rfl) ?hqr3_24 ?hyr3_24 (by assumption) ?restr3_24
    case hir3_24 => simp only [List.getElem?_toArray, List.getElem?_cons_succ, List.getElem?_cons_zero]; rfl
    case hqr3_24 => exact fun _ _ _ h => h
    case hyr3_24 => (refine Or.inl ⟨by rfl, ?_⟩; intro w hSw; (try dsimp only at hSw); go_simp; all_goals with_reducible rfl)
    try simp only [Act.put, List.setIfInBounds_toArray, List.set_cons_zero, List.set_cons_succ]
    refine wpAnyH_take (i := 25) (oi := ?oir3_25) (v := ?vr3_25) ?hir3_25 (by kernel_rfl) (by kernel_rfl) (by kernel_rfl) ?hqr3_25 ?hyr3_25 (by assumption) ?restr3_25
    case hir3_25 => simp only [List.getElem?_toArray, List.getElem?_cons_succ, List.getElem?_cons_zero]; rfl
    case hqr3_25 => exact fun _ _ _ h => h
    case hyr3_25 => (refine Or.inl ⟨by rfl, ?_⟩; intro w hSw; (try dsimp only at hSw); go_simp; all_goals with_reducible rfl)
    try simp only [Act.put, List.setIfInBounds_toArray, List.set_cons_zero, List.set_cons_succ]
    refine wpAnyH_take (i := 26) (oi := ?oir3_26) (v := ?vr3_26) ?hir3_26 (by kernel_rfl) (by kernel_rfl) (by kernel_rfl) ?hqr3_26 ?hyr3_26 (by assumption) ?restr3_26
    case hir3_26 => simp only [List.getElem?_toArray, List.getElem?_cons_succ, List.getElem?_cons_zero]; rfl
    case hqr3_26 => exact fun _ _ _ h => h
    case hyr3_26 => (refine Or.inl ⟨by rfl, ?_⟩; intro w hSw; (try dsimp only at hSw); go_simp; all_goals with_reducible rfl)
    try simp only [Act.put, List.setIfInBounds_toArray, List.set_cons_zero, List.set_cons_succ]
    refine wpAnyH_ready (rs := [27]) (by kernel_rfl) (by simp) ?_
    refine AllReadyH.cons (o := ?or4_27) ?hor4_27 (fun K hK => ?kr4_27) AllReadyH.nil
    case hor4_27 => simp only [List.getElem?_toArray, List.getElem?_cons_succ, List.getElem?_cons_zero]; rfl
    go_simp
    have c := refRatSame_any w16 (g1 := (x).neg) (g2 := (x).neg) h_jn_16 h_jd_16 h_xn_16 h_xd_16
    rw [show (⟨(x).neg, (x).num, (x).den⟩ : QV) = x from rfl] at c
    rw [sameV_self] at c
    refine c.mono ?_
    rintro e w17 ⟨rfl, hb⟩
    clear c
    have B17 := B16.trans (hb.mono B16.size)
    have h_xn_17 := h_xn_16.below hb
    have h_xd_17 := h_xd_16.below hb
    have h_yn_17 := h_yn_16.below hb
    have h_yd_17 := h_yd_16.below hb
    have h_x_17 := h_x_16.later hb
    have h_y_17 := h_y_16.later hb
    have h_en_17 := h_en_16.below hb
    have h_ed_17 := h_ed_16.below hb
    have h_e_17 := h_e_16.later hb
    have h_fn_17 := h_fn_16.below hb
    have h_fd_17 := h_fd_16.below hb
    have h_f_17 := h_f_16.later hb
    have h_hn_17 := h_hn_16.below hb
    have h_hd_17 := h_hd_16.below hb
    have h_h_17 := h_h_16.later hb
    have h_in_17 := h_in_16.below hb
    have h_id_17 := h_id_16.below hb
    have h_i_17 := h_i_16.later hb
    have h_jn_17 := h_jn_16.below hb
    have h_jd_17 := h_jd_16.below hb
    have h_j_17 := h_j_16.later hb
    clear hb B16 h_xn_16 h_xd_16 h_yn_16 h_yd_16 h_x_16 h_y_16 h_en_16 h_ed_16 h_e_16 h_fn_16 h_fd_16 h_f_16 h_hn_16 h_hd_16 h_h_16 h_in_16 h_id_16 h_i_16 h_jn_16 h_jd_16 h_j_16
    go_wp2_with fail
    clear hHeld
    refine hK.out _ _ ?_ (fun hHeld => ?_)
    · exact ⟨h_f_17.cell 0 _ rfl, h_f_17.cell 1 _ rfl, h_f_17.cell 2 _ rfl, h_x_17.cell 0 _ rfl, h_x_17.cell 1 _ rfl, h_x_17.cell 2 _ rfl, h_j_17.cell 0 _ rfl, h_j_17.cell 1 _ rfl, h_j_17.cell 2 _ rfl, h_h_17.cell 0 _ rfl, h_h_17.cell 1 _ rfl, h_h_17.cell 2 _ rfl, trivial⟩
    clear hK K
    try simp only [Act.put, List.setIfInBounds_toArray, List.set_cons_zero, List.set_cons_succ]
    as_aux_lemma =>
      refine wpAnyH_take (i := 28) (oi := ?oir6_28) (v := ?vr6_28) ?hir6_28 (by kernel_rfl) (by kernel_rfl) (by kernel_rfl) ?hqr6_28 ?hyr6_28 (by assumption) ?restr6_28
      case hir6_28 => simp only [List.getElem?_toArray, List.getElem?_cons_succ, List.getElem?_cons_zero]; rfl
      case hqr6_28 => exact fun _ _ _ h => h
      case hyr6_28 => (refine Or.inl ⟨by rfl, ?_⟩; intro w hSw; (try dsimp only at hSw); go_simp; all_goals with_reducible rfl)
      try simp only [Act.put, List.setIfInBounds_toArray, List.set_cons_zero, List.set_cons_succ]
      refine wpAnyH_take (i := 29) (oi := ?oir6_29) (v := ?vr6_29) ?hir6_29 (by kernel_rfl) (by kernel_rfl) (by kernel_rfl) ?hqr6_29 ?hyr6_29 (by assumption) ?restr6_29
      case hir6_29 => simp only [List.getElem?_toArray, List.getElem?_cons_succ, List.getElem?_cons_zero]; rfl
      case hqr6_29 => exact fun _ _ _ h => h
      case hyr6_29 => (refine Or.inl ⟨by rfl, ?_⟩; intro w hSw; (try dsimp only at hSw); go_simp; all_goals with_reducible rfl)
      try simp only [Act.put, List.setIfInBounds_toArray, List.set_cons_zero, List.set_cons_succ]
      refine wpAnyH_take (i := 30) (oi := ?oir6_30) (v := ?vr6_30) ?hir6_30 (by kernel_rfl) (by kernel_rfl) (by kernel_rfl) ?hqr6_30 ?hyr6_30 (by assumption) ?restr6_30
      case hir6_30 => simp only [List.getElem?_toArray, List.getElem?_cons_succ, List.getElem?_cons_zero]; rfl
      case hqr6_30 => exact fun _ _ _ h => h
      case hyr6_30 => (refine Or.inl ⟨by rfl, ?_⟩; intro w hSw; (try dsimp only at hSw); go_simp; all_goals with_reducible rfl)
      try simp only [Act.put, List.setIfInBounds_toArray, List.set_cons_zero, List.set_cons_succ]
      refine wpAnyH_take (i := 31) (oi := ?oir6_31) (v := ?vr6_31) ?hir6_31 (by kernel_rfl) (by kernel_rfl) (by kernel_rfl) ?hqr6_31 ?hyr6_31 (by assumption) ?restr6_31
      case hir6_31 => simp only [List.getElem?_toArray, List.getElem?_cons_succ, List.getElem?_cons_zero]; rfl
      case hqr6_31 => exact fun _ _ _ h => h
      case hyr6_31 => (refine Or.inl ⟨by rfl, ?_⟩; intro w hSw; (try dsimp only at hSw); go_simp; all_goals with_reducible rfl)
      try simp only [Act.put, List.setIfInBounds_toArray, List.set_cons_zero, List.set_cons_succ]
      refine wpAnyH_ready (rs := [32]) (by kernel_rfl) (by simp) ?_
      refine AllReadyH.cons (o := ?or7_32) ?hor7_32 (fun K hK => ?kr7_32) AllReadyH.nil
      case hor7_32 => simp only [List.getElem?_toArray, List.getElem?_cons_succ, List.getElem?_cons_zero]; rfl
      go_simp
      have c := whole_any w17 0 (by decide) (by decide)
      refine c.mono ?_
      rintro e w18 ⟨a_o, n_o, c_o, b_o, m_o, d_o, rfl, h_on_18, h_od_18, hb⟩
      clear c
      have B18 := B17.trans (hb.mono B17.size)
      have h_xn_18 := h_xn_17.below hb
      have h_xd_18 := h_xd_17.below hb
      have h_yn_18 := h_yn_17.below hb
      have h_yd_18 := h_yd_17.below hb
      have h_x_18 := h_x_17.later hb
      have h_y_18 := h_y_17.later hb
      have h_en_18 := h_en_17.below hb
      have h_ed_18 := h_ed_17.below hb
      have h_e_18 := h_e_17.later hb
      have h_fn_18 := h_fn_17.below hb
      have h_fd_18 := h_fd_17.below hb
      have h_f_18 := h_f_17.later hb
      have h_hn_18 := h_hn_17.below hb
      have h_hd_18 := h_hd_17.below hb
      have h_h_18 := h_h_17.later hb
      have h_in_18 := h_in_17.below hb
      have h_id_18 := h_id_17.below hb
      have h_i_18 := h_i_17.later hb
      have h_jn_18 := h_jn_17.below hb
      have h_jd_18 := h_jd_17.below hb
      have h_j_18 := h_j_17.later hb
      clear hb B17 h_xn_17 h_xd_17 h_yn_17 h_yd_17 h_x_17 h_y_17 h_en_17 h_ed_17 h_e_17 h_fn_17 h_fd_17 h_f_17 h_hn_17 h_hd_17 h_h_17 h_in_17 h_id_17 h_i_17 h_jn_17 h_jd_17 h_j_17
      go_wp2_with fail
      clear hHeld
      refine hK.out _ _ ?_ (fun hHeld => ?_)
      · exact ⟨h_f_18.cell 0 _ rfl, h_f_18.cell 1 _ rfl, h_f_18.cell 2 _ rfl, h_x_18.cell 0 _ rfl, h_x_18.cell 1 _ rfl, h_x_18.cell 2 _ rfl, h_j_18.cell 0 _ rfl, h_j_18.cell 1 _ rfl, h_j_18.cell 2 _ rfl, h_h_18.cell 0 _ rfl, h_h_18.cell 1 _ rfl, h_h_18.cell 2 _ rfl, trivial⟩
      clear hK K
      try simp only [Act.put, List.setIfInBounds_toArray, List.set_cons_zero, List.set_cons_succ]
      refine wpAnyH_ready (rs := [33]) (by kernel_rfl) (by simp) ?_
      refine AllReadyH.cons (o := ?or8_33) ?hor8_33 (fun K hK => ?kr8_33) AllReadyH.nil
      case hor8_33 => simp only [List.getElem?_toArray, List.getElem?_cons_succ, List.getElem?_cons_zero]; rfl
      go_simp
      have c := refRatSame_any w18 (g1 := ((ofC 0 1).1).neg) (g2 := ((ofC 0 1).1).neg) h_hn_18 h_hd_18 h_on_18 h_od_18
      rw [show (⟨((ofC 0 1).1).neg, ((ofC 0 1).1).num, ((ofC 0 1).1).den⟩ : QV) = (ofC 0 1).1 from rfl] at c
      rw [sameV_self] at c
      refine c.mono ?_
      rintro e w19 ⟨rfl, hb⟩
      clear c
      have B19 := B18.trans (hb.mono B18.size)
      have h_xn_19 := h_xn_18.below hb
      have h_xd_19 := h_xd_18.below hb
      have h_yn_19 := h_yn_18.below hb
      have h_yd_19 := h_yd_18.below hb
      have h_x_19 := h_x_18.later hb
      have h_y_19 := h_y_18.later hb
      have h_en_19 := h_en_18.below hb
      have h_ed_19 := h_ed_18.below hb
      have h_e_19 := h_e_18.later hb
      have h_fn_19 := h_fn_18.below hb
      have h_fd_19 := h_fd_18.below hb
      have h_f_19 := h_f_18.later hb
      have h_hn_19 := h_hn_18.below hb
      have h_hd_19 := h_hd_18.below hb
      have h_h_19 := h_h_18.later hb
      have h_in_19 := h_in_18.below hb
      have h_id_19 := h_id_18.below hb
      have h_i_19 := h_i_18.later hb
      have h_jn_19 := h_jn_18.below hb
      have h_jd_19 := h_jd_18.below hb
      have h_j_19 := h_j_18.later hb
      clear hb B18 h_xn_18 h_xd_18 h_yn_18 h_yd_18 h_x_18 h_y_18 h_en_18 h_ed_18 h_e_18 h_fn_18 h_fd_18 h_f_18 h_hn_18 h_hd_18 h_h_18 h_in_18 h_id_18 h_i_18 h_jn_18 h_jd_18 h_j_18 h_on_18 h_od_18
      go_wp2_with fail
      clear hHeld
      refine hK.out _ _ ?_ (fun hHeld => ?_)
      · exact ⟨h_f_19.cell 0 _ rfl, h_f_19.cell 1 _ rfl, h_f_19.cell 2 _ rfl, h_x_19.cell 0 _ rfl, h_x_19.cell 1 _ rfl, h_x_19.cell 2 _ rfl, h_j_19.cell 0 _ rfl, h_j_19.cell 1 _ rfl, h_j_19.cell 2 _ rfl, h_h_19.cell 0 _ rfl, h_h_19.cell 1 _ rfl, h_h_19.cell 2 _ rfl, trivial⟩
      clear hK K
      try simp only [Act.put, List.setIfInBounds_toArray, List.set_cons_zero, List.set_cons_succ]
      refine wpAnyH_take (i := 34) (oi := ?oir9_34) (v := ?vr9_34) ?hir9_34 (by kernel_rfl) (by kernel_rfl) (by kernel_rfl) ?hqr9_34 ?hyr9_34 (by assumption) ?restr9_34
      case hir9_34 => simp only [List.getElem?_toArray, List.getElem?_cons_succ, List.getElem?_cons_zero]; rfl
      case hqr9_34 => exact fun _ _ _ h => h
      case hyr9_34 => (refine Or.inl ⟨by rfl, ?_⟩; intro w hSw; (try dsimp only at hSw); go_simp; all_goals with_reducible rfl)
      try simp only [Act.put, List.setIfInBounds_toArray, List.set_cons_zero, List.set_cons_succ]
      refine wpAnyH_take (i := 35) (oi := ?oir9_35) (v := ?vr9_35) ?hir9_35 (by kernel_rfl) (by kernel_rfl) (by kernel_rfl) ?hqr9_35 ?hyr9_35 (by assumption) ?restr9_35
      case hir9_35 => simp only [List.getElem?_toArray, List.getElem?_cons_succ, List.getElem?_cons_zero]; rfl
      case hqr9_35 => exact fun _ _ _ h => h
      case hyr9_35 => (refine Or.inl ⟨by rfl, ?_⟩; intro w hSw; (try dsimp only at hSw); go_simp; all_goals with_reducible rfl)
      try simp only [Act.put, List.setIfInBounds_toArray, List.set_cons_zero, List.set_cons_succ]
      refine wpAnyH_done (by kernel_rfl) ?_ _
      clear hHeld
      clear h_e_19 h_en_19 h_ed_19 h_f_19 h_fn_19 h_fd_19 h_h_19 h_hn_19 h_hd_19 h_i_19 h_in_19 h_id_19 h_j_19 h_jn_19 h_jd_19
      have k_x_0 := h_x_19.cell 0 _ rfl
      have k_x_1 := h_x_19.cell 1 _ rfl
      have k_x_2 := h_x_19.cell 2 _ rfl
      have k_y_0 := h_y_19.cell 0 _ rfl
      have k_y_1 := h_y_19.cell 1 _ rfl
      have k_y_2 := h_y_19.cell 2 _ rfl
      go_wp2_with fail
      clear k_x_0 k_x_1 k_x_2 k_y_0 k_y_1 k_y_2
      have c := ratMul_any w19 (g1 := (x).neg) (g2 := (y).neg) h_xn_19 h_xd_19 h_yn_19 h_yd_19
      rw [show (⟨(x).neg, (x).num, (x).den⟩ : QV) = x from rfl] at c
      rw [show (⟨(y).neg, (y).num, (y).den⟩ : QV) = y from rfl] at c
      rw [F5.out] at c
      refine c.mono ?_
      rintro e w20 ⟨a_k, n_k, c_k, b_k, m_k, d_k, rfl, h_kn_20, h_kd_20, hb⟩
      clear c
      have B20 := B19.trans (hb.mono B19.size)
      have h_xn_20 := h_xn_19.below hb
      have h_xd_20 := h_xd_19.below hb
      have h_yn_20 := h_yn_19.below hb
      have h_yd_20 := h_yd_19.below hb
      have h_x_20 := h_x_19.later hb
      have h_y_20 := h_y_19.later hb
      clear hb B19 h_xn_19 h_xd_19 h_yn_19 h_yd_19 h_x_19 h_y_19
      have hb := below_al w20 (.cells #[.bool ((ofC 0 1).1).neg, .slice a_k n_k c_k, .slice b_k m_k d_k] 24)
      have B21 := B20.trans (hb.mono B20.size)
      have h_xn_21 := h_xn_20.below hb
      have h_xd_21 := h_xd_20.below hb
      have h_yn_21 := h_yn_20.below hb
      have h_yd_21 := h_yd_20.below hb
      have h_x_21 := h_x_20.later hb
      have h_y_21 := h_y_20.later hb
      have h_kn_21 := h_kn_20.below hb
      have h_kd_21 := h_kd_20.below hb
      clear hb B20 h_xn_20 h_xd_20 h_yn_20 h_yd_20 h_x_20 h_y_20 h_kn_20 h_kd_20
      have h_k_21 := Has.new w20 #[.bool ((ofC 0 1).1).neg, .slice a_k n_k c_k, .slice b_k m_k d_k] 24
      have k_k_0 := h_k_21.cell 0 _ rfl
      have k_k_1 := h_k_21.cell 1 _ rfl
      have k_k_2 := h_k_21.cell 2 _ rfl
      have k_y_0 := h_y_21.cell 0 _ rfl
      have k_y_1 := h_y_21.cell 1 _ rfl
      have k_y_2 := h_y_21.cell 2 _ rfl
      go_wp2_with first | refine wpList_store_new rfl 24 _ _ rfl atRat _ _ _ rfl rfl rfl rfl (rat_one _ _ _ _ _ _ _) ?_
      clear k_k_0 k_k_1 k_k_2 k_y_0 k_y_1 k_y_2
      generalize (w20.alloc (.cells #[.bool ((ofC 0 1).1).neg, .slice a_k n_k c_k, .slice b_k m_k d_k] 24)) = w21 at *
      have c := ratDiv_any w21 (g1 := ((ofC 0 1).1).neg) (g2 := (y).neg) h_kn_21 h_kd_21 h_yn_21 h_yd_21
      rw [show (⟨((ofC 0 1).1).neg, ((ofC 0 1).1).num, ((ofC 0 1).1).den⟩ : QV) = (ofC 0 1).1 from rfl] at c
      rw [show (⟨(y).neg, (y).num, (y).den⟩ : QV) = y from rfl] at c
      rw [F8.out] at c
      refine c.mono ?_
      rintro e w22 ⟨a_e, n_e, c_e, b_e, m_e, d_e, rfl, h_en_22, h_ed_22, hb⟩
      clear c
      have B22 := B21.trans (hb.mono B21.size)
      have h_xn_22 := h_xn_21.below hb
      have h_xd_22 := h_xd_21.below hb
      have h_yn_22 := h_yn_21.below hb
      have h_yd_22 := h_yd_21.below hb
      have h_x_22 := h_x_21.later hb
      have h_y_22 := h_y_21.later hb
      have h_kn_22 := h_kn_21.below hb
      have h_kd_22 := h_kd_21.below hb
      have h_k_22 := h_k_21.later hb
      clear hb B21 h_xn_21 h_xd_21 h_yn_21 h_yd_21 h_x_21 h_y_21 h_kn_21 h_kd_21 h_k_21
      have hb := below_al w22 (.cells #[.bool (zeroV).neg, .slice a_e n_e c_e, .slice b_e m_e d_e] 24)
      have B23 := B22.trans (hb.mono B22.size)
      have h_xn_23 := h_xn_22.below hb
      have h_xd_23 := h_xd_22.below hb
      have h_yn_23 := h_yn_22.below hb
      have h_yd_23 := h_yd_22.below hb
      have h_x_23 := h_x_22.later hb
      have h_y_23 := h_y_22.later hb
      have h_kn_23 := h_kn_22.below hb
      have h_kd_23 := h_kd_22.below hb
      have h_k_23 := h_k_22.later hb
      have h_en_23 := h_en_22.below hb
      have h_ed_23 := h_ed_22.below hb
      clear hb B22 h_xn_22 h_xd_22 h_yn_22 h_yd_22 h_x_22 h_y_22 h_kn_22 h_kd_22 h_k_22 h_en_22 h_ed_22
      have h_e_23 := Has.new w22 #[.bool (zeroV).neg, .slice a_e n_e c_e, .slice b_e m_e d_e] 24
      have k_y_0 := h_y_23.cell 0 _ rfl
      have k_y_1 := h_y_23.cell 1 _ rfl
      have k_y_2 := h_y_23.cell 2 _ rfl
      go_wp2_with first | refine wpList_store_new rfl 24 _ _ rfl atRat _ _ _ rfl rfl rfl rfl (rat_one _ _ _ _ _ _ _) ?_
      clear k_y_0 k_y_1 k_y_2
      generalize (w22.alloc (.cells #[.bool (zeroV).neg, .slice a_e n_e c_e, .slice b_e m_e d_e] 24)) = w23 at *
      have hb := (Below.refl w23.heap.size w23).drew
      have B24 := B23.trans (hb.mono B23.size)
      have h_xn_24 := h_xn_23.below hb
      have h_xd_24 := h_xd_23.below hb
      have h_yn_24 := h_yn_23.below hb
      have h_yd_24 := h_yd_23.below hb
      have h_x_24 := h_x_23.later hb
      have h_y_24 := h_y_23.later hb
      have h_kn_24 := h_kn_23.below hb
      have h_kd_24 := h_kd_23.below hb
      have h_k_24 := h_k_23.later hb
      have h_en_24 := h_en_23.below hb
      have h_ed_24 := h_ed_23.below hb
      have h_e_24 := h_e_23.later hb
      clear hb B23 h_xn_23 h_xd_23 h_yn_23 h_yd_23 h_x_23 h_y_23 h_kn_23 h_kd_23 h_k_23 h_en_23 h_ed_23 h_e_23
      refine wp_region_held_drew (S := (fun w' => w'.cell? ⟨w20.heap.size, 0, none⟩ = some (.bool ((ofC 0 1).1).neg) ∧ w'.cell? ⟨w20.heap.size, 1, none⟩ = some (.slice a_k n_k c_k) ∧ w'.cell? ⟨w20.heap.size, 2, none⟩ = some (.slice b_k m_k d_k) ∧ True)) (by kernel_rfl) ?_ (fun hHeld => ?_)
      · exact ⟨h_k_24.cell 0 _ rfl, h_k_24.cell 1 _ rfl, h_k_24.cell 2 _ rfl, trivial⟩
      generalize w23.drew = w24 at *
      refine wpAnyH_take (i := 0) (oi := ?oir10_0) (v := ?vr10_0) ?hir10_0 (by kernel_rfl) (by kernel_rfl) (by kernel_rfl) ?hqr10_0 ?hyr10_0 (by assumption) ?restr10_0
      case hir10_0 => simp only [List.getElem?_toArray, List.getElem?_cons_succ, List.getElem?_cons_zero]; rfl
      case hqr10_0 => exact fun _ _ _ h => h
      case hyr10_0 => (refine Or.inl ⟨by rfl, ?_⟩; intro w hSw; (try dsimp only at hSw); go_simp; all_goals with_reducible rfl)
      try simp only [Act.put, List.setIfInBounds_toArray, List.set_cons_zero, List.set_cons_succ]
      refine wpAnyH_take (i := 1) (oi := ?oir10_1) (v := ?vr10_1) ?hir10_1 (by kernel_rfl) (by kernel_rfl) (by kernel_rfl) ?hqr10_1 ?hyr10_1 (by assumption) ?restr10_1
      case hir10_1 => simp only [List.getElem?_toArray, List.getElem?_cons_succ, List.getElem?_cons_zero]; rfl
      case hqr10_1 => exact fun _ _ _ h => h
      case hyr10_1 => (refine Or.inl ⟨by rfl, ?_⟩; intro w hSw; (try dsimp only at hSw); go_simp; all_goals with_reducible rfl)
      try simp only [Act.put, List.setIfInBounds_toArray, List.set_cons_zero, List.set_cons_succ]
      refine wpAnyH_take (i := 2) (oi := ?oir10_2) (v := ?vr10_2) ?hir10_2 (by kernel_rfl) (by kernel_rfl) (by kernel_rfl) ?hqr10_2 ?hyr10_2 (by assumption) ?restr10_2
      case hir10_2 => simp only [List.getElem?_toArray, List.getElem?_cons_succ, List.getElem?_cons_zero]; rfl
      case hqr10_2 => exact fun _ _ _ h => h
      case hyr10_2 => (refine Or.inl ⟨by rfl, ?_⟩; intro w hSw; (try dsimp only at hSw); go_simp; all_goals with_reducible rfl)
      try simp only [Act.put, List.setIfInBounds_toArray, List.set_cons_zero, List.set_cons_succ]
      refine wpAnyH_take (i := 3) (oi := ?oir10_3) (v := ?vr10_3) ?hir10_3 (by kernel_rfl) (by kernel_rfl) (by kernel_rfl) ?hqr10_3 ?hyr10_3 (by assumption) ?restr10_3
      case hir10_3 => simp only [List.getElem?_toArray, List.getElem?_cons_succ, List.getElem?_cons_zero]; rfl
      case hqr10_3 => exact fun _ _ _ h => h
      case hyr10_3 => (refine Or.inl ⟨by rfl, ?_⟩; intro w hSw; (try dsimp only at hSw); go_simp; all_goals with_reducible rfl)
      try simp only [Act.put, List.setIfInBounds_toArray, List.set_cons_zero, List.set_cons_succ]
      refine wpAnyH_take (i := 4) (oi := ?oir10_4) (v := ?vr10_4) ?hir10_4 (by kernel_rfl) (by kernel_rfl) (by kernel_rfl) ?hqr10_4 ?hyr10_4 (by assumption) ?restr10_4
      case hir10_4 => simp only [List.getElem?_toArray, List.getElem?_cons_succ, List.getElem?_cons_zero]; rfl
      case hqr10_4 => exact fun _ _ _ h => h
      case hyr10_4 => (refine Or.inl ⟨by rfl, ?_⟩; intro w hSw; (try dsimp only at hSw); go_simp; all_goals with_reducible rfl)
      try simp only [Act.put, List.setIfInBounds_toArray, List.set_cons_zero, List.set_cons_succ]
      refine wpAnyH_take (i := 5) (oi := ?oir10_5) (v := ?vr10_5) ?hir10_5 (by kernel_rfl) (by kernel_rfl) (by kernel_rfl) ?hqr10_5 ?hyr10_5 (by assumption) ?restr10_5
      case hir10_5 => simp only [List.getElem?_toArray, List.getElem?_cons_succ, List.getElem?_cons_zero]; rfl
      case hqr10_5 => exact fun _ _ _ h => h
      case hyr10_5 => (refine Or.inl ⟨by rfl, ?_⟩; intro w hSw; (try dsimp only at hSw); go_simp; all_goals with_reducible rfl)
      try simp only [Act.put, List.setIfInBounds_toArray, List.set_cons_zero, List.set_cons_succ]
      refine wpAnyH_take (i := 6) (oi := ?oir10_6) (v := ?vr10_6) ?hir10_6 (by kernel_rfl) (by kernel_rfl) (by kernel_rfl) ?hqr10_6 ?hyr10_6 (by assumption) ?restr10_6
      case hir10_6 => simp only [List.getElem?_toArray, List.getElem?_cons_succ, List.getElem?_cons_zero]; rfl
      case hqr10_6 => exact fun _ _ _ h => h
      case hyr10_6 => (refine Or.inl ⟨by rfl, ?_⟩; intro w hSw; (try dsimp only at hSw); go_simp; all_goals with_reducible rfl)
      try simp only [Act.put, List.setIfInBounds_toArray, List.set_cons_zero, List.set_cons_succ]
      refine wpAnyH_take (i := 7) (oi := ?oir10_7) (v := ?vr10_7) ?hir10_7 (by kernel_rfl) (by kernel_rfl) (by kernel_rfl) ?hqr10_7 ?hyr10_7 (by assumption) ?restr10_7
      case hir10_7 => simp only [List.getElem?_toArray, List.getElem?_cons_succ, List.getElem?_cons_zero]; rfl
      case hqr10_7 => exact fun _ _ _ h => h
      case hyr10_7 => (refine Or.inl ⟨by rfl, ?_⟩; intro w hSw; (try dsimp only at hSw); go_simp; all_goals with_reducible rfl)
      try simp only [Act.put, List.setIfInBounds_toArray, List.set_cons_zero, List.set_cons_succ]
      refine wpAnyH_ready (rs := [8]) (by kernel_rfl) (by simp) ?_
      refine AllReadyH.cons (o := ?or11_8) ?hor11_8 (fun K hK => ?kr11_8) AllReadyH.nil
      case hor11_8 => simp only [List.getElem?_toArray, List.getElem?_cons_succ, List.getElem?_cons_zero]; rfl
      go_simp
      have c := whole_any w24 0 (by decide) (by decide)
      refine c.mono ?_
      rintro e w25 ⟨a_o, n_o, c_o, b_o, m_o, d_o, rfl, h_on_25, h_od_25, hb⟩
      clear c
      have B25 := B24.trans (hb.mono B24.size)
      have h_xn_25 := h_xn_24.below hb
      have h_xd_25 := h_xd_24.below hb
      have h_yn_25 := h_yn_24.below hb
      have h_yd_25 := h_yd_24.below hb
      have h_x_25 := h_x_24.later hb
      have h_y_25 := h_y_24.later hb
      have h_kn_25 := h_kn_24.below hb
      have h_kd_25 := h_kd_24.below hb
      have h_k_25 := h_k_24.later hb
      have h_en_25 := h_en_24.below hb
      have h_ed_25 := h_ed_24.below hb
      have h_e_25 := h_e_24.later hb
      clear hb B24 h_xn_24 h_xd_24 h_yn_24 h_yd_24 h_x_24 h_y_24 h_kn_24 h_kd_24 h_k_24 h_en_24 h_ed_24 h_e_24
      go_wp2_with fail
      clear hHeld
      refine hK.out _ _ ?_ (fun hHeld => ?_)
      · exact ⟨h_k_25.cell 0 _ rfl, h_k_25.cell 1 _ rfl, h_k_25.cell 2 _ rfl, trivial⟩
      clear hK K
      try simp only [Act.put, List.setIfInBounds_toArray, List.set_cons_zero, List.set_cons_succ]
      refine wpAnyH_ready (rs := [9]) (by kernel_rfl) (by simp) ?_
      refine AllReadyH.cons (o := ?or12_9) ?hor12_9 (fun K hK => ?kr12_9) AllReadyH.nil
      case hor12_9 => simp only [List.getElem?_toArray, List.getElem?_cons_succ, List.getElem?_cons_zero]; rfl
      go_simp
      have c := refRatSame_any w25 (g1 := ((ofC 0 1).1).neg) (g2 := ((ofC 0 1).1).neg) h_kn_25 h_kd_25 h_on_25 h_od_25
      rw [show (⟨((ofC 0 1).1).neg, ((ofC 0 1).1).num, ((ofC 0 1).1).den⟩ : QV) = (ofC 0 1).1 from rfl] at c
      rw [sameV_self] at c
      refine c.mono ?_
      rintro e w26 ⟨rfl, hb⟩
      clear c
      have B26 := B25.trans (hb.mono B25.size)
      have h_xn_26 := h_xn_25.below hb
      have h_xd_26 := h_xd_25.below hb
      have h_yn_26 := h_yn_25.below hb
      have h_yd_26 := h_yd_25.below hb
      have h_x_26 := h_x_25.later hb
      have h_y_26 := h_y_25.later hb
      have h_kn_26 := h_kn_25.below hb
      have h_kd_26 := h_kd_25.below hb
      have h_k_26 := h_k_25.later hb
      have h_en_26 := h_en_25.below hb
      have h_ed_26 := h_ed_25.below hb
      have h_e_26 := h_e_25.later hb
      clear hb B25 h_xn_25 h_xd_25 h_yn_25 h_yd_25 h_x_25 h_y_25 h_kn_25 h_kd_25 h_k_25 h_en_25 h_ed_25 h_e_25 h_on_25 h_od_25
      go_wp2_with fail
      clear hHeld
      refine hK.out _ _ ?_ (fun hHeld => ?_)
      · exact ⟨h_k_26.cell 0 _ rfl, h_k_26.cell 1 _ rfl, h_k_26.cell 2 _ rfl, trivial⟩
      clear hK K
      try simp only [Act.put, List.setIfInBounds_toArray, List.set_cons_zero, List.set_cons_succ]
      refine wpAnyH_take (i := 10) (oi := ?oir13_10) (v := ?vr13_10) ?hir13_10 (by kernel_rfl) (by kernel_rfl) (by kernel_rfl) ?hqr13_10 ?hyr13_10 (by assumption) ?restr13_10
      case hir13_10 => simp only [List.getElem?_toArray, List.getElem?_cons_succ, List.getElem?_cons_zero]; rfl
      case hqr13_10 => exact fun _ _ _ h => h
      case hyr13_10 => (refine Or.inl ⟨by rfl, ?_⟩; intro w hSw; (try dsimp only at hSw); go_simp; all_goals with_reducible rfl)
      try simp only [Act.put, List.setIfInBounds_toArray, List.set_cons_zero, List.set_cons_succ]
      refine wpAnyH_take (i := 11) (oi := ?oir13_11) (v := ?vr13_11) ?hir13_11 (by kernel_rfl) (by kernel_rfl) (by kernel_rfl) ?hqr13_11 ?hyr13_11 (by assumption) ?restr13_11
      case hir13_11 => simp only [List.getElem?_toArray, List.getElem?_cons_succ, List.getElem?_cons_zero]; rfl
      case hqr13_11 => exact fun _ _ _ h => h
      case hyr13_11 => (refine Or.inl ⟨by rfl, ?_⟩; intro w hSw; (try dsimp only at hSw); go_simp; all_goals with_reducible rfl)
      try simp only [Act.put, List.setIfInBounds_toArray, List.set_cons_zero, List.set_cons_succ]
      refine wpAnyH_ready (rs := [12]) (by kernel_rfl) (by simp) ?_
      refine AllReadyH.cons (o := ?or14_12) ?hor14_12 (fun K hK => ?kr14_12) AllReadyH.nil
      case hor14_12 => simp only [List.getElem?_toArray, List.getElem?_cons_succ, List.getElem?_cons_zero]; rfl
      go_simp
      have c := wakes_any w26
      refine c.mono ?_
      rintro e w27 ⟨rfl, hb⟩
      clear c
      have B27 := B26.trans (hb.mono B26.size)
      have h_xn_27 := h_xn_26.below hb
      have h_xd_27 := h_xd_26.below hb
      have h_yn_27 := h_yn_26.below hb
      have h_yd_27 := h_yd_26.below hb
      have h_x_27 := h_x_26.later hb
      have h_y_27 := h_y_26.later hb
      have h_kn_27 := h_kn_26.below hb
      have h_kd_27 := h_kd_26.below hb
      have h_k_27 := h_k_26.later hb
      have h_en_27 := h_en_26.below hb
      have h_ed_27 := h_ed_26.below hb
      have h_e_27 := h_e_26.later hb
      clear hb B26 h_xn_26 h_xd_26 h_yn_26 h_yd_26 h_x_26 h_y_26 h_kn_26 h_kd_26 h_k_26 h_en_26 h_ed_26 h_e_26
      go_wp2_with fail
      clear hHeld
      refine hK.out _ _ ?_ (fun hHeld => ?_)
      · exact ⟨h_k_27.cell 0 _ rfl, h_k_27.cell 1 _ rfl, h_k_27.cell 2 _ rfl, trivial⟩
      clear hK K
      try simp only [Act.put, List.setIfInBounds_toArray, List.set_cons_zero, List.set_cons_succ]
      refine wpAnyH_take (i := 13) (oi := ?oir15_13) (v := ?vr15_13) ?hir15_13 (by kernel_rfl) (by kernel_rfl) (by kernel_rfl) ?hqr15_13 ?hyr15_13 (by assumption) ?restr15_13
      case hir15_13 => simp only [List.getElem?_toArray, List.getElem?_cons_succ, List.getElem?_cons_zero]; rfl
      case hqr15_13 => exact fun _ _ _ h => h
      case hyr15_13 => (refine Or.inl ⟨by rfl, ?_⟩; intro w hSw; (try dsimp only at hSw); go_simp; all_goals with_reducible rfl)
      try simp only [Act.put, List.setIfInBounds_toArray, List.set_cons_zero, List.set_cons_succ]
      refine wpAnyH_take (i := 14) (oi := ?oir15_14) (v := ?vr15_14) ?hir15_14 (by kernel_rfl) (by kernel_rfl) (by kernel_rfl) ?hqr15_14 ?hyr15_14 (by assumption) ?restr15_14
      case hir15_14 => simp only [List.getElem?_toArray, List.getElem?_cons_succ, List.getElem?_cons_zero]; rfl
      case hqr15_14 => exact fun _ _ _ h => h
      case hyr15_14 => (refine Or.inl ⟨by rfl, ?_⟩; intro w hSw; (try dsimp only at hSw); go_simp; all_goals with_reducible rfl)
      try simp only [Act.put, List.setIfInBounds_toArray, List.set_cons_zero, List.set_cons_succ]
      refine wpAnyH_done (by kernel_rfl) ?_ _
      clear hHeld
      go_wp2_with fail
      go_ret
      exact ⟨rfl, B27⟩
  obtain ⟨f8, f9⟩ := f7 zy
  have F8 := Lib.hid f8
  have F9 := Lib.hid f9
  have d1 : ((n_y : Int) == 0) = false := beq_eq_false_iff_ne.2 (by omega)
  clear f6 f7 f8 f9 zy ly
  go_enter Tryz.func7, Tryz.ntmps7
  have hb := below_al w (.cells #[.bool (x).neg, .slice a_x n_x c_x, .slice b_x m_x d_x] 24)
  have B1 := B0.trans (hb.mono B0.size)
  have h_xn_1 := h_xn_0.below hb
  have h_xd_1 := h_xd_0.below hb
  have h_yn_1 := h_yn_0.below hb
  have h_yd_1 := h_yd_0.below hb
  clear hb B0 h_xn_0 h_xd_0 h_yn_0 h_yd_0
  have h_x_1 := Has.new w #[.bool (x).neg, .slice a_x n_x c_x, .slice b_x m_x d_x] 24
  have hb := below_al (w.alloc (.cells #[.bool (x).neg, .slice a_x n_x c_x, .slice b_x m_x d_x] 24)) (.cells #[.bool (y).neg, .slice a_y n_y c_y, .slice b_y m_y d_y] 24)
  have B2 := B1.trans (hb.mono B1.size)
  have h_xn_2 := h_xn_1.below hb
  have h_xd_2 := h_xd_1.below hb
  have h_yn_2 := h_yn_1.below hb
  have h_yd_2 := h_yd_1.below hb
  have h_x_2 := h_x_1.later hb
  clear hb B1 h_xn_1 h_xd_1 h_yn_1 h_yd_1 h_x_1
  have h_y_2 := Has.new (w.alloc (.cells #[.bool (x).neg, .slice a_x n_x c_x, .slice b_x m_x d_x] 24)) #[.bool (y).neg, .slice a_y n_y c_y, .slice b_y m_y d_y] 24
  simp only [World.size_alloc] at h_y_2
  have k_x_0 := h_x_2.cell 0 _ rfl
  have k_x_1 := h_x_2.cell 1 _ rfl
  have k_x_2 := h_x_2.cell 2 _ rfl
  have k_y_0 := h_y_2.cell 0 _ rfl
  have k_y_1 := h_y_2.cell 1 _ rfl
  have k_y_2 := h_y_2.cell 2 _ rfl
  have hb := below_al ((w.alloc (.cells #[.bool (x).neg, .slice a_x n_x c_x, .slice b_x m_x d_x] 24)).alloc (.cells #[.bool (y).neg, .slice a_y n_y c_y, .slice b_y m_y d_y] 24)) (.cells #[.bool (x).neg, .slice a_x n_x c_x, .slice b_x m_x d_x, .bool (y).neg, .slice a_y n_y c_y, .slice b_y m_y d_y] 24)
  have B3 := B2.trans (hb.mono B2.size)
  have h_xn_3 := h_xn_2.below hb
  have h_xd_3 := h_xd_2.below hb
  have h_yn_3 := h_yn_2.below hb
  have h_yd_3 := h_yd_2.below hb
  have h_x_3 := h_x_2.later hb
  have h_y_3 := h_y_2.later hb
  clear hb B2 h_xn_2 h_xd_2 h_yn_2 h_yd_2 h_x_2 h_y_2
  have h_l_3 := Has.new ((w.alloc (.cells #[.bool (x).neg, .slice a_x n_x c_x, .slice b_x m_x d_x] 24)).alloc (.cells #[.bool (y).neg, .slice a_y n_y c_y, .slice b_y m_y d_y] 24)) #[.bool (x).neg, .slice a_x n_x c_x, .slice b_x m_x d_x, .bool (y).neg, .slice a_y n_y c_y, .slice b_y m_y d_y] 24
  simp only [World.size_alloc] at h_l_3
  go_wp2_with fail
  clear k_x_0 k_x_1 k_x_2 k_y_0 k_y_1 k_y_2
  generalize (((w.alloc (.cells #[.bool (x).neg, .slice a_x n_x c_x, .slice b_x m_x d_x] 24)).alloc (.cells #[.bool (y).neg, .slice a_y n_y c_y, .slice b_y m_y d_y] 24)).alloc (.cells #[.bool (x).neg, .slice a_x n_x c_x, .slice b_x m_x d_x, .bool (y).neg, .slice a_y n_y c_y, .slice b_y m_y d_y] 24)) = w3 at *
  have c := right2_any w3 (g_x := (x).neg) (g_y := (y).neg) h_xn_3 h_xd_3 h_yn_3 h_yd_3 h_l_3
  rw [show (⟨(x).neg, (x).num, (x).den⟩ : QV) = x from rfl] at c
  rw [show (⟨(y).neg, (y).num, (y).den⟩ : QV) = y from rfl] at c
  rw [RT.out] at c
  refine c.mono ?_
  rintro e w4 ⟨rfl, hb⟩
  clear c
  have B4 := B3.trans (hb.mono B3.size)
  have h_xn_4 := h_xn_3.below hb
  have h_xd_4 := h_xd_3.below hb
  have h_yn_4 := h_yn_3.below hb
  have h_yd_4 := h_yd_3.below hb
  have h_x_4 := h_x_3.later hb
  have h_y_4 := h_y_3.later hb
  clear hb B3 h_xn_3 h_xd_3 h_yn_3 h_yd_3 h_x_3 h_y_3 h_l_3
  have k_x_0 := h_x_4.cell 0 _ rfl
  have k_x_1 := h_x_4.cell 1 _ rfl
  have k_x_2 := h_x_4.cell 2 _ rfl
  have k_y_0 := h_y_4.cell 0 _ rfl
  have k_y_1 := h_y_4.cell 1 _ rfl
  have k_y_2 := h_y_4.cell 2 _ rfl
  go_wp2_with fail
  clear k_x_0 k_x_1 k_x_2 k_y_0 k_y_1 k_y_2
  have c := ratAdd_any w4 (g1 := (x).neg) (g2 := (y).neg) h_xn_4 h_xd_4 h_yn_4 h_yd_4
  rw [show (⟨(x).neg, (x).num, (x).den⟩ : QV) = x from rfl] at c
  rw [show (⟨(y).neg, (y).num, (y).den⟩ : QV) = y from rfl] at c
  rw [F0.out] at c
  refine c.mono ?_
  rintro e w5 ⟨a_e, n_e, c_e, b_e, m_e, d_e, rfl, h_en_5, h_ed_5, hb⟩
  clear c
  have B5 := B4.trans (hb.mono B4.size)
  have h_xn_5 := h_xn_4.below hb
  have h_xd_5 := h_xd_4.below hb
  have h_yn_5 := h_yn_4.below hb
  have h_yd_5 := h_yd_4.below hb
  have h_x_5 := h_x_4.later hb
  have h_y_5 := h_y_4.later hb
  clear hb B4 h_xn_4 h_xd_4 h_yn_4 h_yd_4 h_x_4 h_y_4
  have hb := below_al w5 (.cells #[.bool (s).neg, .slice a_e n_e c_e, .slice b_e m_e d_e] 24)
  have B6 := B5.trans (hb.mono B5.size)
  have h_xn_6 := h_xn_5.below hb
  have h_xd_6 := h_xd_5.below hb
  have h_yn_6 := h_yn_5.below hb
  have h_yd_6 := h_yd_5.below hb
  have h_x_6 := h_x_5.later hb
  have h_y_6 := h_y_5.later hb
  have h_en_6 := h_en_5.below hb
  have h_ed_6 := h_ed_5.below hb
  clear hb B5 h_xn_5 h_xd_5 h_yn_5 h_yd_5 h_x_5 h_y_5 h_en_5 h_ed_5
  have h_e_6 := Has.new w5 #[.bool (s).neg, .slice a_e n_e c_e, .slice b_e m_e d_e] 24
  have k_e_0 := h_e_6.cell 0 _ rfl
  have k_e_1 := h_e_6.cell 1 _ rfl
  have k_e_2 := h_e_6.cell 2 _ rfl
  have k_y_0 := h_y_6.cell 0 _ rfl
  have k_y_1 := h_y_6.cell 1 _ rfl
  have k_y_2 := h_y_6.cell 2 _ rfl
  go_wp2_with first | refine wpList_store_new rfl 24 _ _ rfl atRat _ _ _ rfl rfl rfl rfl (rat_one _ _ _ _ _ _ _) ?_
  clear k_e_0 k_e_1 k_e_2 k_y_0 k_y_1 k_y_2
  generalize (w5.alloc (.cells #[.bool (s).neg, .slice a_e n_e c_e, .slice b_e m_e d_e] 24)) = w6 at *
  have c := ratSub_any w6 (g1 := (s).neg) (g2 := (y).neg) h_en_6 h_ed_6 h_yn_6 h_yd_6
  rw [show (⟨(s).neg, (s).num, (s).den⟩ : QV) = s from rfl] at c
  rw [show (⟨(y).neg, (y).num, (y).den⟩ : QV) = y from rfl] at c
  rw [F1.out] at c
  refine c.mono ?_
  rintro e w7 ⟨a_f, n_f, c_f, b_f, m_f, d_f, rfl, h_fn_7, h_fd_7, hb⟩
  clear c
  have B7 := B6.trans (hb.mono B6.size)
  have h_xn_7 := h_xn_6.below hb
  have h_xd_7 := h_xd_6.below hb
  have h_yn_7 := h_yn_6.below hb
  have h_yd_7 := h_yd_6.below hb
  have h_x_7 := h_x_6.later hb
  have h_y_7 := h_y_6.later hb
  have h_en_7 := h_en_6.below hb
  have h_ed_7 := h_ed_6.below hb
  have h_e_7 := h_e_6.later hb
  clear hb B6 h_xn_6 h_xd_6 h_yn_6 h_yd_6 h_x_6 h_y_6 h_en_6 h_ed_6 h_e_6
  have hb := below_al w7 (.cells #[.bool (x).neg, .slice a_f n_f c_f, .slice b_f m_f d_f] 24)
  have B8 := B7.trans (hb.mono B7.size)
  have h_xn_8 := h_xn_7.below hb
  have h_xd_8 := h_xd_7.below hb
  have h_yn_8 := h_yn_7.below hb
  have h_yd_8 := h_yd_7.below hb
  have h_x_8 := h_x_7.later hb
  have h_y_8 := h_y_7.later hb
  have h_en_8 := h_en_7.below hb
  have h_ed_8 := h_ed_7.below hb
  have h_e_8 := h_e_7.later hb
  have h_fn_8 := h_fn_7.below hb
  have h_fd_8 := h_fd_7.below hb
  clear hb B7 h_xn_7 h_xd_7 h_yn_7 h_yd_7 h_x_7 h_y_7 h_en_7 h_ed_7 h_e_7 h_fn_7 h_fd_7
  have h_f_8 := Has.new w7 #[.bool (x).neg, .slice a_f n_f c_f, .slice b_f m_f d_f] 24
  have k_x_0 := h_x_8.cell 0 _ rfl
  have k_x_1 := h_x_8.cell 1 _ rfl
  have k_x_2 := h_x_8.cell 2 _ rfl
  go_wp2_with first | refine wpList_store_new rfl 24 _ _ rfl atRat _ _ _ rfl rfl rfl rfl (rat_one _ _ _ _ _ _ _) ?_
  clear k_x_0 k_x_1 k_x_2
  generalize (w7.alloc (.cells #[.bool (x).neg, .slice a_f n_f c_f, .slice b_f m_f d_f] 24)) = w8 at *
  have c := ratSub_any w8 (g1 := (x).neg) (g2 := (x).neg) h_xn_8 h_xd_8 h_xn_8 h_xd_8
  rw [show (⟨(x).neg, (x).num, (x).den⟩ : QV) = x from rfl] at c
  rw [F2.out] at c
  refine c.mono ?_
  rintro e w9 ⟨a_h, n_h, c_h, b_h, m_h, d_h, rfl, h_hn_9, h_hd_9, hb⟩
  clear c
  have B9 := B8.trans (hb.mono B8.size)
  have h_xn_9 := h_xn_8.below hb
  have h_xd_9 := h_xd_8.below hb
  have h_yn_9 := h_yn_8.below hb
  have h_yd_9 := h_yd_8.below hb
  have h_x_9 := h_x_8.later hb
  have h_y_9 := h_y_8.later hb
  have h_en_9 := h_en_8.below hb
  have h_ed_9 := h_ed_8.below hb
  have h_e_9 := h_e_8.later hb
  have h_fn_9 := h_fn_8.below hb
  have h_fd_9 := h_fd_8.below hb
  have h_f_9 := h_f_8.later hb
  clear hb B8 h_xn_8 h_xd_8 h_yn_8 h_yd_8 h_x_8 h_y_8 h_en_8 h_ed_8 h_e_8 h_fn_8 h_fd_8 h_f_8
  have hb := below_al w9 (.cells #[.bool ((ofC 0 1).1).neg, .slice a_h n_h c_h, .slice b_h m_h d_h] 24)
  have B10 := B9.trans (hb.mono B9.size)
  have h_xn_10 := h_xn_9.below hb
  have h_xd_10 := h_xd_9.below hb
  have h_yn_10 := h_yn_9.below hb
  have h_yd_10 := h_yd_9.below hb
  have h_x_10 := h_x_9.later hb
  have h_y_10 := h_y_9.later hb
  have h_en_10 := h_en_9.below hb
  have h_ed_10 := h_ed_9.below hb
  have h_e_10 := h_e_9.later hb
  have h_fn_10 := h_fn_9.below hb
  have h_fd_10 := h_fd_9.below hb
  have h_f_10 := h_f_9.later hb
  have h_hn_10 := h_hn_9.below hb
  have h_hd_10 := h_hd_9.below hb
  clear hb B9 h_xn_9 h_xd_9 h_yn_9 h_yd_9 h_x_9 h_y_9 h_en_9 h_ed_9 h_e_9 h_fn_9 h_fd_9 h_f_9 h_hn_9 h_hd_9
  have h_h_10 := Has.new w9 #[.bool ((ofC 0 1).1).neg, .slice a_h n_h c_h, .slice b_h m_h d_h] 24
  have k_y_0 := h_y_10.cell 0 _ rfl
  have k_y_1 := h_y_10.cell 1 _ rfl
  have k_y_2 := h_y_10.cell 2 _ rfl
  go_wp2_with first | refine wpList_store_new rfl 24 _ _ rfl atRat _ _ _ rfl rfl rfl rfl (rat_one _ _ _ _ _ _ _) ?_
  clear k_y_0 k_y_1 k_y_2
  generalize (w9.alloc (.cells #[.bool ((ofC 0 1).1).neg, .slice a_h n_h c_h, .slice b_h m_h d_h] 24)) = w10 at *
  have c := ratNeg_any w10 (g := (y).neg) h_yn_10 h_yd_10
  rw [show (⟨(y).neg, (y).num, (y).den⟩ : QV) = y from rfl] at c
  rw [F3.out] at c
  refine c.mono ?_
  rintro e w11 ⟨a_i, n_i, c_i, b_i, m_i, d_i, rfl, h_in_11, h_id_11, hb⟩
  clear c
  have B11 := B10.trans (hb.mono B10.size)
  have h_xn_11 := h_xn_10.below hb
  have h_xd_11 := h_xd_10.below hb
  have h_yn_11 := h_yn_10.below hb
  have h_yd_11 := h_yd_10.below hb
  have h_x_11 := h_x_10.later hb
  have h_y_11 := h_y_10.later hb
  have h_en_11 := h_en_10.below hb
  have h_ed_11 := h_ed_10.below hb
  have h_e_11 := h_e_10.later hb
  have h_fn_11 := h_fn_10.below hb
  have h_fd_11 := h_fd_10.below hb
  have h_f_11 := h_f_10.later hb
  have h_hn_11 := h_hn_10.below hb
  have h_hd_11 := h_hd_10.below hb
  have h_h_11 := h_h_10.later hb
  clear hb B10 h_xn_10 h_xd_10 h_yn_10 h_yd_10 h_x_10 h_y_10 h_en_10 h_ed_10 h_e_10 h_fn_10 h_fd_10 h_f_10 h_hn_10 h_hd_10 h_h_10
  have hb := below_al w11 (.cells #[.bool (n).neg, .slice a_i n_i c_i, .slice b_i m_i d_i] 24)
  have B12 := B11.trans (hb.mono B11.size)
  have h_xn_12 := h_xn_11.below hb
  have h_xd_12 := h_xd_11.below hb
  have h_yn_12 := h_yn_11.below hb
  have h_yd_12 := h_yd_11.below hb
  have h_x_12 := h_x_11.later hb
  have h_y_12 := h_y_11.later hb
  have h_en_12 := h_en_11.below hb
  have h_ed_12 := h_ed_11.below hb
  have h_e_12 := h_e_11.later hb
  have h_fn_12 := h_fn_11.below hb
  have h_fd_12 := h_fd_11.below hb
  have h_f_12 := h_f_11.later hb
  have h_hn_12 := h_hn_11.below hb
  have h_hd_12 := h_hd_11.below hb
  have h_h_12 := h_h_11.later hb
  have h_in_12 := h_in_11.below hb
  have h_id_12 := h_id_11.below hb
  clear hb B11 h_xn_11 h_xd_11 h_yn_11 h_yd_11 h_x_11 h_y_11 h_en_11 h_ed_11 h_e_11 h_fn_11 h_fd_11 h_f_11 h_hn_11 h_hd_11 h_h_11 h_in_11 h_id_11
  have h_i_12 := Has.new w11 #[.bool (n).neg, .slice a_i n_i c_i, .slice b_i m_i d_i] 24
  have k_e_0 := h_e_12.cell 0 _ rfl
  have k_e_1 := h_e_12.cell 1 _ rfl
  have k_e_2 := h_e_12.cell 2 _ rfl
  have k_i_0 := h_i_12.cell 0 _ rfl
  have k_i_1 := h_i_12.cell 1 _ rfl
  have k_i_2 := h_i_12.cell 2 _ rfl
  go_wp2_with first | refine wpList_store_new rfl 24 _ _ rfl atRat _ _ _ rfl rfl rfl rfl (rat_one _ _ _ _ _ _ _) ?_
  clear k_e_0 k_e_1 k_e_2 k_i_0 k_i_1 k_i_2
  generalize (w11.alloc (.cells #[.bool (n).neg, .slice a_i n_i c_i, .slice b_i m_i d_i] 24)) = w12 at *
  have c := ratAdd_any w12 (g1 := (s).neg) (g2 := (n).neg) h_en_12 h_ed_12 h_in_12 h_id_12
  rw [show (⟨(s).neg, (s).num, (s).den⟩ : QV) = s from rfl] at c
  rw [show (⟨(n).neg, (n).num, (n).den⟩ : QV) = n from rfl] at c
  rw [F4.out] at c
  refine c.mono ?_
  rintro e w13 ⟨a_j, n_j, c_j, b_j, m_j, d_j, rfl, h_jn_13, h_jd_13, hb⟩
  clear c
  have B13 := B12.trans (hb.mono B12.size)
  have h_xn_13 := h_xn_12.below hb
  have h_xd_13 := h_xd_12.below hb
  have h_yn_13 := h_yn_12.below hb
  have h_yd_13 := h_yd_12.below hb
  have h_x_13 := h_x_12.later hb
  have h_y_13 := h_y_12.later hb
  have h_en_13 := h_en_12.below hb
  have h_ed_13 := h_ed_12.below hb
  have h_e_13 := h_e_12.later hb
  have h_fn_13 := h_fn_12.below hb
  have h_fd_13 := h_fd_12.below hb
  have h_f_13 := h_f_12.later hb
  have h_hn_13 := h_hn_12.below hb
  have h_hd_13 := h_hd_12.below hb
  have h_h_13 := h_h_12.later hb
  have h_in_13 := h_in_12.below hb
  have h_id_13 := h_id_12.below hb
  have h_i_13 := h_i_12.later hb
  clear hb B12 h_xn_12 h_xd_12 h_yn_12 h_yd_12 h_x_12 h_y_12 h_en_12 h_ed_12 h_e_12 h_fn_12 h_fd_12 h_f_12 h_hn_12 h_hd_12 h_h_12 h_in_12 h_id_12 h_i_12
  have hb := below_al w13 (.cells #[.bool (x).neg, .slice a_j n_j c_j, .slice b_j m_j d_j] 24)
  have B14 := B13.trans (hb.mono B13.size)
  have h_xn_14 := h_xn_13.below hb
  have h_xd_14 := h_xd_13.below hb
  have h_yn_14 := h_yn_13.below hb
  have h_yd_14 := h_yd_13.below hb
  have h_x_14 := h_x_13.later hb
  have h_y_14 := h_y_13.later hb
  have h_en_14 := h_en_13.below hb
  have h_ed_14 := h_ed_13.below hb
  have h_e_14 := h_e_13.later hb
  have h_fn_14 := h_fn_13.below hb
  have h_fd_14 := h_fd_13.below hb
  have h_f_14 := h_f_13.later hb
  have h_hn_14 := h_hn_13.below hb
  have h_hd_14 := h_hd_13.below hb
  have h_h_14 := h_h_13.later hb
  have h_in_14 := h_in_13.below hb
  have h_id_14 := h_id_13.below hb
  have h_i_14 := h_i_13.later hb
  have h_jn_14 := h_jn_13.below hb
  have h_jd_14 := h_jd_13.below hb
  clear hb B13 h_xn_13 h_xd_13 h_yn_13 h_yd_13 h_x_13 h_y_13 h_en_13 h_ed_13 h_e_13 h_fn_13 h_fd_13 h_f_13 h_hn_13 h_hd_13 h_h_13 h_in_13 h_id_13 h_i_13 h_jn_13 h_jd_13
  have h_j_14 := Has.new w13 #[.bool (x).neg, .slice a_j n_j c_j, .slice b_j m_j d_j] 24
  go_wp2_with first | refine wpList_store_new rfl 24 _ _ rfl atRat _ _ _ rfl rfl rfl rfl (rat_one _ _ _ _ _ _ _) ?_
  generalize (w13.alloc (.cells #[.bool (x).neg, .slice a_j n_j c_j, .slice b_j m_j d_j] 24)) = w14 at *
  have hb := (Below.refl w14.heap.size w14).drew
  have B15 := B14.trans (hb.mono B14.size)
  have h_xn_15 := h_xn_14.below hb
  have h_xd_15 := h_xd_14.below hb
  have h_yn_15 := h_yn_14.below hb
  have h_yd_15 := h_yd_14.below hb
  have h_x_15 := h_x_14.later hb
  have h_y_15 := h_y_14.later hb
  have h_en_15 := h_en_14.below hb
  have h_ed_15 := h_ed_14.below hb
  have h_e_15 := h_e_14.later hb
  have h_fn_15 := h_fn_14.below hb
  have h_fd_15 := h_fd_14.below hb
  have h_f_15 := h_f_14.later hb
  have h_hn_15 := h_hn_14.below hb
  have h_hd_15 := h_hd_14.below hb
  have h_h_15 := h_h_14.later hb
  have h_in_15 := h_in_14.below hb
  have h_id_15 := h_id_14.below hb
  have h_i_15 := h_i_14.later hb
  have h_jn_15 := h_jn_14.below hb
  have h_jd_15 := h_jd_14.below hb
  have h_j_15 := h_j_14.later hb
  clear hb B14 h_xn_14 h_xd_14 h_yn_14 h_yd_14 h_x_14 h_y_14 h_en_14 h_ed_14 h_e_14 h_fn_14 h_fd_14 h_f_14 h_hn_14 h_hd_14 h_h_14 h_in_14 h_id_14 h_i_14 h_jn_14 h_jd_14 h_j_14
  refine wp_region_held_drew (S := (fun w' => w'.cell? ⟨w7.heap.size, 0, none⟩ = some (.bool (x).neg) ∧ w'.cell? ⟨w7.heap.size, 1, none⟩ = some (.slice a_f n_f c_f) ∧ w'.cell? ⟨w7.heap.size, 2, none⟩ = some (.slice b_f m_f d_f) ∧ w'.cell? ⟨w.heap.size, 0, none⟩ = some (.bool (x).neg) ∧ w'.cell? ⟨w.heap.size, 1, none⟩ = some (.slice a_x n_x c_x) ∧ w'.cell? ⟨w.heap.size, 2, none⟩ = some (.slice b_x m_x d_x) ∧ w'.cell? ⟨w13.heap.size, 0, none⟩ = some (.bool (x).neg) ∧ w'.cell? ⟨w13.heap.size, 1, none⟩ = some (.slice a_j n_j c_j) ∧ w'.cell? ⟨w13.heap.size, 2, none⟩ = some (.slice b_j m_j d_j) ∧ w'.cell? ⟨w9.heap.size, 0, none⟩ = some (.bool ((ofC 0 1).1).neg) ∧ w'.cell? ⟨w9.heap.size, 1, none⟩ = some (.slice a_h n_h c_h) ∧ w'.cell? ⟨w9.heap.size, 2, none⟩ = some (.slice b_h m_h d_h) ∧ True)) (by kernel_rfl) ?_ (fun hHeld => ?_)
  · exact ⟨h_f_15.cell 0 _ rfl, h_f_15.cell 1 _ rfl, h_f_15.cell 2 _ rfl, h_x_15.cell 0 _ rfl, h_x_15.cell 1 _ rfl, h_x_15.cell 2 _ rfl, h_j_15.cell 0 _ rfl, h_j_15.cell 1 _ rfl, h_j_15.cell 2 _ rfl, h_h_15.cell 0 _ rfl, h_h_15.cell 1 _ rfl, h_h_15.cell 2 _ rfl, trivial⟩
  generalize w14.drew = w15 at *
  refine wpAnyH_take (i := 0) (oi := ?oir16_0) (v := ?vr16_0) ?hir16_0 (by kernel_rfl) (by kernel_rfl) (by kernel_rfl) ?hqr16_0 ?hyr16_0 (by assumption) ?restr16_0
  case hir16_0 => simp only [List.getElem?_toArray, List.getElem?_cons_succ, List.getElem?_cons_zero]; rfl
  case hqr16_0 => exact fun _ _ _ h => h
  case hyr16_0 => (refine Or.inl ⟨by rfl, ?_⟩; intro w hSw; (try dsimp only at hSw); go_simp; all_goals with_reducible rfl)
  try simp only [Act.put, List.setIfInBounds_toArray, List.set_cons_zero, List.set_cons_succ]
  refine wpAnyH_take (i := 1) (oi := ?oir16_1) (v := ?vr16_1) ?hir16_1 (by kernel_rfl) (by kernel_rfl) (by kernel_rfl) ?hqr16_1 ?hyr16_1 (by assumption) ?restr16_1
  case hir16_1 => simp only [List.getElem?_toArray, List.getElem?_cons_succ, List.getElem?_cons_zero]; rfl
  case hqr16_1 => exact fun _ _ _ h => h
  case hyr16_1 => (refine Or.inl ⟨by rfl, ?_⟩; intro w hSw; (try dsimp only at hSw); go_simp; all_goals with_reducible rfl)
  try simp only [Act.put, List.setIfInBounds_toArray, List.set_cons_zero, List.set_cons_succ]
  refine wpAnyH_take (i := 2) (oi := ?oir16_2) (v := ?vr16_2) ?hir16_2 (by kernel_rfl) (by kernel_rfl) (by kernel_rfl) ?hqr16_2 ?hyr16_2 (by assumption) ?restr16_2
  case hir16_2 => simp only [List.getElem?_toArray, List.getElem?_cons_succ, List.getElem?_cons_zero]; rfl
  case hqr16_2 => exact fun _ _ _ h => h
  case hyr16_2 => (refine Or.inl ⟨by rfl, ?_⟩; intro w hSw; (try dsimp only at hSw); go_simp; all_goals with_reducible rfl)
  try simp only [Act.put, List.setIfInBounds_toArray, List.set_cons_zero, List.set_cons_succ]
  refine wpAnyH_take (i := 3) (oi := ?oir16_3) (v := ?vr16_3) ?hir16_3 (by kernel_rfl) (by kernel_rfl) (by kernel_rfl) ?hqr16_3 ?hyr16_3 (by assumption) ?restr16_3
  case hir16_3 => simp only [List.getElem?_toArray, List.getElem?_cons_succ, List.getElem?_cons_zero]; rfl
  case hqr16_3 => exact fun _ _ _ h => h
  case hyr16_3 => (refine Or.inl ⟨by rfl, ?_⟩; intro w hSw; (try dsimp only at hSw); go_simp; all_goals with_reducible rfl)
  try simp only [Act.put, List.setIfInBounds_toArray, List.set_cons_zero, List.set_cons_succ]
  refine wpAnyH_take (i := 4) (oi := ?oir16_4) (v := ?vr16_4) ?hir16_4 (by kernel_rfl) (by kernel_rfl) (by kernel_rfl) ?hqr16_4 ?hyr16_4 (by assumption) ?restr16_4
  case hir16_4 => simp only [List.getElem?_toArray, List.getElem?_cons_succ, List.getElem?_cons_zero]; rfl
  case hqr16_4 => exact fun _ _ _ h => h
  case hyr16_4 => (refine Or.inl ⟨by rfl, ?_⟩; intro w hSw; (try dsimp only at hSw); go_simp; all_goals with_reducible rfl)
  try simp only [Act.put, List.setIfInBounds_toArray, List.set_cons_zero, List.set_cons_succ]
  refine wpAnyH_take (i := 5) (oi := ?oir16_5) (v := ?vr16_5) ?hir16_5 (by kernel_rfl) (by kernel_rfl) (by kernel_rfl) ?hqr16_5 ?hyr16_5 (by assumption) ?restr16_5
  case hir16_5 => simp only [List.getElem?_toArray, List.getElem?_cons_succ, List.getElem?_cons_zero]; rfl
  case hqr16_5 => exact fun _ _ _ h => h
  case hyr16_5 => (refine Or.inl ⟨by rfl, ?_⟩; intro w hSw; (try dsimp only at hSw); go_simp; all_goals with_reducible rfl)
  try simp only [Act.put, List.setIfInBounds_toArray, List.set_cons_zero, List.set_cons_succ]
  refine wpAnyH_take (i := 6) (oi := ?oir16_6) (v := ?vr16_6) ?hir16_6 (by kernel_rfl) (by kernel_rfl) (by kernel_rfl) ?hqr16_6 ?hyr16_6 (by assumption) ?restr16_6
  case hir16_6 => simp only [List.getElem?_toArray, List.getElem?_cons_succ, List.getElem?_cons_zero]; rfl
  case hqr16_6 => exact fun _ _ _ h => h
  case hyr16_6 => (refine Or.inl ⟨by rfl, ?_⟩; intro w hSw; (try dsimp only at hSw); go_simp; all_goals with_reducible rfl)
  try simp only [Act.put, List.setIfInBounds_toArray, List.set_cons_zero, List.set_cons_succ]
  refine wpAnyH_take (i := 7) (oi := ?oir16_7) (v := ?vr16_7) ?hir16_7 (by kernel_rfl) (by kernel_rfl) (by kernel_rfl) ?hqr16_7 ?hyr16_7 (by assumption) ?restr16_7
  case hir16_7 => simp only [List.getElem?_toArray, List.getElem?_cons_succ, List.getElem?_cons_zero]; rfl
  case hqr16_7 => exact fun _ _ _ h => h
  case hyr16_7 => (refine Or.inl ⟨by rfl, ?_⟩; intro w hSw; (try dsimp only at hSw); go_simp; all_goals with_reducible rfl)
  try simp only [Act.put, List.setIfInBounds_toArray, List.set_cons_zero, List.set_cons_succ]
  refine wpAnyH_take (i := 8) (oi := ?oir16_8) (v := ?vr16_8) ?hir16_8 (by kernel_rfl) (by kernel_rfl) (by kernel_rfl) ?hqr16_8 ?hyr16_8 (by assumption) ?restr16_8
  case hir16_8 => simp only [List.getElem?_toArray, List.getElem?_cons_succ, List.getElem?_cons_zero]; rfl
  case hqr16_8 => exact fun _ _ _ h => h
  case hyr16_8 => (refine Or.inl ⟨by rfl, ?_⟩; intro w hSw; (try dsimp only at hSw); go_simp; all_goals with_reducible rfl)
  try simp only [Act.put, List.setIfInBounds_toArray, List.set_cons_zero, List.set_cons_succ]
  refine wpAnyH_take (i := 9) (oi := ?oir16_9) (v := ?vr16_9) ?hir16_9 (by kernel_rfl) (by kernel_rfl) (by kernel_rfl) ?hqr16_9 ?hyr16_9 (by assumption) ?restr16_9
  case hir16_9 => simp only [List.getElem?_toArray, List.getElem?_cons_succ, List.getElem?_cons_zero]; rfl
  case hqr16_9 => exact fun _ _ _ h => h
  case hyr16_9 => (refine Or.inl ⟨by rfl, ?_⟩; intro w hSw; (try dsimp only at hSw); go_simp; all_goals with_reducible rfl)
  try simp only [Act.put, List.setIfInBounds_toArray, List.set_cons_zero, List.set_cons_succ]
  refine wpAnyH_take (i := 10) (oi := ?oir16_10) (v := ?vr16_10) ?hir16_10 (by kernel_rfl) (by kernel_rfl) (by kernel_rfl) ?hqr16_10 ?hyr16_10 (by assumption) ?restr16_10
  case hir16_10 => simp only [List.getElem?_toArray, List.getElem?_cons_succ, List.getElem?_cons_zero]; rfl
  case hqr16_10 => exact fun _ _ _ h => h
  case hyr16_10 => (refine Or.inl ⟨by rfl, ?_⟩; intro w hSw; (try dsimp only at hSw); go_simp; all_goals with_reducible rfl)
  try simp only [Act.put, List.setIfInBounds_toArray, List.set_cons_zero, List.set_cons_succ]
  refine wpAnyH_take (i := 11) (oi := ?oir16_11) (v := ?vr16_11) ?hir16_11 (by kernel_rfl) (by kernel_rfl) (by kernel_rfl) ?hqr16_11 ?hyr16_11 (by assumption) ?restr16_11
  case hir16_11 => simp only [List.getElem?_toArray, List.getElem?_cons_succ, List.getElem?_cons_zero]; rfl
  case hqr16_11 => exact fun _ _ _ h => h
  case hyr16_11 => (refine Or.inl ⟨by rfl, ?_⟩; intro w hSw; (try dsimp only at hSw); go_simp; all_goals with_reducible rfl)
  try simp only [Act.put, List.setIfInBounds_toArray, List.set_cons_zero, List.set_cons_succ]
  refine wpAnyH_take (i := 12) (oi := ?oir16_12) (v := ?vr16_12) ?hir16_12 (by kernel_rfl) (by kernel_rfl) (by kernel_rfl) ?hqr16_12 ?hyr16_12 (by assumption) ?restr16_12
  case hir16_12 => simp only [List.getElem?_toArray, List.getElem?_cons_succ, List.getElem?_cons_zero]; rfl
  case hqr16_12 => exact fun _ _ _ h => h
  case hyr16_12 => (refine Or.inl ⟨by rfl, ?_⟩; intro w hSw; (try dsimp only at hSw); go_simp; all_goals with_reducible rfl)
  try simp only [Act.put, List.setIfInBounds_toArray, List.set_cons_zero, List.set_cons_succ]
  refine wpAnyH_take (i := 13) (oi := ?oir16_13) (v := ?vr16_13) ?hir16_13 (by kernel_rfl) (by kernel_rfl) (by kernel_rfl) ?hqr16_13 ?hyr16_13 (by assumption) ?restr16_13
  case hir16_13 => simp only [List.getElem?_toArray, List.getElem?_cons_succ, List.getElem?_cons_zero]; rfl
  case hqr16_13 => exact fun _ _ _ h => h
  case hyr16_13 => (refine Or.inl ⟨by rfl, ?_⟩; intro w hSw; (try dsimp only at hSw); go_simp; all_goals with_reducible rfl)
  try simp only [Act.put, List.setIfInBounds_toArray, List.set_cons_zero, List.set_cons_succ]
  refine wpAnyH_take (i := 14) (oi := ?oir16_14) (v := ?vr16_14) ?hir16_14 (by kernel_rfl) (by kernel_rfl) (by kernel_rfl) ?hqr16_14 ?hyr16_14 (by assumption) ?restr16_14
  case hir16_14 => simp only [List.getElem?_toArray, List.getElem?_cons_succ, List.getElem?_cons_zero]; rfl
  case hqr16_14 => exact fun _ _ _ h => h
  case hyr16_14 => (refine Or.inl ⟨by rfl, ?_⟩; intro w hSw; (try dsimp only at hSw); go_simp; all_goals with_reducible rfl)
  try simp only [Act.put, List.setIfInBounds_toArray, List.set_cons_zero, List.set_cons_succ]
  refine wpAnyH_take (i := 15) (oi := ?oir16_15) (v := ?vr16_15) ?hir16_15 (by kernel_rfl) (by kernel_rfl) (by kernel_rfl) ?hqr16_15 ?hyr16_15 (by assumption) ?restr16_15
  case hir16_15 => simp only [List.getElem?_toArray, List.getElem?_cons_succ, List.getElem?_cons_zero]; rfl
  case hqr16_15 => exact fun _ _ _ h => h
  case hyr16_15 => (refine Or.inl ⟨by rfl, ?_⟩; intro w hSw; (try dsimp only at hSw); go_simp; all_goals with_reducible rfl)
  try simp only [Act.put, List.setIfInBounds_toArray, List.set_cons_zero, List.set_cons_succ]
  refine wpAnyH_take (i := 16) (oi := ?oir16_16) (v := ?vr16_16) ?hir16_16 (by kernel_rfl) (by kernel_rfl) (by kernel_rfl) ?hqr16_16 ?hyr16_16 (by assumption) ?restr16_16
  case hir16_16 => simp only [List.getElem?_toArray, List.getElem?_cons_succ, List.getElem?_cons_zero]; rfl
  case hqr16_16 => exact fun _ _ _ h => h
  case hyr16_16 => (refine Or.inl ⟨by rfl, ?_⟩; intro w hSw; (try dsimp only at hSw); go_simp; all_goals with_reducible rfl)
  try simp only [Act.put, List.setIfInBounds_toArray, List.set_cons_zero, List.set_cons_succ]
  refine wpAnyH_take (i := 17) (oi := ?oir16_17) (v := ?vr16_17) ?hir16_17 (by kernel_rfl) (by kernel_rfl) (by kernel_rfl) ?hqr16_17 ?hyr16_17 (by assumption) ?restr16_17
  case hir16_17 => simp only [List.getElem?_toArray, List.getElem?_cons_succ, List.getElem?_cons_zero]; rfl
  case hqr16_17 => exact fun _ _ _ h => h
  case hyr16_17 => (refine Or.inl ⟨by rfl, ?_⟩; intro w hSw; (try dsimp only at hSw); go_simp; all_goals with_reducible rfl)
  try simp only [Act.put, List.setIfInBounds_toArray, List.set_cons_zero, List.set_cons_succ]
  refine wpAnyH_take (i := 18) (oi := ?oir16_18) (v := ?vr16_18) ?hir16_18 (by kernel_rfl) (by kernel_rfl) (by kernel_rfl) ?hqr16_18 ?hyr16_18 (by assumption) ?restr16_18
  case hir16_18 => simp only [List.getElem?_toArray, List.getElem?_cons_succ, List.getElem?_cons_zero]; rfl
  case hqr16_18 => exact fun _ _ _ h => h
  case hyr16_18 => (refine Or.inl ⟨by rfl, ?_⟩; intro w hSw; (try dsimp only at hSw); go_simp; all_goals with_reducible rfl)
  try simp only [Act.put, List.setIfInBounds_toArray, List.set_cons_zero, List.set_cons_succ]
  refine wpAnyH_take (i := 19) (oi := ?oir16_19) (v := ?vr16_19) ?hir16_19 (by kernel_rfl) (by kernel_rfl) (by kernel_rfl) ?hqr16_19 ?hyr16_19 (by assumption) ?restr16_19
  case hir16_19 => simp only [List.getElem?_toArray, List.getElem?_cons_succ, List.getElem?_cons_zero]; rfl
  case hqr16_19 => exact fun _ _ _ h => h
  case hyr16_19 => (refine Or.inl ⟨by rfl, ?_⟩; intro w hSw; (try dsimp only at hSw); go_simp; all_goals with_reducible rfl)
  try simp only [Act.put, List.setIfInBounds_toArray, List.set_cons_zero, List.set_cons_succ]
  refine wpAnyH_take (i := 20) (oi := ?oir16_20) (v := ?vr16_20) ?hir16_20 (by kernel_rfl) (by kernel_rfl) (by kernel_rfl) ?hqr16_20 ?hyr16_20 (by assumption) ?restr16_20
  case hir16_20 => simp only [List.getElem?_toArray, List.getElem?_cons_succ, List.getElem?_cons_zero]; rfl
  case hqr16_20 => exact fun _ _ _ h => h
  case hyr16_20 => (refine Or.inl ⟨by rfl, ?_⟩; intro w hSw; (try dsimp only at hSw); go_simp; all_goals with_reducible rfl)
  try simp only [Act.put, List.setIfInBounds_toArray, List.set_cons_zero, List.set_cons_succ]
  refine wpAnyH_ready (rs := [21]) (by kernel_rfl) (by simp) ?_
  refine AllReadyH.cons (o := ?or17_21) ?hor17_21 (fun K hK => ?kr17_21) AllReadyH.nil
  case hor17_21 => simp only [List.getElem?_toArray, List.getElem?_cons_succ, List.getElem?_cons_zero]; rfl
  go_simp
  have c := refRatSame_any w15 (g1 := (x).neg) (g2 := (x).neg) h_fn_15 h_fd_15 h_xn_15 h_xd_15
  rw [show (⟨(x).neg, (x).num, (x).den⟩ : QV) = x from rfl] at c
  rw [sameV_self] at c
  refine c.mono ?_
  rintro e w16 ⟨rfl, hb⟩
  clear c
  have B16 := B15.trans (hb.mono B15.size)
  have h_xn_16 := h_xn_15.below hb
  have h_xd_16 := h_xd_15.below hb
  have h_yn_16 := h_yn_15.below hb
  have h_yd_16 := h_yd_15.below hb
  have h_x_16 := h_x_15.later hb
  have h_y_16 := h_y_15.later hb
  have h_en_16 := h_en_15.below hb
  have h_ed_16 := h_ed_15.below hb
  have h_e_16 := h_e_15.later hb
  have h_fn_16 := h_fn_15.below hb
  have h_fd_16 := h_fd_15.below hb
  have h_f_16 := h_f_15.later hb
  have h_hn_16 := h_hn_15.below hb
  have h_hd_16 := h_hd_15.below hb
  have h_h_16 := h_h_15.later hb
  have h_in_16 := h_in_15.below hb
  have h_id_16 := h_id_15.below hb
  have h_i_16 := h_i_15.later hb
  have h_jn_16 := h_jn_15.below hb
  have h_jd_16 := h_jd_15.below hb
  have h_j_16 := h_j_15.later hb
  clear hb B15 h_xn_15 h_xd_15 h_yn_15 h_yd_15 h_x_15 h_y_15 h_en_15 h_ed_15 h_e_15 h_fn_15 h_fd_15 h_f_15 h_hn_15 h_hd_15 h_h_15 h_in_15 h_id_15 h_i_15 h_jn_15 h_jd_15 h_j_15
  go_wp2_with fail
  clear hHeld
  refine hK.out _ _ ?_ (fun hHeld => ?_)
  · exact ⟨h_f_16.cell 0 _ rfl, h_f_16.cell 1 _ rfl, h_f_16.cell 2 _ rfl, h_x_16.cell 0 _ rfl, h_x_16.cell 1 _ rfl, h_x_16.cell 2 _ rfl, h_j_16.cell 0 _ rfl, h_j_16.cell 1 _ rfl, h_j_16.cell 2 _ rfl, h_h_16.cell 0 _ rfl, h_h_16.cell 1 _ rfl, h_h_16.cell 2 _ rfl, trivial⟩
  clear hK K
  try simp only [Act.put, List.setIfInBounds_toArray, List.set_cons_zero, List.set_cons_succ]
  refine wpAnyH_take (i := 22) (oi := ?oir18_22) (v := ?vr18_22) ?hir18_22 (by kernel_rfl) (by kernel_rfl) (by kernel_rfl) ?hqr18_22 ?hyr18_22 (by assumption) ?restr18_22
  case hir18_22 => simp only [List.getElem?_toArray, List.getElem?_cons_succ, List.getElem?_cons_zero]; rfl
  case hqr18_22 => exact fun _ _ _ h => h
  case hyr18_22 => (refine Or.inl ⟨by rfl, ?_⟩; intro w hSw; (try dsimp only at hSw); go_simp; all_goals with_reducible rfl)
  try simp only [Act.put, List.setIfInBounds_toArray, List.set_cons_zero, List.set_cons_succ]
  refine wpAnyH_take (i := 23) (oi := ?oir18_23) (v := ?vr18_23) ?hir18_23 (by kernel_rfl) (by kernel_rfl) (by kernel_rfl) ?hqr18_23 ?hyr18_23 (by assumption) ?restr18_23
  case hir18_23 => simp only [List.getElem?_toArray, List.getElem?_cons_succ, List.getElem?_cons_zero]; rfl
  case hqr18_23 => exact fun _ _ _ h => h
  case hyr18_23 => (refine Or.inl ⟨by rfl, ?_⟩; intro w hSw; (try dsimp only at hSw); go_simp; all_goals with_reducible rfl)
  try simp only [Act.put, List.setIfInBounds_toArray, List.set_cons_zero, List.set_cons_succ]
  refine wpAnyH_take (i := 24) (oi := ?oir18_24) (v := ?vr18_24) ?hir18_24 (by kernel_rfl) (by kernel_rfl) (by kernel_rfl) ?hqr18_24 ?hyr18_24 (by assumption) ?restr18_24
  case hir18_24 => simp only [List.getElem?_toArray, List.getElem?_cons_succ, List.getElem?_cons_zero]; rfl
  case hqr18_24 => exact fun _ _ _ h => h
  case hyr18_24 => (refine Or.inl ⟨by rfl, ?_⟩; intro w hSw; (try dsimp only at hSw); go_simp; all_goals with_reducible rfl)
  try simp only [Act.put, List.setIfInBounds_toArray, List.set_cons_zero, List.set_cons_succ]
  refine wpAnyH_take (i := 25) (oi := ?oir18_25) (v := ?vr18_25) ?hir18_25 (by kernel_rfl) (by kernel_rfl) (by kernel_rfl) ?hqr18_25 ?hyr18_25 (by assumption) ?restr18_25
  case hir18_25 => simp only [List.getElem?_toArray, List.getElem?_cons_succ, List.getElem?_cons_zero]; rfl
  case hqr18_25 => exact fun _ _ _ h => h
  case hyr18_25 => (refine Or.inl ⟨by rfl, ?_⟩; intro w hSw; (try dsimp only at hSw); go_simp; all_goals with_reducible rfl)
  try simp only [Act.put, List.setIfInBounds_toArray, List.set_cons_zero, List.set_cons_succ]
  refine wpAnyH_take (i := 26) (oi := ?oir18_26) (v := ?vr18_26) ?hir18_26 (by kernel_rfl) (by kernel_rfl) (by kernel_rfl) ?hqr18_26 ?hyr18_26 (by assumption) ?restr18_26
  case hir18_26 => simp only [List.getElem?_toArray, List.getElem?_cons_succ, List.getElem?_cons_zero]; rfl
  case hqr18_26 => exact fun _ _ _ h => h
  case hyr18_26 => (refine Or.inl ⟨by rfl, ?_⟩; intro w hSw; (try dsimp only at hSw); go_simp; all_goals with_reducible rfl)
  try simp only [Act.put, List.setIfInBounds_toArray, List.set_cons_zero, List.set_cons_succ]
  refine wpAnyH_ready (rs := [27]) (by kernel_rfl) (by simp) ?_
  refine AllReadyH.cons (o := ?or19_27) ?hor19_27 (fun K hK => ?kr19_27) AllReadyH.nil
  case hor19_27 => simp only [List.getElem?_toArray, List.getElem?_cons_succ, List.getElem?_cons_zero]; rfl
  go_simp
  have c := refRatSame_any w16 (g1 := (x).neg) (g2 := (x).neg) h_jn_16 h_jd_16 h_xn_16 h_xd_16
  rw [show (⟨(x).neg, (x).num, (x).den⟩ : QV) = x from rfl] at c
  rw [sameV_self] at c
  refine c.mono ?_
  rintro e w17 ⟨rfl, hb⟩
  clear c
  have B17 := B16.trans (hb.mono B16.size)
  have h_xn_17 := h_xn_16.below hb
  have h_xd_17 := h_xd_16.below hb
  have h_yn_17 := h_yn_16.below hb
  have h_yd_17 := h_yd_16.below hb
  have h_x_17 := h_x_16.later hb
  have h_y_17 := h_y_16.later hb
  have h_en_17 := h_en_16.below hb
  have h_ed_17 := h_ed_16.below hb
  have h_e_17 := h_e_16.later hb
  have h_fn_17 := h_fn_16.below hb
  have h_fd_17 := h_fd_16.below hb
  have h_f_17 := h_f_16.later hb
  have h_hn_17 := h_hn_16.below hb
  have h_hd_17 := h_hd_16.below hb
  have h_h_17 := h_h_16.later hb
  have h_in_17 := h_in_16.below hb
  have h_id_17 := h_id_16.below hb
  have h_i_17 := h_i_16.later hb
  have h_jn_17 := h_jn_16.below hb
  have h_jd_17 := h_jd_16.below hb
  have h_j_17 := h_j_16.later hb
  clear hb B16 h_xn_16 h_xd_16 h_yn_16 h_yd_16 h_x_16 h_y_16 h_en_16 h_ed_16 h_e_16 h_fn_16 h_fd_16 h_f_16 h_hn_16 h_hd_16 h_h_16 h_in_16 h_id_16 h_i_16 h_jn_16 h_jd_16 h_j_16
  go_wp2_with fail
  clear hHeld
  refine hK.out _ _ ?_ (fun hHeld => ?_)
  · exact ⟨h_f_17.cell 0 _ rfl, h_f_17.cell 1 _ rfl, h_f_17.cell 2 _ rfl, h_x_17.cell 0 _ rfl, h_x_17.cell 1 _ rfl, h_x_17.cell 2 _ rfl, h_j_17.cell 0 _ rfl, h_j_17.cell 1 _ rfl, h_j_17.cell 2 _ rfl, h_h_17.cell 0 _ rfl, h_h_17.cell 1 _ rfl, h_h_17.cell 2 _ rfl, trivial⟩
  clear hK K
  try simp only [Act.put, List.setIfInBounds_toArray, List.set_cons_zero, List.set_cons_succ]
  as_aux_lemma =>
    refine wpAnyH_take (i := 28) (oi := ?oir21_28) (v := ?vr21_28) ?hir21_28 (by kernel_rfl) (by kernel_rfl) (by kernel_rfl) ?hqr21_28 ?hyr21_28 (by assumption) ?restr21_28
    case hir21_28 => simp only [List.getElem?_toArray, List.getElem?_cons_succ, List.getElem?_cons_zero]; rfl
    case hqr21_28 => exact fun _ _ _ h => h
    case hyr21_28 => (refine Or.inl ⟨by rfl, ?_⟩; intro w hSw; (try dsimp only at hSw); go_simp; all_goals with_reducible rfl)
    try simp only [Act.put, List.setIfInBounds_toArray, List.set_cons_zero, List.set_cons_succ]
    refine wpAnyH_take (i := 29) (oi := ?oir21_29) (v := ?vr21_29) ?hir21_29 (by kernel_rfl) (by kernel_rfl) (by kernel_rfl) ?hqr21_29 ?hyr21_29 (by assumption) ?restr21_29
    case hir21_29 => simp only [List.getElem?_toArray, List.getElem?_cons_succ, List.getElem?_cons_zero]; rfl
    case hqr21_29 => exact fun _ _ _ h => h
    case hyr21_29 => (refine Or.inl ⟨by rfl, ?_⟩; intro w hSw; (try dsimp only at hSw); go_simp; all_goals with_reducible rfl)
    try simp only [Act.put, List.setIfInBounds_toArray, List.set_cons_zero, List.set_cons_succ]
    refine wpAnyH_take (i := 30) (oi := ?oir21_30) (v := ?vr21_30) ?hir21_30 (by kernel_rfl) (by kernel_rfl) (by kernel_rfl) ?hqr21_30 ?hyr21_30 (by assumption) ?restr21_30
    case hir21_30 => simp only [List.getElem?_toArray, List.getElem?_cons_succ, List.getElem?_cons_zero]; rfl
    case hqr21_30 => exact fun _ _ _ h => h
    case hyr21_30 => (refine Or.inl ⟨by rfl, ?_⟩; intro w hSw; (try dsimp only at hSw); go_simp; all_goals with_reducible rfl)
    try simp only [Act.put, List.setIfInBounds_toArray, List.set_cons_zero, List.set_cons_succ]
    refine wpAnyH_take (i := 31) (oi := ?oir21_31) (v := ?vr21_31) ?hir21_31 (by kernel_rfl) (by kernel_rfl) (by kernel_rfl) ?hqr21_31 ?hyr21_31 (by assumption) ?restr21_31
    case hir21_31 => simp only [List.getElem?_toArray, List.getElem?_cons_succ, List.getElem?_cons_zero]; rfl
    case hqr21_31 => exact fun _ _ _ h => h
    case hyr21_31 => (refine Or.inl ⟨by rfl, ?_⟩; intro w hSw; (try dsimp only at hSw); go_simp; all_goals with_reducible rfl)
    try simp only [Act.put, List.setIfInBounds_toArray, List.set_cons_zero, List.set_cons_succ]
    refine wpAnyH_ready (rs := [32]) (by kernel_rfl) (by simp) ?_
    refine AllReadyH.cons (o := ?or22_32) ?hor22_32 (fun K hK => ?kr22_32) AllReadyH.nil
    case hor22_32 => simp only [List.getElem?_toArray, List.getElem?_cons_succ, List.getElem?_cons_zero]; rfl
    go_simp
    have c := whole_any w17 0 (by decide) (by decide)
    refine c.mono ?_
    rintro e w18 ⟨a_o, n_o, c_o, b_o, m_o, d_o, rfl, h_on_18, h_od_18, hb⟩
    clear c
    have B18 := B17.trans (hb.mono B17.size)
    have h_xn_18 := h_xn_17.below hb
    have h_xd_18 := h_xd_17.below hb
    have h_yn_18 := h_yn_17.below hb
    have h_yd_18 := h_yd_17.below hb
    have h_x_18 := h_x_17.later hb
    have h_y_18 := h_y_17.later hb
    have h_en_18 := h_en_17.below hb
    have h_ed_18 := h_ed_17.below hb
    have h_e_18 := h_e_17.later hb
    have h_fn_18 := h_fn_17.below hb
    have h_fd_18 := h_fd_17.below hb
    have h_f_18 := h_f_17.later hb
    have h_hn_18 := h_hn_17.below hb
    have h_hd_18 := h_hd_17.below hb
    have h_h_18 := h_h_17.later hb
    have h_in_18 := h_in_17.below hb
    have h_id_18 := h_id_17.below hb
    have h_i_18 := h_i_17.later hb
    have h_jn_18 := h_jn_17.below hb
    have h_jd_18 := h_jd_17.below hb
    have h_j_18 := h_j_17.later hb
    clear hb B17 h_xn_17 h_xd_17 h_yn_17 h_yd_17 h_x_17 h_y_17 h_en_17 h_ed_17 h_e_17 h_fn_17 h_fd_17 h_f_17 h_hn_17 h_hd_17 h_h_17 h_in_17 h_id_17 h_i_17 h_jn_17 h_jd_17 h_j_17
    go_wp2_with fail
    clear hHeld
    refine hK.out _ _ ?_ (fun hHeld => ?_)
    · exact ⟨h_f_18.cell 0 _ rfl, h_f_18.cell 1 _ rfl, h_f_18.cell 2 _ rfl, h_x_18.cell 0 _ rfl, h_x_18.cell 1 _ rfl, h_x_18.cell 2 _ rfl, h_j_18.cell 0 _ rfl, h_j_18.cell 1 _ rfl, h_j_18.cell 2 _ rfl, h_h_18.cell 0 _ rfl, h_h_18.cell 1 _ rfl, h_h_18.cell 2 _ rfl, trivial⟩
    clear hK K
    try simp only [Act.put, List.setIfInBounds_toArray, List.set_cons_zero, List.set_cons_succ]
    refine wpAnyH_ready (rs := [33]) (by kernel_rfl) (by simp) ?_
    refine AllReadyH.cons (o := ?or23_33) ?hor23_33 (fun K hK => ?kr23_33) AllReadyH.nil
    case hor23_33 => simp only [List.getElem?_toArray, List.getElem?_cons_succ, List.getElem?_cons_zero]; rfl
    go_simp
    have c := refRatSame_any w18 (g1 := ((ofC 0 1).1).neg) (g2 := ((ofC 0 1).1).neg) h_hn_18 h_hd_18 h_on_18 h_od_18
    rw [show (⟨((ofC 0 1).1).neg, ((ofC 0 1).1).num, ((ofC 0 1).1).den⟩ : QV) = (ofC 0 1).1 from rfl] at c
    rw [sameV_self] at c
    refine c.mono ?_
    rintro e w19 ⟨rfl, hb⟩
    clear c
    have B19 := B18.trans (hb.mono B18.size)
    have h_xn_19 := h_xn_18.below hb
    have h_xd_19 := h_xd_18.below hb
    have h_yn_19 := h_yn_18.below hb
    have h_yd_19 := h_yd_18.below hb
    have h_x_19 := h_x_18.later hb
    have h_y_19 := h_y_18.later hb
    have h_en_19 := h_en_18.below hb
    have h_ed_19 := h_ed_18.below hb
    have h_e_19 := h_e_18.later hb
    have h_fn_19 := h_fn_18.below hb
    have h_fd_19 := h_fd_18.below hb
    have h_f_19 := h_f_18.later hb
    have h_hn_19 := h_hn_18.below hb
    have h_hd_19 := h_hd_18.below hb
    have h_h_19 := h_h_18.later hb
    have h_in_19 := h_in_18.below hb
    have h_id_19 := h_id_18.below hb
    have h_i_19 := h_i_18.later hb
    have h_jn_19 := h_jn_18.below hb
    have h_jd_19 := h_jd_18.below hb
    have h_j_19 := h_j_18.later hb
    clear hb B18 h_xn_18 h_xd_18 h_yn_18 h_yd_18 h_x_18 h_y_18 h_en_18 h_ed_18 h_e_18 h_fn_18 h_fd_18 h_f_18 h_hn_18 h_hd_18 h_h_18 h_in_18 h_id_18 h_i_18 h_jn_18 h_jd_18 h_j_18 h_on_18 h_od_18
    go_wp2_with fail
    clear hHeld
    refine hK.out _ _ ?_ (fun hHeld => ?_)
    · exact ⟨h_f_19.cell 0 _ rfl, h_f_19.cell 1 _ rfl, h_f_19.cell 2 _ rfl, h_x_19.cell 0 _ rfl, h_x_19.cell 1 _ rfl, h_x_19.cell 2 _ rfl, h_j_19.cell 0 _ rfl, h_j_19.cell 1 _ rfl, h_j_19.cell 2 _ rfl, h_h_19.cell 0 _ rfl, h_h_19.cell 1 _ rfl, h_h_19.cell 2 _ rfl, trivial⟩
    clear hK K
    try simp only [Act.put, List.setIfInBounds_toArray, List.set_cons_zero, List.set_cons_succ]
    refine wpAnyH_take (i := 34) (oi := ?oir24_34) (v := ?vr24_34) ?hir24_34 (by kernel_rfl) (by kernel_rfl) (by kernel_rfl) ?hqr24_34 ?hyr24_34 (by assumption) ?restr24_34
    case hir24_34 => simp only [List.getElem?_toArray, List.getElem?_cons_succ, List.getElem?_cons_zero]; rfl
    case hqr24_34 => exact fun _ _ _ h => h
    case hyr24_34 => (refine Or.inl ⟨by rfl, ?_⟩; intro w hSw; (try dsimp only at hSw); go_simp; all_goals with_reducible rfl)
    try simp only [Act.put, List.setIfInBounds_toArray, List.set_cons_zero, List.set_cons_succ]
    refine wpAnyH_take (i := 35) (oi := ?oir24_35) (v := ?vr24_35) ?hir24_35 (by kernel_rfl) (by kernel_rfl) (by kernel_rfl) ?hqr24_35 ?hyr24_35 (by assumption) ?restr24_35
    case hir24_35 => simp only [List.getElem?_toArray, List.getElem?_cons_succ, List.getElem?_cons_zero]; rfl
    case hqr24_35 => exact fun _ _ _ h => h
    case hyr24_35 => (refine Or.inl ⟨by rfl, ?_⟩; intro w hSw; (try dsimp only at hSw); go_simp; all_goals with_reducible rfl)
    try simp only [Act.put, List.setIfInBounds_toArray, List.set_cons_zero, List.set_cons_succ]
    refine wpAnyH_done (by kernel_rfl) ?_ _
    clear hHeld
    clear h_e_19 h_en_19 h_ed_19 h_f_19 h_fn_19 h_fd_19 h_h_19 h_hn_19 h_hd_19 h_i_19 h_in_19 h_id_19 h_j_19 h_jn_19 h_jd_19
    have k_x_0 := h_x_19.cell 0 _ rfl
    have k_x_1 := h_x_19.cell 1 _ rfl
    have k_x_2 := h_x_19.cell 2 _ rfl
    have k_y_0 := h_y_19.cell 0 _ rfl
    have k_y_1 := h_y_19.cell 1 _ rfl
    have k_y_2 := h_y_19.cell 2 _ rfl
    go_wp2_with fail
    clear k_x_0 k_x_1 k_x_2 k_y_0 k_y_1 k_y_2
    have c := ratMul_any w19 (g1 := (x).neg) (g2 := (y).neg) h_xn_19 h_xd_19 h_yn_19 h_yd_19
    rw [show (⟨(x).neg, (x).num, (x).den⟩ : QV) = x from rfl] at c
    rw [show (⟨(y).neg, (y).num, (y).den⟩ : QV) = y from rfl] at c
    rw [F5.out] at c
    refine c.mono ?_
    rintro e w20 ⟨a_k, n_k, c_k, b_k, m_k, d_k, rfl, h_kn_20, h_kd_20, hb⟩
    clear c
    have B20 := B19.trans (hb.mono B19.size)
    have h_xn_20 := h_xn_19.below hb
    have h_xd_20 := h_xd_19.below hb
    have h_yn_20 := h_yn_19.below hb
    have h_yd_20 := h_yd_19.below hb
    have h_x_20 := h_x_19.later hb
    have h_y_20 := h_y_19.later hb
    clear hb B19 h_xn_19 h_xd_19 h_yn_19 h_yd_19 h_x_19 h_y_19
    have hb := below_al w20 (.cells #[.bool (q).neg, .slice a_k n_k c_k, .slice b_k m_k d_k] 24)
    have B21 := B20.trans (hb.mono B20.size)
    have h_xn_21 := h_xn_20.below hb
    have h_xd_21 := h_xd_20.below hb
    have h_yn_21 := h_yn_20.below hb
    have h_yd_21 := h_yd_20.below hb
    have h_x_21 := h_x_20.later hb
    have h_y_21 := h_y_20.later hb
    have h_kn_21 := h_kn_20.below hb
    have h_kd_21 := h_kd_20.below hb
    clear hb B20 h_xn_20 h_xd_20 h_yn_20 h_yd_20 h_x_20 h_y_20 h_kn_20 h_kd_20
    have h_k_21 := Has.new w20 #[.bool (q).neg, .slice a_k n_k c_k, .slice b_k m_k d_k] 24
    have k_k_0 := h_k_21.cell 0 _ rfl
    have k_k_1 := h_k_21.cell 1 _ rfl
    have k_k_2 := h_k_21.cell 2 _ rfl
    have k_y_0 := h_y_21.cell 0 _ rfl
    have k_y_1 := h_y_21.cell 1 _ rfl
    have k_y_2 := h_y_21.cell 2 _ rfl
    go_wp2_with first | refine wpList_store_new rfl 24 _ _ rfl atRat _ _ _ rfl rfl rfl rfl (rat_one _ _ _ _ _ _ _) ?_
    clear k_k_0 k_k_1 k_k_2 k_y_0 k_y_1 k_y_2
    generalize (w20.alloc (.cells #[.bool (q).neg, .slice a_k n_k c_k, .slice b_k m_k d_k] 24)) = w21 at *
    have c := ratDiv_any w21 (g1 := (q).neg) (g2 := (y).neg) h_kn_21 h_kd_21 h_yn_21 h_yd_21
    rw [show (⟨(q).neg, (q).num, (q).den⟩ : QV) = q from rfl] at c
    rw [show (⟨(y).neg, (y).num, (y).den⟩ : QV) = y from rfl] at c
    rw [F8.out] at c
    refine c.mono ?_
    rintro e w22 ⟨a_e, n_e, c_e, b_e, m_e, d_e, rfl, h_en_22, h_ed_22, hb⟩
    clear c
    have B22 := B21.trans (hb.mono B21.size)
    have h_xn_22 := h_xn_21.below hb
    have h_xd_22 := h_xd_21.below hb
    have h_yn_22 := h_yn_21.below hb
    have h_yd_22 := h_yd_21.below hb
    have h_x_22 := h_x_21.later hb
    have h_y_22 := h_y_21.later hb
    have h_kn_22 := h_kn_21.below hb
    have h_kd_22 := h_kd_21.below hb
    have h_k_22 := h_k_21.later hb
    clear hb B21 h_xn_21 h_xd_21 h_yn_21 h_yd_21 h_x_21 h_y_21 h_kn_21 h_kd_21 h_k_21
    have hb := below_al w22 (.cells #[.bool (x).neg, .slice a_e n_e c_e, .slice b_e m_e d_e] 24)
    have B23 := B22.trans (hb.mono B22.size)
    have h_xn_23 := h_xn_22.below hb
    have h_xd_23 := h_xd_22.below hb
    have h_yn_23 := h_yn_22.below hb
    have h_yd_23 := h_yd_22.below hb
    have h_x_23 := h_x_22.later hb
    have h_y_23 := h_y_22.later hb
    have h_kn_23 := h_kn_22.below hb
    have h_kd_23 := h_kd_22.below hb
    have h_k_23 := h_k_22.later hb
    have h_en_23 := h_en_22.below hb
    have h_ed_23 := h_ed_22.below hb
    clear hb B22 h_xn_22 h_xd_22 h_yn_22 h_yd_22 h_x_22 h_y_22 h_kn_22 h_kd_22 h_k_22 h_en_22 h_ed_22
    have h_e_23 := Has.new w22 #[.bool (x).neg, .slice a_e n_e c_e, .slice b_e m_e d_e] 24
    have k_y_0 := h_y_23.cell 0 _ rfl
    have k_y_1 := h_y_23.cell 1 _ rfl
    have k_y_2 := h_y_23.cell 2 _ rfl
    go_wp2_with first | refine wpList_store_new rfl 24 _ _ rfl atRat _ _ _ rfl rfl rfl rfl (rat_one _ _ _ _ _ _ _) ?_
    clear k_y_0 k_y_1 k_y_2
    generalize (w22.alloc (.cells #[.bool (x).neg, .slice a_e n_e c_e, .slice b_e m_e d_e] 24)) = w23 at *
    have c := ratDiv_any w23 (g1 := (y).neg) (g2 := (y).neg) h_yn_23 h_yd_23 h_yn_23 h_yd_23
    rw [show (⟨(y).neg, (y).num, (y).den⟩ : QV) = y from rfl] at c
    rw [F9.out] at c
    refine c.mono ?_
    rintro e w24 ⟨a_f, n_f, c_f, b_f, m_f, d_f, rfl, h_fn_24, h_fd_24, hb⟩
    clear c
    have B24 := B23.trans (hb.mono B23.size)
    have h_xn_24 := h_xn_23.below hb
    have h_xd_24 := h_xd_23.below hb
    have h_yn_24 := h_yn_23.below hb
    have h_yd_24 := h_yd_23.below hb
    have h_x_24 := h_x_23.later hb
    have h_y_24 := h_y_23.later hb
    have h_kn_24 := h_kn_23.below hb
    have h_kd_24 := h_kd_23.below hb
    have h_k_24 := h_k_23.later hb
    have h_en_24 := h_en_23.below hb
    have h_ed_24 := h_ed_23.below hb
    have h_e_24 := h_e_23.later hb
    clear hb B23 h_xn_23 h_xd_23 h_yn_23 h_yd_23 h_x_23 h_y_23 h_kn_23 h_kd_23 h_k_23 h_en_23 h_ed_23 h_e_23
    have hb := below_al w24 (.cells #[.bool ((ofC 1 1).1).neg, .slice a_f n_f c_f, .slice b_f m_f d_f] 24)
    have B25 := B24.trans (hb.mono B24.size)
    have h_xn_25 := h_xn_24.below hb
    have h_xd_25 := h_xd_24.below hb
    have h_yn_25 := h_yn_24.below hb
    have h_yd_25 := h_yd_24.below hb
    have h_x_25 := h_x_24.later hb
    have h_y_25 := h_y_24.later hb
    have h_kn_25 := h_kn_24.below hb
    have h_kd_25 := h_kd_24.below hb
    have h_k_25 := h_k_24.later hb
    have h_en_25 := h_en_24.below hb
    have h_ed_25 := h_ed_24.below hb
    have h_e_25 := h_e_24.later hb
    have h_fn_25 := h_fn_24.below hb
    have h_fd_25 := h_fd_24.below hb
    clear hb B24 h_xn_24 h_xd_24 h_yn_24 h_yd_24 h_x_24 h_y_24 h_kn_24 h_kd_24 h_k_24 h_en_24 h_ed_24 h_e_24 h_fn_24 h_fd_24
    have h_f_25 := Has.new w24 #[.bool ((ofC 1 1).1).neg, .slice a_f n_f c_f, .slice b_f m_f d_f] 24
    go_wp2_with first | refine wpList_store_new rfl 24 _ _ rfl atRat _ _ _ rfl rfl rfl rfl (rat_one _ _ _ _ _ _ _) ?_
    generalize (w24.alloc (.cells #[.bool ((ofC 1 1).1).neg, .slice a_f n_f c_f, .slice b_f m_f d_f] 24)) = w25 at *
    have hb := (Below.refl w25.heap.size w25).drew
    have B26 := B25.trans (hb.mono B25.size)
    have h_xn_26 := h_xn_25.below hb
    have h_xd_26 := h_xd_25.below hb
    have h_yn_26 := h_yn_25.below hb
    have h_yd_26 := h_yd_25.below hb
    have h_x_26 := h_x_25.later hb
    have h_y_26 := h_y_25.later hb
    have h_kn_26 := h_kn_25.below hb
    have h_kd_26 := h_kd_25.below hb
    have h_k_26 := h_k_25.later hb
    have h_en_26 := h_en_25.below hb
    have h_ed_26 := h_ed_25.below hb
    have h_e_26 := h_e_25.later hb
    have h_fn_26 := h_fn_25.below hb
    have h_fd_26 := h_fd_25.below hb
    have h_f_26 := h_f_25.later hb
    clear hb B25 h_xn_25 h_xd_25 h_yn_25 h_yd_25 h_x_25 h_y_25 h_kn_25 h_kd_25 h_k_25 h_en_25 h_ed_25 h_e_25 h_fn_25 h_fd_25 h_f_25
    refine wp_region_held_drew (S := (fun w' => w'.cell? ⟨w22.heap.size, 0, none⟩ = some (.bool (x).neg) ∧ w'.cell? ⟨w22.heap.size, 1, none⟩ = some (.slice a_e n_e c_e) ∧ w'.cell? ⟨w22.heap.size, 2, none⟩ = some (.slice b_e m_e d_e) ∧ w'.cell? ⟨w.heap.size, 0, none⟩ = some (.bool (x).neg) ∧ w'.cell? ⟨w.heap.size, 1, none⟩ = some (.slice a_x n_x c_x) ∧ w'.cell? ⟨w.heap.size, 2, none⟩ = some (.slice b_x m_x d_x) ∧ w'.cell? ⟨w24.heap.size, 0, none⟩ = some (.bool ((ofC 1 1).1).neg) ∧ w'.cell? ⟨w24.heap.size, 1, none⟩ = some (.slice a_f n_f c_f) ∧ w'.cell? ⟨w24.heap.size, 2, none⟩ = some (.slice b_f m_f d_f) ∧ True)) (by kernel_rfl) ?_ (fun hHeld => ?_)
    · exact ⟨h_e_26.cell 0 _ rfl, h_e_26.cell 1 _ rfl, h_e_26.cell 2 _ rfl, h_x_26.cell 0 _ rfl, h_x_26.cell 1 _ rfl, h_x_26.cell 2 _ rfl, h_f_26.cell 0 _ rfl, h_f_26.cell 1 _ rfl, h_f_26.cell 2 _ rfl, trivial⟩
    generalize w25.drew = w26 at *
    refine wpAnyH_take (i := 0) (oi := ?oir25_0) (v := ?vr25_0) ?hir25_0 (by kernel_rfl) (by kernel_rfl) (by kernel_rfl) ?hqr25_0 ?hyr25_0 (by assumption) ?restr25_0
    case hir25_0 => simp only [List.getElem?_toArray, List.getElem?_cons_succ, List.getElem?_cons_zero]; rfl
    case hqr25_0 => exact fun _ _ _ h => h
    case hyr25_0 => (refine Or.inl ⟨by rfl, ?_⟩; intro w hSw; (try dsimp only at hSw); go_simp; all_goals with_reducible rfl)
    try simp only [Act.put, List.setIfInBounds_toArray, List.set_cons_zero, List.set_cons_succ]
    refine wpAnyH_take (i := 1) (oi := ?oir25_1) (v := ?vr25_1) ?hir25_1 (by kernel_rfl) (by kernel_rfl) (by kernel_rfl) ?hqr25_1 ?hyr25_1 (by assumption) ?restr25_1
    case hir25_1 => simp only [List.getElem?_toArray, List.getElem?_cons_succ, List.getElem?_cons_zero]; rfl
    case hqr25_1 => exact fun _ _ _ h => h
    case hyr25_1 => (refine Or.inl ⟨by rfl, ?_⟩; intro w hSw; (try dsimp only at hSw); go_simp; all_goals with_reducible rfl)
    try simp only [Act.put, List.setIfInBounds_toArray, List.set_cons_zero, List.set_cons_succ]
    refine wpAnyH_take (i := 2) (oi := ?oir25_2) (v := ?vr25_2) ?hir25_2 (by kernel_rfl) (by kernel_rfl) (by kernel_rfl) ?hqr25_2 ?hyr25_2 (by assumption) ?restr25_2
    case hir25_2 => simp only [List.getElem?_toArray, List.getElem?_cons_succ, List.getElem?_cons_zero]; rfl
    case hqr25_2 => exact fun _ _ _ h => h
    case hyr25_2 => (refine Or.inl ⟨by rfl, ?_⟩; intro w hSw; (try dsimp only at hSw); go_simp; all_goals with_reducible rfl)
    try simp only [Act.put, List.setIfInBounds_toArray, List.set_cons_zero, List.set_cons_succ]
    refine wpAnyH_take (i := 3) (oi := ?oir25_3) (v := ?vr25_3) ?hir25_3 (by kernel_rfl) (by kernel_rfl) (by kernel_rfl) ?hqr25_3 ?hyr25_3 (by assumption) ?restr25_3
    case hir25_3 => simp only [List.getElem?_toArray, List.getElem?_cons_succ, List.getElem?_cons_zero]; rfl
    case hqr25_3 => exact fun _ _ _ h => h
    case hyr25_3 => (refine Or.inl ⟨by rfl, ?_⟩; intro w hSw; (try dsimp only at hSw); go_simp; all_goals with_reducible rfl)
    try simp only [Act.put, List.setIfInBounds_toArray, List.set_cons_zero, List.set_cons_succ]
    refine wpAnyH_take (i := 4) (oi := ?oir25_4) (v := ?vr25_4) ?hir25_4 (by kernel_rfl) (by kernel_rfl) (by kernel_rfl) ?hqr25_4 ?hyr25_4 (by assumption) ?restr25_4
    case hir25_4 => simp only [List.getElem?_toArray, List.getElem?_cons_succ, List.getElem?_cons_zero]; rfl
    case hqr25_4 => exact fun _ _ _ h => h
    case hyr25_4 => (refine Or.inl ⟨by rfl, ?_⟩; intro w hSw; (try dsimp only at hSw); go_simp; all_goals with_reducible rfl)
    try simp only [Act.put, List.setIfInBounds_toArray, List.set_cons_zero, List.set_cons_succ]
    refine wpAnyH_take (i := 5) (oi := ?oir25_5) (v := ?vr25_5) ?hir25_5 (by kernel_rfl) (by kernel_rfl) (by kernel_rfl) ?hqr25_5 ?hyr25_5 (by assumption) ?restr25_5
    case hir25_5 => simp only [List.getElem?_toArray, List.getElem?_cons_succ, List.getElem?_cons_zero]; rfl
    case hqr25_5 => exact fun _ _ _ h => h
    case hyr25_5 => (refine Or.inl ⟨by rfl, ?_⟩; intro w hSw; (try dsimp only at hSw); go_simp; all_goals with_reducible rfl)
    try simp only [Act.put, List.setIfInBounds_toArray, List.set_cons_zero, List.set_cons_succ]
    refine wpAnyH_take (i := 6) (oi := ?oir25_6) (v := ?vr25_6) ?hir25_6 (by kernel_rfl) (by kernel_rfl) (by kernel_rfl) ?hqr25_6 ?hyr25_6 (by assumption) ?restr25_6
    case hir25_6 => simp only [List.getElem?_toArray, List.getElem?_cons_succ, List.getElem?_cons_zero]; rfl
    case hqr25_6 => exact fun _ _ _ h => h
    case hyr25_6 => (refine Or.inl ⟨by rfl, ?_⟩; intro w hSw; (try dsimp only at hSw); go_simp; all_goals with_reducible rfl)
    try simp only [Act.put, List.setIfInBounds_toArray, List.set_cons_zero, List.set_cons_succ]
    refine wpAnyH_take (i := 7) (oi := ?oir25_7) (v := ?vr25_7) ?hir25_7 (by kernel_rfl) (by kernel_rfl) (by kernel_rfl) ?hqr25_7 ?hyr25_7 (by assumption) ?restr25_7
    case hir25_7 => simp only [List.getElem?_toArray, List.getElem?_cons_succ, List.getElem?_cons_zero]; rfl
    case hqr25_7 => exact fun _ _ _ h => h
    case hyr25_7 => (refine Or.inl ⟨by rfl, ?_⟩; intro w hSw; (try dsimp only at hSw); go_simp; all_goals with_reducible rfl)
    try simp only [Act.put, List.setIfInBounds_toArray, List.set_cons_zero, List.set_cons_succ]
    refine wpAnyH_take (i := 8) (oi := ?oir25_8) (v := ?vr25_8) ?hir25_8 (by kernel_rfl) (by kernel_rfl) (by kernel_rfl) ?hqr25_8 ?hyr25_8 (by assumption) ?restr25_8
    case hir25_8 => simp only [List.getElem?_toArray, List.getElem?_cons_succ, List.getElem?_cons_zero]; rfl
    case hqr25_8 => exact fun _ _ _ h => h
    case hyr25_8 => (refine Or.inl ⟨by rfl, ?_⟩; intro w hSw; (try dsimp only at hSw); go_simp; all_goals with_reducible rfl)
    try simp only [Act.put, List.setIfInBounds_toArray, List.set_cons_zero, List.set_cons_succ]
    refine wpAnyH_take (i := 9) (oi := ?oir25_9) (v := ?vr25_9) ?hir25_9 (by kernel_rfl) (by kernel_rfl) (by kernel_rfl) ?hqr25_9 ?hyr25_9 (by assumption) ?restr25_9
    case hir25_9 => simp only [List.getElem?_toArray, List.getElem?_cons_succ, List.getElem?_cons_zero]; rfl
    case hqr25_9 => exact fun _ _ _ h => h
    case hyr25_9 => (refine Or.inl ⟨by rfl, ?_⟩; intro w hSw; (try dsimp only at hSw); go_simp; all_goals with_reducible rfl)
    try simp only [Act.put, List.setIfInBounds_toArray, List.set_cons_zero, List.set_cons_succ]
    refine wpAnyH_take (i := 10) (oi := ?oir25_10) (v := ?vr25_10) ?hir25_10 (by kernel_rfl) (by kernel_rfl) (by kernel_rfl) ?hqr25_10 ?hyr25_10 (by assumption) ?restr25_10
    case hir25_10 => simp only [List.getElem?_toArray, List.getElem?_cons_succ, List.getElem?_cons_zero]; rfl
    case hqr25_10 => exact fun _ _ _ h => h
    case hyr25_10 => (refine Or.inl ⟨by rfl, ?_⟩; intro w hSw; (try dsimp only at hSw); go_simp; all_goals with_reducible rfl)
    try simp only [Act.put, List.setIfInBounds_toArray, List.set_cons_zero, List.set_cons_succ]
    refine wpAnyH_take (i := 11) (oi := ?oir25_11) (v := ?vr25_11) ?hir25_11 (by kernel_rfl) (by kernel_rfl) (by kernel_rfl) ?hqr25_11 ?hyr25_11 (by assumption) ?restr25_11
    case hir25_11 => simp only [List.getElem?_toArray, List.getElem?_cons_succ, List.getElem?_cons_zero]; rfl
    case hqr25_11 => exact fun _ _ _ h => h
    case hyr25_11 => (refine Or.inl ⟨by rfl, ?_⟩; intro w hSw; (try dsimp only at hSw); go_simp; all_goals with_reducible rfl)
    try simp only [Act.put, List.setIfInBounds_toArray, List.set_cons_zero, List.set_cons_succ]
    refine wpAnyH_take (i := 12) (oi := ?oir25_12) (v := ?vr25_12) ?hir25_12 (by kernel_rfl) (by kernel_rfl) (by kernel_rfl) ?hqr25_12 ?hyr25_12 (by assumption) ?restr25_12
    case hir25_12 => simp only [List.getElem?_toArray, List.getElem?_cons_succ, List.getElem?_cons_zero]; rfl
    case hqr25_12 => exact fun _ _ _ h => h
    case hyr25_12 => (refine Or.inl ⟨by rfl, ?_⟩; intro w hSw; (try dsimp only at hSw); go_simp; all_goals with_reducible rfl)
    try simp only [Act.put, List.setIfInBounds_toArray, List.set_cons_zero, List.set_cons_succ]
    refine wpAnyH_ready (rs := [13]) (by kernel_rfl) (by simp) ?_
    refine AllReadyH.cons (o := ?or26_13) ?hor26_13 (fun K hK => ?kr26_13) AllReadyH.nil
    case hor26_13 => simp only [List.getElem?_toArray, List.getElem?_cons_succ, List.getElem?_cons_zero]; rfl
    go_simp
    have c := refRatSame_any w26 (g1 := (x).neg) (g2 := (x).neg) h_en_26 h_ed_26 h_xn_26 h_xd_26
    rw [show (⟨(x).neg, (x).num, (x).den⟩ : QV) = x from rfl] at c
    rw [sameV_self] at c
    refine c.mono ?_
    rintro e w27 ⟨rfl, hb⟩
    clear c
    have B27 := B26.trans (hb.mono B26.size)
    have h_xn_27 := h_xn_26.below hb
    have h_xd_27 := h_xd_26.below hb
    have h_yn_27 := h_yn_26.below hb
    have h_yd_27 := h_yd_26.below hb
    have h_x_27 := h_x_26.later hb
    have h_y_27 := h_y_26.later hb
    have h_kn_27 := h_kn_26.below hb
    have h_kd_27 := h_kd_26.below hb
    have h_k_27 := h_k_26.later hb
    have h_en_27 := h_en_26.below hb
    have h_ed_27 := h_ed_26.below hb
    have h_e_27 := h_e_26.later hb
    have h_fn_27 := h_fn_26.below hb
    have h_fd_27 := h_fd_26.below hb
    have h_f_27 := h_f_26.later hb
    clear hb B26 h_xn_26 h_xd_26 h_yn_26 h_yd_26 h_x_26 h_y_26 h_kn_26 h_kd_26 h_k_26 h_en_26 h_ed_26 h_e_26 h_fn_26 h_fd_26 h_f_26
    go_wp2_with fail
    clear hHeld
    refine hK.out _ _ ?_ (fun hHeld => ?_)
    · exact ⟨h_e_27.cell 0 _ rfl, h_e_27.cell 1 _ rfl, h_e_27.cell 2 _ rfl, h_x_27.cell 0 _ rfl, h_x_27.cell 1 _ rfl, h_x_27.cell 2 _ rfl, h_f_27.cell 0 _ rfl, h_f_27.cell 1 _ rfl, h_f_27.cell 2 _ rfl, trivial⟩
    clear hK K
    try simp only [Act.put, List.setIfInBounds_toArray, List.set_cons_zero, List.set_cons_succ]
    refine wpAnyH_take (i := 14) (oi := ?oir27_14) (v := ?vr27_14) ?hir27_14 (by kernel_rfl) (by kernel_rfl) (by kernel_rfl) ?hqr27_14 ?hyr27_14 (by assumption) ?restr27_14
    case hir27_14 => simp only [List.getElem?_toArray, List.getElem?_cons_succ, List.getElem?_cons_zero]; rfl
    case hqr27_14 => exact fun _ _ _ h => h
    case hyr27_14 => (refine Or.inl ⟨by rfl, ?_⟩; intro w hSw; (try dsimp only at hSw); go_simp; all_goals with_reducible rfl)
    try simp only [Act.put, List.setIfInBounds_toArray, List.set_cons_zero, List.set_cons_succ]
    refine wpAnyH_take (i := 15) (oi := ?oir27_15) (v := ?vr27_15) ?hir27_15 (by kernel_rfl) (by kernel_rfl) (by kernel_rfl) ?hqr27_15 ?hyr27_15 (by assumption) ?restr27_15
    case hir27_15 => simp only [List.getElem?_toArray, List.getElem?_cons_succ, List.getElem?_cons_zero]; rfl
    case hqr27_15 => exact fun _ _ _ h => h
    case hyr27_15 => (refine Or.inl ⟨by rfl, ?_⟩; intro w hSw; (try dsimp only at hSw); go_simp; all_goals with_reducible rfl)
    try simp only [Act.put, List.setIfInBounds_toArray, List.set_cons_zero, List.set_cons_succ]
    refine wpAnyH_take (i := 16) (oi := ?oir27_16) (v := ?vr27_16) ?hir27_16 (by kernel_rfl) (by kernel_rfl) (by kernel_rfl) ?hqr27_16 ?hyr27_16 (by assumption) ?restr27_16
    case hir27_16 => simp only [List.getElem?_toArray, List.getElem?_cons_succ, List.getElem?_cons_zero]; rfl
    case hqr27_16 => exact fun _ _ _ h => h
    case hyr27_16 => (refine Or.inl ⟨by rfl, ?_⟩; intro w hSw; (try dsimp only at hSw); go_simp; all_goals with_reducible rfl)
    try simp only [Act.put, List.setIfInBounds_toArray, List.set_cons_zero, List.set_cons_succ]
    refine wpAnyH_ready (rs := [17]) (by kernel_rfl) (by simp) ?_
    refine AllReadyH.cons (o := ?or28_17) ?hor28_17 (fun K hK => ?kr28_17) AllReadyH.nil
    case hor28_17 => simp only [List.getElem?_toArray, List.getElem?_cons_succ, List.getElem?_cons_zero]; rfl
    go_simp
    have c := whole_any w27 1 (by decide) (by decide)
    refine c.mono ?_
    rintro e w28 ⟨a_o, n_o, c_o, b_o, m_o, d_o, rfl, h_on_28, h_od_28, hb⟩
    clear c
    have B28 := B27.trans (hb.mono B27.size)
    have h_xn_28 := h_xn_27.below hb
    have h_xd_28 := h_xd_27.below hb
    have h_yn_28 := h_yn_27.below hb
    have h_yd_28 := h_yd_27.below hb
    have h_x_28 := h_x_27.later hb
    have h_y_28 := h_y_27.later hb
    have h_kn_28 := h_kn_27.below hb
    have h_kd_28 := h_kd_27.below hb
    have h_k_28 := h_k_27.later hb
    have h_en_28 := h_en_27.below hb
    have h_ed_28 := h_ed_27.below hb
    have h_e_28 := h_e_27.later hb
    have h_fn_28 := h_fn_27.below hb
    have h_fd_28 := h_fd_27.below hb
    have h_f_28 := h_f_27.later hb
    clear hb B27 h_xn_27 h_xd_27 h_yn_27 h_yd_27 h_x_27 h_y_27 h_kn_27 h_kd_27 h_k_27 h_en_27 h_ed_27 h_e_27 h_fn_27 h_fd_27 h_f_27
    go_wp2_with fail
    clear hHeld
    refine hK.out _ _ ?_ (fun hHeld => ?_)
    · exact ⟨h_e_28.cell 0 _ rfl, h_e_28.cell 1 _ rfl, h_e_28.cell 2 _ rfl, h_x_28.cell 0 _ rfl, h_x_28.cell 1 _ rfl, h_x_28.cell 2 _ rfl, h_f_28.cell 0 _ rfl, h_f_28.cell 1 _ rfl, h_f_28.cell 2 _ rfl, trivial⟩
    clear hK K
    try simp only [Act.put, List.setIfInBounds_toArray, List.set_cons_zero, List.set_cons_succ]
    refine wpAnyH_ready (rs := [18]) (by kernel_rfl) (by simp) ?_
    refine AllReadyH.cons (o := ?or29_18) ?hor29_18 (fun K hK => ?kr29_18) AllReadyH.nil
    case hor29_18 => simp only [List.getElem?_toArray, List.getElem?_cons_succ, List.getElem?_cons_zero]; rfl
    go_simp
    have c := refRatSame_any w28 (g1 := ((ofC 1 1).1).neg) (g2 := ((ofC 1 1).1).neg) h_fn_28 h_fd_28 h_on_28 h_od_28
    rw [show (⟨((ofC 1 1).1).neg, ((ofC 1 1).1).num, ((ofC 1 1).1).den⟩ : QV) = (ofC 1 1).1 from rfl] at c
    rw [sameV_self] at c
    refine c.mono ?_
    rintro e w29 ⟨rfl, hb⟩
    clear c
    have B29 := B28.trans (hb.mono B28.size)
    have h_xn_29 := h_xn_28.below hb
    have h_xd_29 := h_xd_28.below hb
    have h_yn_29 := h_yn_28.below hb
    have h_yd_29 := h_yd_28.below hb
    have h_x_29 := h_x_28.later hb
    have h_y_29 := h_y_28.later hb
    have h_kn_29 := h_kn_28.below hb
    have h_kd_29 := h_kd_28.below hb
    have h_k_29 := h_k_28.later hb
    have h_en_29 := h_en_28.below hb
    have h_ed_29 := h_ed_28.below hb
    have h_e_29 := h_e_28.later hb
    have h_fn_29 := h_fn_28.below hb
    have h_fd_29 := h_fd_28.below hb
    have h_f_29 := h_f_28.later hb
    clear hb B28 h_xn_28 h_xd_28 h_yn_28 h_yd_28 h_x_28 h_y_28 h_kn_28 h_kd_28 h_k_28 h_en_28 h_ed_28 h_e_28 h_fn_28 h_fd_28 h_f_28 h_on_28 h_od_28
    go_wp2_with fail
    clear hHeld
    refine hK.out _ _ ?_ (fun hHeld => ?_)
    · exact ⟨h_e_29.cell 0 _ rfl, h_e_29.cell 1 _ rfl, h_e_29.cell 2 _ rfl, h_x_29.cell 0 _ rfl, h_x_29.cell 1 _ rfl, h_x_29.cell 2 _ rfl, h_f_29.cell 0 _ rfl, h_f_29.cell 1 _ rfl, h_f_29.cell 2 _ rfl, trivial⟩
    clear hK K
    try simp only [Act.put, List.setIfInBounds_toArray, List.set_cons_zero, List.set_cons_succ]
    refine wpAnyH_take (i := 19) (oi := ?oir30_19) (v := ?vr30_19) ?hir30_19 (by kernel_rfl) (by kernel_rfl) (by kernel_rfl) ?hqr30_19 ?hyr30_19 (by assumption) ?restr30_19
    case hir30_19 => simp only [List.getElem?_toArray, List.getElem?_cons_succ, List.getElem?_cons_zero]; rfl
    case hqr30_19 => exact fun _ _ _ h => h
    case hyr30_19 => (refine Or.inl ⟨by rfl, ?_⟩; intro w hSw; (try dsimp only at hSw); go_simp; all_goals with_reducible rfl)
    try simp only [Act.put, List.setIfInBounds_toArray, List.set_cons_zero, List.set_cons_succ]
    refine wpAnyH_take (i := 20) (oi := ?oir30_20) (v := ?vr30_20) ?hir30_20 (by kernel_rfl) (by kernel_rfl) (by kernel_rfl) ?hqr30_20 ?hyr30_20 (by assumption) ?restr30_20
    case hir30_20 => simp only [List.getElem?_toArray, List.getElem?_cons_succ, List.getElem?_cons_zero]; rfl
    case hqr30_20 => exact fun _ _ _ h => h
    case hyr30_20 => (refine Or.inl ⟨by rfl, ?_⟩; intro w hSw; (try dsimp only at hSw); go_simp; all_goals with_reducible rfl)
    try simp only [Act.put, List.setIfInBounds_toArray, List.set_cons_zero, List.set_cons_succ]
    refine wpAnyH_ready (rs := [21]) (by kernel_rfl) (by simp) ?_
    refine AllReadyH.cons (o := ?or31_21) ?hor31_21 (fun K hK => ?kr31_21) AllReadyH.nil
    case hor31_21 => simp only [List.getElem?_toArray, List.getElem?_cons_succ, List.getElem?_cons_zero]; rfl
    go_simp
    have c := wakes_any w29
    refine c.mono ?_
    rintro e w30 ⟨rfl, hb⟩
    clear c
    have B30 := B29.trans (hb.mono B29.size)
    have h_xn_30 := h_xn_29.below hb
    have h_xd_30 := h_xd_29.below hb
    have h_yn_30 := h_yn_29.below hb
    have h_yd_30 := h_yd_29.below hb
    have h_x_30 := h_x_29.later hb
    have h_y_30 := h_y_29.later hb
    have h_kn_30 := h_kn_29.below hb
    have h_kd_30 := h_kd_29.below hb
    have h_k_30 := h_k_29.later hb
    have h_en_30 := h_en_29.below hb
    have h_ed_30 := h_ed_29.below hb
    have h_e_30 := h_e_29.later hb
    have h_fn_30 := h_fn_29.below hb
    have h_fd_30 := h_fd_29.below hb
    have h_f_30 := h_f_29.later hb
    clear hb B29 h_xn_29 h_xd_29 h_yn_29 h_yd_29 h_x_29 h_y_29 h_kn_29 h_kd_29 h_k_29 h_en_29 h_ed_29 h_e_29 h_fn_29 h_fd_29 h_f_29
    go_wp2_with fail
    clear hHeld
    refine hK.out _ _ ?_ (fun hHeld => ?_)
    · exact ⟨h_e_30.cell 0 _ rfl, h_e_30.cell 1 _ rfl, h_e_30.cell 2 _ rfl, h_x_30.cell 0 _ rfl, h_x_30.cell 1 _ rfl, h_x_30.cell 2 _ rfl, h_f_30.cell 0 _ rfl, h_f_30.cell 1 _ rfl, h_f_30.cell 2 _ rfl, trivial⟩
    clear hK K
    try simp only [Act.put, List.setIfInBounds_toArray, List.set_cons_zero, List.set_cons_succ]
    refine wpAnyH_take (i := 22) (oi := ?oir32_22) (v := ?vr32_22) ?hir32_22 (by kernel_rfl) (by kernel_rfl) (by kernel_rfl) ?hqr32_22 ?hyr32_22 (by assumption) ?restr32_22
    case hir32_22 => simp only [List.getElem?_toArray, List.getElem?_cons_succ, List.getElem?_cons_zero]; rfl
    case hqr32_22 => exact fun _ _ _ h => h
    case hyr32_22 => (refine Or.inl ⟨by rfl, ?_⟩; intro w hSw; (try dsimp only at hSw); go_simp; all_goals with_reducible rfl)
    try simp only [Act.put, List.setIfInBounds_toArray, List.set_cons_zero, List.set_cons_succ]
    refine wpAnyH_take (i := 23) (oi := ?oir32_23) (v := ?vr32_23) ?hir32_23 (by kernel_rfl) (by kernel_rfl) (by kernel_rfl) ?hqr32_23 ?hyr32_23 (by assumption) ?restr32_23
    case hir32_23 => simp only [List.getElem?_toArray, List.getElem?_cons_succ, List.getElem?_cons_zero]; rfl
    case hqr32_23 => exact fun _ _ _ h => h
    case hyr32_23 => (refine Or.inl ⟨by rfl, ?_⟩; intro w hSw; (try dsimp only at hSw); go_simp; all_goals with_reducible rfl)
    try simp only [Act.put, List.setIfInBounds_toArray, List.set_cons_zero, List.set_cons_succ]
    refine wpAnyH_done (by kernel_rfl) ?_ _
    clear hHeld
    go_wp2_with fail
    go_ret
    exact ⟨rfl, B30⟩

end Go.Proofs.YtdaajeklnhbhjaaGreatDoor
