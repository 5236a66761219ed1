/- The walk of the law RatioDoes: it returns true and turns nothing that was there. No condition. Printed by gen_ratlaws.py. -/
import Derived.Test.YtdaajeklnhbhjaaGreatDoorRatW
import Derived.Test.YtdaajeklnhbhjaaGreatDoorRatV
import Derived.Test.YtdaajeklnhbhjaaGreatDoorRatY
import Derived.BigQuiet
import Derived.Deep.CutRange
namespace Go.Proofs.YtdaajeklnhbhjaaGreatDoor
open Go.RowKit Go.Suf
set_option linter.unusedVariables false
set_option linter.unusedSimpArgs false

set_option maxRecDepth 100000 in
set_option maxHeartbeats 8000000 in
theorem ratioDoes_walk (w : World) {g_x : Bool} {a_x b_x : Option Addr} {n_x c_x m_x d_x : Nat} {xn xd : List Nat} (h_xn : Rd .u32 w a_x n_x c_x xn) (h_xd : Rd .u32 w b_x m_x d_x xd) {g_y : Bool} {a_y b_y : Option Addr} {n_y c_y m_y d_y : Nat} {yn yd : List Nat} (h_yn : Rd .u32 w a_y n_y c_y yn) (h_yd : Rd .u32 w b_y m_y d_y yd) :
    Calls Tryz.prog 4 #[ratV g_x a_x n_x c_x b_x m_x d_x, ratV g_y a_y n_y c_y b_y m_y d_y] w fun e w' => e = .returned (.bool true) ∧ Below w.heap.size w w' := by
  obtain ⟨x, rfl, rfl, rfl⟩ : ∃ x : QV, g_x = x.neg ∧ xn = x.num ∧ xd = x.den := ⟨⟨g_x, xn, xd⟩, rfl, rfl, rfl⟩
  obtain ⟨y, rfl, rfl, rfl⟩ : ∃ y : QV, g_y = y.neg ∧ yn = y.num ∧ yd = y.den := ⟨⟨g_y, yn, yd⟩, rfl, rfl, rfl⟩
  have B0 : Below w.heap.size w w := Below.refl _ _
  have h_xn_0 := h_xn
  have h_xd_0 := h_xd
  have h_yn_0 := h_yn
  have h_yd_0 := h_yd
  cases L_x : longV x
  case true =>
    have LT_x := Lib.hid L_x
    clear L_x
    go_enter Tryz.func4, Tryz.ntmps4
    have hb := below_al w (.cells #[.bool (x).neg, .slice a_x n_x c_x, .slice b_x m_x d_x] 24)
    have B1 := B0.trans (hb.mono B0.size)
    have h_xn_1 := h_xn_0.below hb
    have h_xd_1 := h_xd_0.below hb
    have h_yn_1 := h_yn_0.below hb
    have h_yd_1 := h_yd_0.below hb
    clear hb B0 h_xn_0 h_xd_0 h_yn_0 h_yd_0
    have h_x_1 := Has.new w #[.bool (x).neg, .slice a_x n_x c_x, .slice b_x m_x d_x] 24
    have hb := below_al (w.alloc (.cells #[.bool (x).neg, .slice a_x n_x c_x, .slice b_x m_x d_x] 24)) (.cells #[.bool (y).neg, .slice a_y n_y c_y, .slice b_y m_y d_y] 24)
    have B2 := B1.trans (hb.mono B1.size)
    have h_xn_2 := h_xn_1.below hb
    have h_xd_2 := h_xd_1.below hb
    have h_yn_2 := h_yn_1.below hb
    have h_yd_2 := h_yd_1.below hb
    have h_x_2 := h_x_1.later hb
    clear hb B1 h_xn_1 h_xd_1 h_yn_1 h_yd_1 h_x_1
    have h_y_2 := Has.new (w.alloc (.cells #[.bool (x).neg, .slice a_x n_x c_x, .slice b_x m_x d_x] 24)) #[.bool (y).neg, .slice a_y n_y c_y, .slice b_y m_y d_y] 24
    simp only [World.size_alloc] at h_y_2
    have k_x_0 := h_x_2.cell 0 _ rfl
    have k_x_1 := h_x_2.cell 1 _ rfl
    have k_x_2 := h_x_2.cell 2 _ rfl
    go_wp2_with fail
    clear k_x_0 k_x_1 k_x_2
    generalize ((w.alloc (.cells #[.bool (x).neg, .slice a_x n_x c_x, .slice b_x m_x d_x] 24)).alloc (.cells #[.bool (y).neg, .slice a_y n_y c_y, .slice b_y m_y d_y] 24)) = w2 at *
    have c := qlong_any w2 (neg := (x).neg) h_xn_2 h_xd_2
    rw [show (⟨(x).neg, (x).num, (x).den⟩ : QV) = x from rfl] at c
    rw [LT_x.out] at c
    refine c.mono ?_
    rintro e w3 ⟨rfl, hb⟩
    clear c
    have B3 := B2.trans (hb.mono B2.size)
    have h_xn_3 := h_xn_2.below hb
    have h_xd_3 := h_xd_2.below hb
    have h_yn_3 := h_yn_2.below hb
    have h_yd_3 := h_yd_2.below hb
    have h_x_3 := h_x_2.later hb
    have h_y_3 := h_y_2.later hb
    clear hb B2 h_xn_2 h_xd_2 h_yn_2 h_yd_2 h_x_2 h_y_2
    go_wp2_with fail
    have c := wakes_any w3
    refine c.mono ?_
    rintro e w4 ⟨rfl, hb⟩
    clear c
    have B4 := B3.trans (hb.mono B3.size)
    have h_xn_4 := h_xn_3.below hb
    have h_xd_4 := h_xd_3.below hb
    have h_yn_4 := h_yn_3.below hb
    have h_yd_4 := h_yd_3.below hb
    have h_x_4 := h_x_3.later hb
    have h_y_4 := h_y_3.later hb
    clear hb B3 h_xn_3 h_xd_3 h_yn_3 h_yd_3 h_x_3 h_y_3
    go_wp2_with fail
    go_ret
    exact ⟨rfl, B4⟩
  case false =>
    have LT_x := Lib.hid L_x
    clear L_x
    cases L_y : longV y
    case true =>
      have LT_y := Lib.hid L_y
      clear L_y
      go_enter Tryz.func4, Tryz.ntmps4
      have hb := below_al w (.cells #[.bool (x).neg, .slice a_x n_x c_x, .slice b_x m_x d_x] 24)
      have B1 := B0.trans (hb.mono B0.size)
      have h_xn_1 := h_xn_0.below hb
      have h_xd_1 := h_xd_0.below hb
      have h_yn_1 := h_yn_0.below hb
      have h_yd_1 := h_yd_0.below hb
      clear hb B0 h_xn_0 h_xd_0 h_yn_0 h_yd_0
      have h_x_1 := Has.new w #[.bool (x).neg, .slice a_x n_x c_x, .slice b_x m_x d_x] 24
      have hb := below_al (w.alloc (.cells #[.bool (x).neg, .slice a_x n_x c_x, .slice b_x m_x d_x] 24)) (.cells #[.bool (y).neg, .slice a_y n_y c_y, .slice b_y m_y d_y] 24)
      have B2 := B1.trans (hb.mono B1.size)
      have h_xn_2 := h_xn_1.below hb
      have h_xd_2 := h_xd_1.below hb
      have h_yn_2 := h_yn_1.below hb
      have h_yd_2 := h_yd_1.below hb
      have h_x_2 := h_x_1.later hb
      clear hb B1 h_xn_1 h_xd_1 h_yn_1 h_yd_1 h_x_1
      have h_y_2 := Has.new (w.alloc (.cells #[.bool (x).neg, .slice a_x n_x c_x, .slice b_x m_x d_x] 24)) #[.bool (y).neg, .slice a_y n_y c_y, .slice b_y m_y d_y] 24
      simp only [World.size_alloc] at h_y_2
      have k_x_0 := h_x_2.cell 0 _ rfl
      have k_x_1 := h_x_2.cell 1 _ rfl
      have k_x_2 := h_x_2.cell 2 _ rfl
      go_wp2_with fail
      clear k_x_0 k_x_1 k_x_2
      generalize ((w.alloc (.cells #[.bool (x).neg, .slice a_x n_x c_x, .slice b_x m_x d_x] 24)).alloc (.cells #[.bool (y).neg, .slice a_y n_y c_y, .slice b_y m_y d_y] 24)) = w2 at *
      have c := qlong_any w2 (neg := (x).neg) h_xn_2 h_xd_2
      rw [show (⟨(x).neg, (x).num, (x).den⟩ : QV) = x from rfl] at c
      rw [LT_x.out] at c
      refine c.mono ?_
      rintro e w3 ⟨rfl, hb⟩
      clear c
      have B3 := B2.trans (hb.mono B2.size)
      have h_xn_3 := h_xn_2.below hb
      have h_xd_3 := h_xd_2.below hb
      have h_yn_3 := h_yn_2.below hb
      have h_yd_3 := h_yd_2.below hb
      have h_x_3 := h_x_2.later hb
      have h_y_3 := h_y_2.later hb
      clear hb B2 h_xn_2 h_xd_2 h_yn_2 h_yd_2 h_x_2 h_y_2
      have k_y_0 := h_y_3.cell 0 _ rfl
      have k_y_1 := h_y_3.cell 1 _ rfl
      have k_y_2 := h_y_3.cell 2 _ rfl
      go_wp2_with fail
      clear k_y_0 k_y_1 k_y_2
      have c := qlong_any w3 (neg := (y).neg) h_yn_3 h_yd_3
      rw [show (⟨(y).neg, (y).num, (y).den⟩ : QV) = y from rfl] at c
      rw [LT_y.out] at c
      refine c.mono ?_
      rintro e w4 ⟨rfl, hb⟩
      clear c
      have B4 := B3.trans (hb.mono B3.size)
      have h_xn_4 := h_xn_3.below hb
      have h_xd_4 := h_xd_3.below hb
      have h_yn_4 := h_yn_3.below hb
      have h_yd_4 := h_yd_3.below hb
      have h_x_4 := h_x_3.later hb
      have h_y_4 := h_y_3.later hb
      clear hb B3 h_xn_3 h_xd_3 h_yn_3 h_yd_3 h_x_3 h_y_3
      go_wp2_with fail
      have c := wakes_any w4
      refine c.mono ?_
      rintro e w5 ⟨rfl, hb⟩
      clear c
      have B5 := B4.trans (hb.mono B4.size)
      have h_xn_5 := h_xn_4.below hb
      have h_xd_5 := h_xd_4.below hb
      have h_yn_5 := h_yn_4.below hb
      have h_yd_5 := h_yd_4.below hb
      have h_x_5 := h_x_4.later hb
      have h_y_5 := h_y_4.later hb
      clear hb B4 h_xn_4 h_xd_4 h_yn_4 h_yd_4 h_x_4 h_y_4
      go_wp2_with fail
      go_ret
      exact ⟨rfl, B5⟩
    case false =>
      have LT_y := Lib.hid L_y
      clear L_y
      go_enter Tryz.func4, Tryz.ntmps4
      have hb := below_al w (.cells #[.bool (x).neg, .slice a_x n_x c_x, .slice b_x m_x d_x] 24)
      have B1 := B0.trans (hb.mono B0.size)
      have h_xn_1 := h_xn_0.below hb
      have h_xd_1 := h_xd_0.below hb
      have h_yn_1 := h_yn_0.below hb
      have h_yd_1 := h_yd_0.below hb
      clear hb B0 h_xn_0 h_xd_0 h_yn_0 h_yd_0
      have h_x_1 := Has.new w #[.bool (x).neg, .slice a_x n_x c_x, .slice b_x m_x d_x] 24
      have hb := below_al (w.alloc (.cells #[.bool (x).neg, .slice a_x n_x c_x, .slice b_x m_x d_x] 24)) (.cells #[.bool (y).neg, .slice a_y n_y c_y, .slice b_y m_y d_y] 24)
      have B2 := B1.trans (hb.mono B1.size)
      have h_xn_2 := h_xn_1.below hb
      have h_xd_2 := h_xd_1.below hb
      have h_yn_2 := h_yn_1.below hb
      have h_yd_2 := h_yd_1.below hb
      have h_x_2 := h_x_1.later hb
      clear hb B1 h_xn_1 h_xd_1 h_yn_1 h_yd_1 h_x_1
      have h_y_2 := Has.new (w.alloc (.cells #[.bool (x).neg, .slice a_x n_x c_x, .slice b_x m_x d_x] 24)) #[.bool (y).neg, .slice a_y n_y c_y, .slice b_y m_y d_y] 24
      simp only [World.size_alloc] at h_y_2
      have k_x_0 := h_x_2.cell 0 _ rfl
      have k_x_1 := h_x_2.cell 1 _ rfl
      have k_x_2 := h_x_2.cell 2 _ rfl
      go_wp2_with fail
      clear k_x_0 k_x_1 k_x_2
      generalize ((w.alloc (.cells #[.bool (x).neg, .slice a_x n_x c_x, .slice b_x m_x d_x] 24)).alloc (.cells #[.bool (y).neg, .slice a_y n_y c_y, .slice b_y m_y d_y] 24)) = w2 at *
      have c := qlong_any w2 (neg := (x).neg) h_xn_2 h_xd_2
      rw [show (⟨(x).neg, (x).num, (x).den⟩ : QV) = x from rfl] at c
      rw [LT_x.out] at c
      refine c.mono ?_
      rintro e w3 ⟨rfl, hb⟩
      clear c
      have B3 := B2.trans (hb.mono B2.size)
      have h_xn_3 := h_xn_2.below hb
      have h_xd_3 := h_xd_2.below hb
      have h_yn_3 := h_yn_2.below hb
      have h_yd_3 := h_yd_2.below hb
      have h_x_3 := h_x_2.later hb
      have h_y_3 := h_y_2.later hb
      clear hb B2 h_xn_2 h_xd_2 h_yn_2 h_yd_2 h_x_2 h_y_2
      have k_y_0 := h_y_3.cell 0 _ rfl
      have k_y_1 := h_y_3.cell 1 _ rfl
      have k_y_2 := h_y_3.cell 2 _ rfl
      go_wp2_with fail
      clear k_y_0 k_y_1 k_y_2
      have c := qlong_any w3 (neg := (y).neg) h_yn_3 h_yd_3
      rw [show (⟨(y).neg, (y).num, (y).den⟩ : QV) = y from rfl] at c
      rw [LT_y.out] at c
      refine c.mono ?_
      rintro e w4 ⟨rfl, hb⟩
      clear c
      have B4 := B3.trans (hb.mono B3.size)
      have h_xn_4 := h_xn_3.below hb
      have h_xd_4 := h_xd_3.below hb
      have h_yn_4 := h_yn_3.below hb
      have h_yd_4 := h_yd_3.below hb
      have h_x_4 := h_x_3.later hb
      have h_y_4 := h_y_3.later hb
      clear hb B3 h_xn_3 h_xd_3 h_yn_3 h_yd_3 h_x_3 h_y_3
      have k_x_0 := h_x_4.cell 0 _ rfl
      have k_x_1 := h_x_4.cell 1 _ rfl
      have k_x_2 := h_x_4.cell 2 _ rfl
      have k_y_0 := h_y_4.cell 0 _ rfl
      have k_y_1 := h_y_4.cell 1 _ rfl
      have k_y_2 := h_y_4.cell 2 _ rfl
      go_wp2_with fail
      clear k_x_0 k_x_1 k_x_2 k_y_0 k_y_1 k_y_2
      have c := ratAdd_any w4 (g1 := (x).neg) (g2 := (y).neg) h_xn_4 h_xd_4 h_yn_4 h_yd_4
      rw [show (⟨(x).neg, (x).num, (x).den⟩ : QV) = x from rfl] at c
      rw [show (⟨(y).neg, (y).num, (y).den⟩ : QV) = y from rfl] at c
      refine c.mono ?_
      rintro e w5 ⟨a_e, n_e, c_e, b_e, m_e, d_e, rfl, h_en_5, h_ed_5, hb⟩
      clear c
      have B5 := B4.trans (hb.mono B4.size)
      have h_xn_5 := h_xn_4.below hb
      have h_xd_5 := h_xd_4.below hb
      have h_yn_5 := h_yn_4.below hb
      have h_yd_5 := h_yd_4.below hb
      have h_x_5 := h_x_4.later hb
      have h_y_5 := h_y_4.later hb
      clear hb B4 h_xn_4 h_xd_4 h_yn_4 h_yd_4 h_x_4 h_y_4
      have hb := below_al w5 (.cells #[.bool ((addV x y).1).neg, .slice a_e n_e c_e, .slice b_e m_e d_e] 24)
      have B6 := B5.trans (hb.mono B5.size)
      have h_xn_6 := h_xn_5.below hb
      have h_xd_6 := h_xd_5.below hb
      have h_yn_6 := h_yn_5.below hb
      have h_yd_6 := h_yd_5.below hb
      have h_x_6 := h_x_5.later hb
      have h_y_6 := h_y_5.later hb
      have h_en_6 := h_en_5.below hb
      have h_ed_6 := h_ed_5.below hb
      clear hb B5 h_xn_5 h_xd_5 h_yn_5 h_yd_5 h_x_5 h_y_5 h_en_5 h_ed_5
      have h_e_6 := Has.new w5 #[.bool ((addV x y).1).neg, .slice a_e n_e c_e, .slice b_e m_e d_e] 24
      have k_x_0 := h_x_6.cell 0 _ rfl
      have k_x_1 := h_x_6.cell 1 _ rfl
      have k_x_2 := h_x_6.cell 2 _ rfl
      have k_y_0 := h_y_6.cell 0 _ rfl
      have k_y_1 := h_y_6.cell 1 _ rfl
      have k_y_2 := h_y_6.cell 2 _ rfl
      go_wp2_with first | refine wpList_store_new rfl 24 _ _ rfl atRat _ _ _ rfl rfl rfl rfl (rat_one _ _ _ _ _ _ _) ?_
      clear k_x_0 k_x_1 k_x_2 k_y_0 k_y_1 k_y_2
      generalize (w5.alloc (.cells #[.bool ((addV x y).1).neg, .slice a_e n_e c_e, .slice b_e m_e d_e] 24)) = w6 at *
      have c := refRatAdd_any w6 (g1 := (x).neg) (g2 := (y).neg) h_xn_6 h_xd_6 h_yn_6 h_yd_6
      rw [show (⟨(x).neg, (x).num, (x).den⟩ : QV) = x from rfl] at c
      rw [show (⟨(y).neg, (y).num, (y).den⟩ : QV) = y from rfl] at c
      refine c.mono ?_
      rintro e w7 ⟨a_f, n_f, c_f, b_f, m_f, d_f, rfl, h_fn_7, h_fd_7, hb⟩
      clear c
      have B7 := B6.trans (hb.mono B6.size)
      have h_xn_7 := h_xn_6.below hb
      have h_xd_7 := h_xd_6.below hb
      have h_yn_7 := h_yn_6.below hb
      have h_yd_7 := h_yd_6.below hb
      have h_x_7 := h_x_6.later hb
      have h_y_7 := h_y_6.later hb
      have h_en_7 := h_en_6.below hb
      have h_ed_7 := h_ed_6.below hb
      have h_e_7 := h_e_6.later hb
      clear hb B6 h_xn_6 h_xd_6 h_yn_6 h_yd_6 h_x_6 h_y_6 h_en_6 h_ed_6 h_e_6
      have hb := below_al w7 (.cells #[.bool ((addV x y).1).neg, .slice a_f n_f c_f, .slice b_f m_f d_f] 24)
      have B8 := B7.trans (hb.mono B7.size)
      have h_xn_8 := h_xn_7.below hb
      have h_xd_8 := h_xd_7.below hb
      have h_yn_8 := h_yn_7.below hb
      have h_yd_8 := h_yd_7.below hb
      have h_x_8 := h_x_7.later hb
      have h_y_8 := h_y_7.later hb
      have h_en_8 := h_en_7.below hb
      have h_ed_8 := h_ed_7.below hb
      have h_e_8 := h_e_7.later hb
      have h_fn_8 := h_fn_7.below hb
      have h_fd_8 := h_fd_7.below hb
      clear hb B7 h_xn_7 h_xd_7 h_yn_7 h_yd_7 h_x_7 h_y_7 h_en_7 h_ed_7 h_e_7 h_fn_7 h_fd_7
      have h_f_8 := Has.new w7 #[.bool ((addV x y).1).neg, .slice a_f n_f c_f, .slice b_f m_f d_f] 24
      have k_x_0 := h_x_8.cell 0 _ rfl
      have k_x_1 := h_x_8.cell 1 _ rfl
      have k_x_2 := h_x_8.cell 2 _ rfl
      have k_y_0 := h_y_8.cell 0 _ rfl
      have k_y_1 := h_y_8.cell 1 _ rfl
      have k_y_2 := h_y_8.cell 2 _ rfl
      go_wp2_with first | refine wpList_store_new rfl 24 _ _ rfl atRat _ _ _ rfl rfl rfl rfl (rat_one _ _ _ _ _ _ _) ?_
      clear k_x_0 k_x_1 k_x_2 k_y_0 k_y_1 k_y_2
      generalize (w7.alloc (.cells #[.bool ((addV x y).1).neg, .slice a_f n_f c_f, .slice b_f m_f d_f] 24)) = w8 at *
      have c := ratSub_any w8 (g1 := (x).neg) (g2 := (y).neg) h_xn_8 h_xd_8 h_yn_8 h_yd_8
      rw [show (⟨(x).neg, (x).num, (x).den⟩ : QV) = x from rfl] at c
      rw [show (⟨(y).neg, (y).num, (y).den⟩ : QV) = y from rfl] at c
      refine c.mono ?_
      rintro e w9 ⟨a_h, n_h, c_h, b_h, m_h, d_h, rfl, h_hn_9, h_hd_9, hb⟩
      clear c
      have B9 := B8.trans (hb.mono B8.size)
      have h_xn_9 := h_xn_8.below hb
      have h_xd_9 := h_xd_8.below hb
      have h_yn_9 := h_yn_8.below hb
      have h_yd_9 := h_yd_8.below hb
      have h_x_9 := h_x_8.later hb
      have h_y_9 := h_y_8.later hb
      have h_en_9 := h_en_8.below hb
      have h_ed_9 := h_ed_8.below hb
      have h_e_9 := h_e_8.later hb
      have h_fn_9 := h_fn_8.below hb
      have h_fd_9 := h_fd_8.below hb
      have h_f_9 := h_f_8.later hb
      clear hb B8 h_xn_8 h_xd_8 h_yn_8 h_yd_8 h_x_8 h_y_8 h_en_8 h_ed_8 h_e_8 h_fn_8 h_fd_8 h_f_8
      have hb := below_al w9 (.cells #[.bool ((subV x y).1).neg, .slice a_h n_h c_h, .slice b_h m_h d_h] 24)
      have B10 := B9.trans (hb.mono B9.size)
      have h_xn_10 := h_xn_9.below hb
      have h_xd_10 := h_xd_9.below hb
      have h_yn_10 := h_yn_9.below hb
      have h_yd_10 := h_yd_9.below hb
      have h_x_10 := h_x_9.later hb
      have h_y_10 := h_y_9.later hb
      have h_en_10 := h_en_9.below hb
      have h_ed_10 := h_ed_9.below hb
      have h_e_10 := h_e_9.later hb
      have h_fn_10 := h_fn_9.below hb
      have h_fd_10 := h_fd_9.below hb
      have h_f_10 := h_f_9.later hb
      have h_hn_10 := h_hn_9.below hb
      have h_hd_10 := h_hd_9.below hb
      clear hb B9 h_xn_9 h_xd_9 h_yn_9 h_yd_9 h_x_9 h_y_9 h_en_9 h_ed_9 h_e_9 h_fn_9 h_fd_9 h_f_9 h_hn_9 h_hd_9
      have h_h_10 := Has.new w9 #[.bool ((subV x y).1).neg, .slice a_h n_h c_h, .slice b_h m_h d_h] 24
      have k_x_0 := h_x_10.cell 0 _ rfl
      have k_x_1 := h_x_10.cell 1 _ rfl
      have k_x_2 := h_x_10.cell 2 _ rfl
      have k_y_0 := h_y_10.cell 0 _ rfl
      have k_y_1 := h_y_10.cell 1 _ rfl
      have k_y_2 := h_y_10.cell 2 _ rfl
      go_wp2_with first | refine wpList_store_new rfl 24 _ _ rfl atRat _ _ _ rfl rfl rfl rfl (rat_one _ _ _ _ _ _ _) ?_
      clear k_x_0 k_x_1 k_x_2 k_y_0 k_y_1 k_y_2
      generalize (w9.alloc (.cells #[.bool ((subV x y).1).neg, .slice a_h n_h c_h, .slice b_h m_h d_h] 24)) = w10 at *
      have c := refRatSub_any w10 (g1 := (x).neg) (g2 := (y).neg) h_xn_10 h_xd_10 h_yn_10 h_yd_10
      rw [show (⟨(x).neg, (x).num, (x).den⟩ : QV) = x from rfl] at c
      rw [show (⟨(y).neg, (y).num, (y).den⟩ : QV) = y from rfl] at c
      refine c.mono ?_
      rintro e w11 ⟨a_i, n_i, c_i, b_i, m_i, d_i, rfl, h_in_11, h_id_11, hb⟩
      clear c
      have B11 := B10.trans (hb.mono B10.size)
      have h_xn_11 := h_xn_10.below hb
      have h_xd_11 := h_xd_10.below hb
      have h_yn_11 := h_yn_10.below hb
      have h_yd_11 := h_yd_10.below hb
      have h_x_11 := h_x_10.later hb
      have h_y_11 := h_y_10.later hb
      have h_en_11 := h_en_10.below hb
      have h_ed_11 := h_ed_10.below hb
      have h_e_11 := h_e_10.later hb
      have h_fn_11 := h_fn_10.below hb
      have h_fd_11 := h_fd_10.below hb
      have h_f_11 := h_f_10.later hb
      have h_hn_11 := h_hn_10.below hb
      have h_hd_11 := h_hd_10.below hb
      have h_h_11 := h_h_10.later hb
      clear hb B10 h_xn_10 h_xd_10 h_yn_10 h_yd_10 h_x_10 h_y_10 h_en_10 h_ed_10 h_e_10 h_fn_10 h_fd_10 h_f_10 h_hn_10 h_hd_10 h_h_10
      have hb := below_al w11 (.cells #[.bool ((subV x y).1).neg, .slice a_i n_i c_i, .slice b_i m_i d_i] 24)
      have B12 := B11.trans (hb.mono B11.size)
      have h_xn_12 := h_xn_11.below hb
      have h_xd_12 := h_xd_11.below hb
      have h_yn_12 := h_yn_11.below hb
      have h_yd_12 := h_yd_11.below hb
      have h_x_12 := h_x_11.later hb
      have h_y_12 := h_y_11.later hb
      have h_en_12 := h_en_11.below hb
      have h_ed_12 := h_ed_11.below hb
      have h_e_12 := h_e_11.later hb
      have h_fn_12 := h_fn_11.below hb
      have h_fd_12 := h_fd_11.below hb
      have h_f_12 := h_f_11.later hb
      have h_hn_12 := h_hn_11.below hb
      have h_hd_12 := h_hd_11.below hb
      have h_h_12 := h_h_11.later hb
      have h_in_12 := h_in_11.below hb
      have h_id_12 := h_id_11.below hb
      clear hb B11 h_xn_11 h_xd_11 h_yn_11 h_yd_11 h_x_11 h_y_11 h_en_11 h_ed_11 h_e_11 h_fn_11 h_fd_11 h_f_11 h_hn_11 h_hd_11 h_h_11 h_in_11 h_id_11
      have h_i_12 := Has.new w11 #[.bool ((subV x y).1).neg, .slice a_i n_i c_i, .slice b_i m_i d_i] 24
      have k_x_0 := h_x_12.cell 0 _ rfl
      have k_x_1 := h_x_12.cell 1 _ rfl
      have k_x_2 := h_x_12.cell 2 _ rfl
      have k_y_0 := h_y_12.cell 0 _ rfl
      have k_y_1 := h_y_12.cell 1 _ rfl
      have k_y_2 := h_y_12.cell 2 _ rfl
      go_wp2_with first | refine wpList_store_new rfl 24 _ _ rfl atRat _ _ _ rfl rfl rfl rfl (rat_one _ _ _ _ _ _ _) ?_
      clear k_x_0 k_x_1 k_x_2 k_y_0 k_y_1 k_y_2
      generalize (w11.alloc (.cells #[.bool ((subV x y).1).neg, .slice a_i n_i c_i, .slice b_i m_i d_i] 24)) = w12 at *
      have c := ratMul_any w12 (g1 := (x).neg) (g2 := (y).neg) h_xn_12 h_xd_12 h_yn_12 h_yd_12
      rw [show (⟨(x).neg, (x).num, (x).den⟩ : QV) = x from rfl] at c
      rw [show (⟨(y).neg, (y).num, (y).den⟩ : QV) = y from rfl] at c
      refine c.mono ?_
      rintro e w13 ⟨a_j, n_j, c_j, b_j, m_j, d_j, rfl, h_jn_13, h_jd_13, hb⟩
      clear c
      have B13 := B12.trans (hb.mono B12.size)
      have h_xn_13 := h_xn_12.below hb
      have h_xd_13 := h_xd_12.below hb
      have h_yn_13 := h_yn_12.below hb
      have h_yd_13 := h_yd_12.below hb
      have h_x_13 := h_x_12.later hb
      have h_y_13 := h_y_12.later hb
      have h_en_13 := h_en_12.below hb
      have h_ed_13 := h_ed_12.below hb
      have h_e_13 := h_e_12.later hb
      have h_fn_13 := h_fn_12.below hb
      have h_fd_13 := h_fd_12.below hb
      have h_f_13 := h_f_12.later hb
      have h_hn_13 := h_hn_12.below hb
      have h_hd_13 := h_hd_12.below hb
      have h_h_13 := h_h_12.later hb
      have h_in_13 := h_in_12.below hb
      have h_id_13 := h_id_12.below hb
      have h_i_13 := h_i_12.later hb
      clear hb B12 h_xn_12 h_xd_12 h_yn_12 h_yd_12 h_x_12 h_y_12 h_en_12 h_ed_12 h_e_12 h_fn_12 h_fd_12 h_f_12 h_hn_12 h_hd_12 h_h_12 h_in_12 h_id_12 h_i_12
      have hb := below_al w13 (.cells #[.bool ((mulV x y).1).neg, .slice a_j n_j c_j, .slice b_j m_j d_j] 24)
      have B14 := B13.trans (hb.mono B13.size)
      have h_xn_14 := h_xn_13.below hb
      have h_xd_14 := h_xd_13.below hb
      have h_yn_14 := h_yn_13.below hb
      have h_yd_14 := h_yd_13.below hb
      have h_x_14 := h_x_13.later hb
      have h_y_14 := h_y_13.later hb
      have h_en_14 := h_en_13.below hb
      have h_ed_14 := h_ed_13.below hb
      have h_e_14 := h_e_13.later hb
      have h_fn_14 := h_fn_13.below hb
      have h_fd_14 := h_fd_13.below hb
      have h_f_14 := h_f_13.later hb
      have h_hn_14 := h_hn_13.below hb
      have h_hd_14 := h_hd_13.below hb
      have h_h_14 := h_h_13.later hb
      have h_in_14 := h_in_13.below hb
      have h_id_14 := h_id_13.below hb
      have h_i_14 := h_i_13.later hb
      have h_jn_14 := h_jn_13.below hb
      have h_jd_14 := h_jd_13.below hb
      clear hb B13 h_xn_13 h_xd_13 h_yn_13 h_yd_13 h_x_13 h_y_13 h_en_13 h_ed_13 h_e_13 h_fn_13 h_fd_13 h_f_13 h_hn_13 h_hd_13 h_h_13 h_in_13 h_id_13 h_i_13 h_jn_13 h_jd_13
      have h_j_14 := Has.new w13 #[.bool ((mulV x y).1).neg, .slice a_j n_j c_j, .slice b_j m_j d_j] 24
      have k_x_0 := h_x_14.cell 0 _ rfl
      have k_x_1 := h_x_14.cell 1 _ rfl
      have k_x_2 := h_x_14.cell 2 _ rfl
      have k_y_0 := h_y_14.cell 0 _ rfl
      have k_y_1 := h_y_14.cell 1 _ rfl
      have k_y_2 := h_y_14.cell 2 _ rfl
      go_wp2_with first | refine wpList_store_new rfl 24 _ _ rfl atRat _ _ _ rfl rfl rfl rfl (rat_one _ _ _ _ _ _ _) ?_
      clear k_x_0 k_x_1 k_x_2 k_y_0 k_y_1 k_y_2
      generalize (w13.alloc (.cells #[.bool ((mulV x y).1).neg, .slice a_j n_j c_j, .slice b_j m_j d_j] 24)) = w14 at *
      have c := refRatMul_any w14 (g1 := (x).neg) (g2 := (y).neg) h_xn_14 h_xd_14 h_yn_14 h_yd_14
      rw [show (⟨(x).neg, (x).num, (x).den⟩ : QV) = x from rfl] at c
      rw [show (⟨(y).neg, (y).num, (y).den⟩ : QV) = y from rfl] at c
      refine c.mono ?_
      rintro e w15 ⟨a_k, n_k, c_k, b_k, m_k, d_k, rfl, h_kn_15, h_kd_15, hb⟩
      clear c
      have B15 := B14.trans (hb.mono B14.size)
      have h_xn_15 := h_xn_14.below hb
      have h_xd_15 := h_xd_14.below hb
      have h_yn_15 := h_yn_14.below hb
      have h_yd_15 := h_yd_14.below hb
      have h_x_15 := h_x_14.later hb
      have h_y_15 := h_y_14.later hb
      have h_en_15 := h_en_14.below hb
      have h_ed_15 := h_ed_14.below hb
      have h_e_15 := h_e_14.later hb
      have h_fn_15 := h_fn_14.below hb
      have h_fd_15 := h_fd_14.below hb
      have h_f_15 := h_f_14.later hb
      have h_hn_15 := h_hn_14.below hb
      have h_hd_15 := h_hd_14.below hb
      have h_h_15 := h_h_14.later hb
      have h_in_15 := h_in_14.below hb
      have h_id_15 := h_id_14.below hb
      have h_i_15 := h_i_14.later hb
      have h_jn_15 := h_jn_14.below hb
      have h_jd_15 := h_jd_14.below hb
      have h_j_15 := h_j_14.later hb
      clear hb B14 h_xn_14 h_xd_14 h_yn_14 h_yd_14 h_x_14 h_y_14 h_en_14 h_ed_14 h_e_14 h_fn_14 h_fd_14 h_f_14 h_hn_14 h_hd_14 h_h_14 h_in_14 h_id_14 h_i_14 h_jn_14 h_jd_14 h_j_14
      have hb := below_al w15 (.cells #[.bool ((mulV x y).1).neg, .slice a_k n_k c_k, .slice b_k m_k d_k] 24)
      have B16 := B15.trans (hb.mono B15.size)
      have h_xn_16 := h_xn_15.below hb
      have h_xd_16 := h_xd_15.below hb
      have h_yn_16 := h_yn_15.below hb
      have h_yd_16 := h_yd_15.below hb
      have h_x_16 := h_x_15.later hb
      have h_y_16 := h_y_15.later hb
      have h_en_16 := h_en_15.below hb
      have h_ed_16 := h_ed_15.below hb
      have h_e_16 := h_e_15.later hb
      have h_fn_16 := h_fn_15.below hb
      have h_fd_16 := h_fd_15.below hb
      have h_f_16 := h_f_15.later hb
      have h_hn_16 := h_hn_15.below hb
      have h_hd_16 := h_hd_15.below hb
      have h_h_16 := h_h_15.later hb
      have h_in_16 := h_in_15.below hb
      have h_id_16 := h_id_15.below hb
      have h_i_16 := h_i_15.later hb
      have h_jn_16 := h_jn_15.below hb
      have h_jd_16 := h_jd_15.below hb
      have h_j_16 := h_j_15.later hb
      have h_kn_16 := h_kn_15.below hb
      have h_kd_16 := h_kd_15.below hb
      clear hb B15 h_xn_15 h_xd_15 h_yn_15 h_yd_15 h_x_15 h_y_15 h_en_15 h_ed_15 h_e_15 h_fn_15 h_fd_15 h_f_15 h_hn_15 h_hd_15 h_h_15 h_in_15 h_id_15 h_i_15 h_jn_15 h_jd_15 h_j_15 h_kn_15 h_kd_15
      have h_k_16 := Has.new w15 #[.bool ((mulV x y).1).neg, .slice a_k n_k c_k, .slice b_k m_k d_k] 24
      have k_x_0 := h_x_16.cell 0 _ rfl
      have k_x_1 := h_x_16.cell 1 _ rfl
      have k_x_2 := h_x_16.cell 2 _ rfl
      have k_y_0 := h_y_16.cell 0 _ rfl
      have k_y_1 := h_y_16.cell 1 _ rfl
      have k_y_2 := h_y_16.cell 2 _ rfl
      go_wp2_with first | refine wpList_store_new rfl 24 _ _ rfl atRat _ _ _ rfl rfl rfl rfl (rat_one _ _ _ _ _ _ _) ?_
      clear k_x_0 k_x_1 k_x_2 k_y_0 k_y_1 k_y_2
      generalize (w15.alloc (.cells #[.bool ((mulV x y).1).neg, .slice a_k n_k c_k, .slice b_k m_k d_k] 24)) = w16 at *
      have c := ratDiv_any w16 (g1 := (x).neg) (g2 := (y).neg) h_xn_16 h_xd_16 h_yn_16 h_yd_16
      rw [show (⟨(x).neg, (x).num, (x).den⟩ : QV) = x from rfl] at c
      rw [show (⟨(y).neg, (y).num, (y).den⟩ : QV) = y from rfl] at c
      refine c.mono ?_
      rintro e w17 ⟨a_q, n_q, c_q, b_q, m_q, d_q, rfl, h_qn_17, h_qd_17, hb⟩
      clear c
      have B17 := B16.trans (hb.mono B16.size)
      have h_xn_17 := h_xn_16.below hb
      have h_xd_17 := h_xd_16.below hb
      have h_yn_17 := h_yn_16.below hb
      have h_yd_17 := h_yd_16.below hb
      have h_x_17 := h_x_16.later hb
      have h_y_17 := h_y_16.later hb
      have h_en_17 := h_en_16.below hb
      have h_ed_17 := h_ed_16.below hb
      have h_e_17 := h_e_16.later hb
      have h_fn_17 := h_fn_16.below hb
      have h_fd_17 := h_fd_16.below hb
      have h_f_17 := h_f_16.later hb
      have h_hn_17 := h_hn_16.below hb
      have h_hd_17 := h_hd_16.below hb
      have h_h_17 := h_h_16.later hb
      have h_in_17 := h_in_16.below hb
      have h_id_17 := h_id_16.below hb
      have h_i_17 := h_i_16.later hb
      have h_jn_17 := h_jn_16.below hb
      have h_jd_17 := h_jd_16.below hb
      have h_j_17 := h_j_16.later hb
      have h_kn_17 := h_kn_16.below hb
      have h_kd_17 := h_kd_16.below hb
      have h_k_17 := h_k_16.later hb
      clear hb B16 h_xn_16 h_xd_16 h_yn_16 h_yd_16 h_x_16 h_y_16 h_en_16 h_ed_16 h_e_16 h_fn_16 h_fd_16 h_f_16 h_hn_16 h_hd_16 h_h_16 h_in_16 h_id_16 h_i_16 h_jn_16 h_jd_16 h_j_16 h_kn_16 h_kd_16 h_k_16
      have hb := below_al w17 (.cells #[.bool ((divV x y).1).neg, .slice a_q n_q c_q, .slice b_q m_q d_q] 24)
      have B18 := B17.trans (hb.mono B17.size)
      have h_xn_18 := h_xn_17.below hb
      have h_xd_18 := h_xd_17.below hb
      have h_yn_18 := h_yn_17.below hb
      have h_yd_18 := h_yd_17.below hb
      have h_x_18 := h_x_17.later hb
      have h_y_18 := h_y_17.later hb
      have h_en_18 := h_en_17.below hb
      have h_ed_18 := h_ed_17.below hb
      have h_e_18 := h_e_17.later hb
      have h_fn_18 := h_fn_17.below hb
      have h_fd_18 := h_fd_17.below hb
      have h_f_18 := h_f_17.later hb
      have h_hn_18 := h_hn_17.below hb
      have h_hd_18 := h_hd_17.below hb
      have h_h_18 := h_h_17.later hb
      have h_in_18 := h_in_17.below hb
      have h_id_18 := h_id_17.below hb
      have h_i_18 := h_i_17.later hb
      have h_jn_18 := h_jn_17.below hb
      have h_jd_18 := h_jd_17.below hb
      have h_j_18 := h_j_17.later hb
      have h_kn_18 := h_kn_17.below hb
      have h_kd_18 := h_kd_17.below hb
      have h_k_18 := h_k_17.later hb
      have h_qn_18 := h_qn_17.below hb
      have h_qd_18 := h_qd_17.below hb
      clear hb B17 h_xn_17 h_xd_17 h_yn_17 h_yd_17 h_x_17 h_y_17 h_en_17 h_ed_17 h_e_17 h_fn_17 h_fd_17 h_f_17 h_hn_17 h_hd_17 h_h_17 h_in_17 h_id_17 h_i_17 h_jn_17 h_jd_17 h_j_17 h_kn_17 h_kd_17 h_k_17 h_qn_17 h_qd_17
      have h_q_18 := Has.new w17 #[.bool ((divV x y).1).neg, .slice a_q n_q c_q, .slice b_q m_q d_q] 24
      have k_x_0 := h_x_18.cell 0 _ rfl
      have k_x_1 := h_x_18.cell 1 _ rfl
      have k_x_2 := h_x_18.cell 2 _ rfl
      have k_y_0 := h_y_18.cell 0 _ rfl
      have k_y_1 := h_y_18.cell 1 _ rfl
      have k_y_2 := h_y_18.cell 2 _ rfl
      go_wp2_with first | refine wpList_store_new rfl 24 _ _ rfl atRat _ _ _ rfl rfl rfl rfl (rat_one _ _ _ _ _ _ _) ?_
      clear k_x_0 k_x_1 k_x_2 k_y_0 k_y_1 k_y_2
      generalize (w17.alloc (.cells #[.bool ((divV x y).1).neg, .slice a_q n_q c_q, .slice b_q m_q d_q] 24)) = w18 at *
      have c := refRatDiv_any w18 (g1 := (x).neg) (g2 := (y).neg) h_xn_18 h_xd_18 h_yn_18 h_yd_18
      rw [show (⟨(x).neg, (x).num, (x).den⟩ : QV) = x from rfl] at c
      rw [show (⟨(y).neg, (y).num, (y).den⟩ : QV) = y from rfl] at c
      refine c.mono ?_
      rintro e w19 ⟨a_r, n_r, c_r, b_r, m_r, d_r, rfl, h_rn_19, h_rd_19, hb⟩
      clear c
      have B19 := B18.trans (hb.mono B18.size)
      have h_xn_19 := h_xn_18.below hb
      have h_xd_19 := h_xd_18.below hb
      have h_yn_19 := h_yn_18.below hb
      have h_yd_19 := h_yd_18.below hb
      have h_x_19 := h_x_18.later hb
      have h_y_19 := h_y_18.later hb
      have h_en_19 := h_en_18.below hb
      have h_ed_19 := h_ed_18.below hb
      have h_e_19 := h_e_18.later hb
      have h_fn_19 := h_fn_18.below hb
      have h_fd_19 := h_fd_18.below hb
      have h_f_19 := h_f_18.later hb
      have h_hn_19 := h_hn_18.below hb
      have h_hd_19 := h_hd_18.below hb
      have h_h_19 := h_h_18.later hb
      have h_in_19 := h_in_18.below hb
      have h_id_19 := h_id_18.below hb
      have h_i_19 := h_i_18.later hb
      have h_jn_19 := h_jn_18.below hb
      have h_jd_19 := h_jd_18.below hb
      have h_j_19 := h_j_18.later hb
      have h_kn_19 := h_kn_18.below hb
      have h_kd_19 := h_kd_18.below hb
      have h_k_19 := h_k_18.later hb
      have h_qn_19 := h_qn_18.below hb
      have h_qd_19 := h_qd_18.below hb
      have h_q_19 := h_q_18.later hb
      clear hb B18 h_xn_18 h_xd_18 h_yn_18 h_yd_18 h_x_18 h_y_18 h_en_18 h_ed_18 h_e_18 h_fn_18 h_fd_18 h_f_18 h_hn_18 h_hd_18 h_h_18 h_in_18 h_id_18 h_i_18 h_jn_18 h_jd_18 h_j_18 h_kn_18 h_kd_18 h_k_18 h_qn_18 h_qd_18 h_q_18
      have hb := below_al w19 (.cells #[.bool ((divV x y).1).neg, .slice a_r n_r c_r, .slice b_r m_r d_r] 24)
      have B20 := B19.trans (hb.mono B19.size)
      have h_xn_20 := h_xn_19.below hb
      have h_xd_20 := h_xd_19.below hb
      have h_yn_20 := h_yn_19.below hb
      have h_yd_20 := h_yd_19.below hb
      have h_x_20 := h_x_19.later hb
      have h_y_20 := h_y_19.later hb
      have h_en_20 := h_en_19.below hb
      have h_ed_20 := h_ed_19.below hb
      have h_e_20 := h_e_19.later hb
      have h_fn_20 := h_fn_19.below hb
      have h_fd_20 := h_fd_19.below hb
      have h_f_20 := h_f_19.later hb
      have h_hn_20 := h_hn_19.below hb
      have h_hd_20 := h_hd_19.below hb
      have h_h_20 := h_h_19.later hb
      have h_in_20 := h_in_19.below hb
      have h_id_20 := h_id_19.below hb
      have h_i_20 := h_i_19.later hb
      have h_jn_20 := h_jn_19.below hb
      have h_jd_20 := h_jd_19.below hb
      have h_j_20 := h_j_19.later hb
      have h_kn_20 := h_kn_19.below hb
      have h_kd_20 := h_kd_19.below hb
      have h_k_20 := h_k_19.later hb
      have h_qn_20 := h_qn_19.below hb
      have h_qd_20 := h_qd_19.below hb
      have h_q_20 := h_q_19.later hb
      have h_rn_20 := h_rn_19.below hb
      have h_rd_20 := h_rd_19.below hb
      clear hb B19 h_xn_19 h_xd_19 h_yn_19 h_yd_19 h_x_19 h_y_19 h_en_19 h_ed_19 h_e_19 h_fn_19 h_fd_19 h_f_19 h_hn_19 h_hd_19 h_h_19 h_in_19 h_id_19 h_i_19 h_jn_19 h_jd_19 h_j_19 h_kn_19 h_kd_19 h_k_19 h_qn_19 h_qd_19 h_q_19 h_rn_19 h_rd_19
      have h_r_20 := Has.new w19 #[.bool ((divV x y).1).neg, .slice a_r n_r c_r, .slice b_r m_r d_r] 24
      have k_e_0 := h_e_20.cell 0 _ rfl
      have k_e_1 := h_e_20.cell 1 _ rfl
      have k_e_2 := h_e_20.cell 2 _ rfl
      have k_f_0 := h_f_20.cell 0 _ rfl
      have k_f_1 := h_f_20.cell 1 _ rfl
      have k_f_2 := h_f_20.cell 2 _ rfl
      go_wp2_with first | refine wpList_store_new rfl 24 _ _ rfl atRat _ _ _ rfl rfl rfl rfl (rat_one _ _ _ _ _ _ _) ?_
      clear k_e_0 k_e_1 k_e_2 k_f_0 k_f_1 k_f_2
      generalize (w19.alloc (.cells #[.bool ((divV x y).1).neg, .slice a_r n_r c_r, .slice b_r m_r d_r] 24)) = w20 at *
      have c := refRatSame_any w20 (g1 := ((addV x y).1).neg) (g2 := ((addV x y).1).neg) h_en_20 h_ed_20 h_fn_20 h_fd_20
      rw [show (⟨((addV x y).1).neg, ((addV x y).1).num, ((addV x y).1).den⟩ : QV) = (addV x y).1 from rfl] at c
      rw [sameV_self] at c
      refine c.mono ?_
      rintro e w21 ⟨rfl, hb⟩
      clear c
      have B21 := B20.trans (hb.mono B20.size)
      have h_xn_21 := h_xn_20.below hb
      have h_xd_21 := h_xd_20.below hb
      have h_yn_21 := h_yn_20.below hb
      have h_yd_21 := h_yd_20.below hb
      have h_x_21 := h_x_20.later hb
      have h_y_21 := h_y_20.later hb
      have h_en_21 := h_en_20.below hb
      have h_ed_21 := h_ed_20.below hb
      have h_e_21 := h_e_20.later hb
      have h_fn_21 := h_fn_20.below hb
      have h_fd_21 := h_fd_20.below hb
      have h_f_21 := h_f_20.later hb
      have h_hn_21 := h_hn_20.below hb
      have h_hd_21 := h_hd_20.below hb
      have h_h_21 := h_h_20.later hb
      have h_in_21 := h_in_20.below hb
      have h_id_21 := h_id_20.below hb
      have h_i_21 := h_i_20.later hb
      have h_jn_21 := h_jn_20.below hb
      have h_jd_21 := h_jd_20.below hb
      have h_j_21 := h_j_20.later hb
      have h_kn_21 := h_kn_20.below hb
      have h_kd_21 := h_kd_20.below hb
      have h_k_21 := h_k_20.later hb
      have h_qn_21 := h_qn_20.below hb
      have h_qd_21 := h_qd_20.below hb
      have h_q_21 := h_q_20.later hb
      have h_rn_21 := h_rn_20.below hb
      have h_rd_21 := h_rd_20.below hb
      have h_r_21 := h_r_20.later hb
      clear hb B20 h_xn_20 h_xd_20 h_yn_20 h_yd_20 h_x_20 h_y_20 h_en_20 h_ed_20 h_e_20 h_fn_20 h_fd_20 h_f_20 h_hn_20 h_hd_20 h_h_20 h_in_20 h_id_20 h_i_20 h_jn_20 h_jd_20 h_j_20 h_kn_20 h_kd_20 h_k_20 h_qn_20 h_qd_20 h_q_20 h_rn_20 h_rd_20 h_r_20
      clear h_e_21 h_en_21 h_ed_21 h_f_21 h_fn_21 h_fd_21
      have k_h_0 := h_h_21.cell 0 _ rfl
      have k_h_1 := h_h_21.cell 1 _ rfl
      have k_h_2 := h_h_21.cell 2 _ rfl
      have k_i_0 := h_i_21.cell 0 _ rfl
      have k_i_1 := h_i_21.cell 1 _ rfl
      have k_i_2 := h_i_21.cell 2 _ rfl
      go_wp2_with fail
      clear k_h_0 k_h_1 k_h_2 k_i_0 k_i_1 k_i_2
      have c := refRatSame_any w21 (g1 := ((subV x y).1).neg) (g2 := ((subV x y).1).neg) h_hn_21 h_hd_21 h_in_21 h_id_21
      rw [show (⟨((subV x y).1).neg, ((subV x y).1).num, ((subV x y).1).den⟩ : QV) = (subV x y).1 from rfl] at c
      rw [sameV_self] at c
      refine c.mono ?_
      rintro e w22 ⟨rfl, hb⟩
      clear c
      have B22 := B21.trans (hb.mono B21.size)
      have h_xn_22 := h_xn_21.below hb
      have h_xd_22 := h_xd_21.below hb
      have h_yn_22 := h_yn_21.below hb
      have h_yd_22 := h_yd_21.below hb
      have h_x_22 := h_x_21.later hb
      have h_y_22 := h_y_21.later hb
      have h_hn_22 := h_hn_21.below hb
      have h_hd_22 := h_hd_21.below hb
      have h_h_22 := h_h_21.later hb
      have h_in_22 := h_in_21.below hb
      have h_id_22 := h_id_21.below hb
      have h_i_22 := h_i_21.later hb
      have h_jn_22 := h_jn_21.below hb
      have h_jd_22 := h_jd_21.below hb
      have h_j_22 := h_j_21.later hb
      have h_kn_22 := h_kn_21.below hb
      have h_kd_22 := h_kd_21.below hb
      have h_k_22 := h_k_21.later hb
      have h_qn_22 := h_qn_21.below hb
      have h_qd_22 := h_qd_21.below hb
      have h_q_22 := h_q_21.later hb
      have h_rn_22 := h_rn_21.below hb
      have h_rd_22 := h_rd_21.below hb
      have h_r_22 := h_r_21.later hb
      clear hb B21 h_xn_21 h_xd_21 h_yn_21 h_yd_21 h_x_21 h_y_21 h_hn_21 h_hd_21 h_h_21 h_in_21 h_id_21 h_i_21 h_jn_21 h_jd_21 h_j_21 h_kn_21 h_kd_21 h_k_21 h_qn_21 h_qd_21 h_q_21 h_rn_21 h_rd_21 h_r_21
      clear h_h_22 h_hn_22 h_hd_22 h_i_22 h_in_22 h_id_22
      have k_j_0 := h_j_22.cell 0 _ rfl
      have k_j_1 := h_j_22.cell 1 _ rfl
      have k_j_2 := h_j_22.cell 2 _ rfl
      have k_k_0 := h_k_22.cell 0 _ rfl
      have k_k_1 := h_k_22.cell 1 _ rfl
      have k_k_2 := h_k_22.cell 2 _ rfl
      go_wp2_with fail
      clear k_j_0 k_j_1 k_j_2 k_k_0 k_k_1 k_k_2
      have c := refRatSame_any w22 (g1 := ((mulV x y).1).neg) (g2 := ((mulV x y).1).neg) h_jn_22 h_jd_22 h_kn_22 h_kd_22
      rw [show (⟨((mulV x y).1).neg, ((mulV x y).1).num, ((mulV x y).1).den⟩ : QV) = (mulV x y).1 from rfl] at c
      rw [sameV_self] at c
      refine c.mono ?_
      rintro e w23 ⟨rfl, hb⟩
      clear c
      have B23 := B22.trans (hb.mono B22.size)
      have h_xn_23 := h_xn_22.below hb
      have h_xd_23 := h_xd_22.below hb
      have h_yn_23 := h_yn_22.below hb
      have h_yd_23 := h_yd_22.below hb
      have h_x_23 := h_x_22.later hb
      have h_y_23 := h_y_22.later hb
      have h_jn_23 := h_jn_22.below hb
      have h_jd_23 := h_jd_22.below hb
      have h_j_23 := h_j_22.later hb
      have h_kn_23 := h_kn_22.below hb
      have h_kd_23 := h_kd_22.below hb
      have h_k_23 := h_k_22.later hb
      have h_qn_23 := h_qn_22.below hb
      have h_qd_23 := h_qd_22.below hb
      have h_q_23 := h_q_22.later hb
      have h_rn_23 := h_rn_22.below hb
      have h_rd_23 := h_rd_22.below hb
      have h_r_23 := h_r_22.later hb
      clear hb B22 h_xn_22 h_xd_22 h_yn_22 h_yd_22 h_x_22 h_y_22 h_jn_22 h_jd_22 h_j_22 h_kn_22 h_kd_22 h_k_22 h_qn_22 h_qd_22 h_q_22 h_rn_22 h_rd_22 h_r_22
      clear h_j_23 h_jn_23 h_jd_23 h_k_23 h_kn_23 h_kd_23
      have k_q_0 := h_q_23.cell 0 _ rfl
      have k_q_1 := h_q_23.cell 1 _ rfl
      have k_q_2 := h_q_23.cell 2 _ rfl
      have k_r_0 := h_r_23.cell 0 _ rfl
      have k_r_1 := h_r_23.cell 1 _ rfl
      have k_r_2 := h_r_23.cell 2 _ rfl
      go_wp2_with fail
      clear k_q_0 k_q_1 k_q_2 k_r_0 k_r_1 k_r_2
      have c := refRatSame_any w23 (g1 := ((divV x y).1).neg) (g2 := ((divV x y).1).neg) h_qn_23 h_qd_23 h_rn_23 h_rd_23
      rw [show (⟨((divV x y).1).neg, ((divV x y).1).num, ((divV x y).1).den⟩ : QV) = (divV x y).1 from rfl] at c
      rw [sameV_self] at c
      refine c.mono ?_
      rintro e w24 ⟨rfl, hb⟩
      clear c
      have B24 := B23.trans (hb.mono B23.size)
      have h_xn_24 := h_xn_23.below hb
      have h_xd_24 := h_xd_23.below hb
      have h_yn_24 := h_yn_23.below hb
      have h_yd_24 := h_yd_23.below hb
      have h_x_24 := h_x_23.later hb
      have h_y_24 := h_y_23.later hb
      have h_qn_24 := h_qn_23.below hb
      have h_qd_24 := h_qd_23.below hb
      have h_q_24 := h_q_23.later hb
      have h_rn_24 := h_rn_23.below hb
      have h_rd_24 := h_rd_23.below hb
      have h_r_24 := h_r_23.later hb
      clear hb B23 h_xn_23 h_xd_23 h_yn_23 h_yd_23 h_x_23 h_y_23 h_qn_23 h_qd_23 h_q_23 h_rn_23 h_rd_23 h_r_23
      clear h_q_24 h_qn_24 h_qd_24 h_r_24 h_rn_24 h_rd_24
      go_wp2_with fail
      have c := wakes_any w24
      refine c.mono ?_
      rintro e w25 ⟨rfl, hb⟩
      clear c
      have B25 := B24.trans (hb.mono B24.size)
      have h_xn_25 := h_xn_24.below hb
      have h_xd_25 := h_xd_24.below hb
      have h_yn_25 := h_yn_24.below hb
      have h_yd_25 := h_yd_24.below hb
      have h_x_25 := h_x_24.later hb
      have h_y_25 := h_y_24.later hb
      clear hb B24 h_xn_24 h_xd_24 h_yn_24 h_yd_24 h_x_24 h_y_24
      go_wp2_with fail
      go_ret
      exact ⟨rfl, B25⟩

end Go.Proofs.YtdaajeklnhbhjaaGreatDoor
