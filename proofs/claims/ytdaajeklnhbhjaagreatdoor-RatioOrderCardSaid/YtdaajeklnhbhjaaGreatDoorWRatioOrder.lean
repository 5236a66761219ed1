/- The walk of the law RatioOrder: it returns true and turns nothing that was there. No condition. Printed by gen_ratlaws.py. -/
import Derived.Test.YtdaajeklnhbhjaaGreatDoorRatW
import Derived.Test.YtdaajeklnhbhjaaGreatDoorRatV
import Derived.Test.YtdaajeklnhbhjaaGreatDoorRatY
import Derived.BigQuiet
import Derived.Deep.CutRange
namespace Go.Proofs.YtdaajeklnhbhjaaGreatDoor
open Go.RowKit Go.Suf
set_option linter.unusedVariables false
set_option linter.unusedSimpArgs false

set_option maxRecDepth 100000 in
set_option maxHeartbeats 8000000 in
theorem ratioOrder_walk (w : World) {g_x : Bool} {a_x b_x : Option Addr} {n_x c_x m_x d_x : Nat} {xn xd : List Nat} (h_xn : Rd .u32 w a_x n_x c_x xn) (h_xd : Rd .u32 w b_x m_x d_x xd) {g_y : Bool} {a_y b_y : Option Addr} {n_y c_y m_y d_y : Nat} {yn yd : List Nat} (h_yn : Rd .u32 w a_y n_y c_y yn) (h_yd : Rd .u32 w b_y m_y d_y yd) {g_z : Bool} {a_z b_z : Option Addr} {n_z c_z m_z d_z : Nat} {zn zd : List Nat} (h_zn : Rd .u32 w a_z n_z c_z zn) (h_zd : Rd .u32 w b_z m_z d_z zd) :
    Calls Tryz.prog 8 #[ratV g_x a_x n_x c_x b_x m_x d_x, ratV g_y a_y n_y c_y b_y m_y d_y, ratV g_z a_z n_z c_z b_z m_z d_z] w fun e w' => e = .returned (.bool true) ∧ Below w.heap.size w w' := by
  obtain ⟨x, rfl, rfl, rfl⟩ : ∃ x : QV, g_x = x.neg ∧ xn = x.num ∧ xd = x.den := ⟨⟨g_x, xn, xd⟩, rfl, rfl, rfl⟩
  obtain ⟨y, rfl, rfl, rfl⟩ : ∃ y : QV, g_y = y.neg ∧ yn = y.num ∧ yd = y.den := ⟨⟨g_y, yn, yd⟩, rfl, rfl, rfl⟩
  obtain ⟨z, rfl, rfl, rfl⟩ : ∃ z : QV, g_z = z.neg ∧ zn = z.num ∧ zd = z.den := ⟨⟨g_z, zn, zd⟩, rfl, rfl, rfl⟩
  have B0 : Below w.heap.size w w := Below.refl _ _
  have h_xn_0 := h_xn
  have h_xd_0 := h_xd
  have h_yn_0 := h_yn
  have h_yd_0 := h_yd
  have h_zn_0 := h_zn
  have h_zd_0 := h_zd
  by_cases ok : okV x ∧ okV y ∧ okV z
  case neg =>
    have RT := Lib.hid (show (decide (okV x) && decide (okV y) && decide (okV z)) = false from by rw [Bool.eq_false_iff]; intro h; simp only [Bool.and_eq_true, decide_eq_true_eq] at h; exact ok ⟨h.1.1, h.1.2, h.2⟩)
    clear ok
    go_enter Tryz.func8, Tryz.ntmps8
    have hb := below_al w (.cells #[.bool (x).neg, .slice a_x n_x c_x, .slice b_x m_x d_x] 24)
    have B1 := B0.trans (hb.mono B0.size)
    have h_xn_1 := h_xn_0.below hb
    have h_xd_1 := h_xd_0.below hb
    have h_yn_1 := h_yn_0.below hb
    have h_yd_1 := h_yd_0.below hb
    have h_zn_1 := h_zn_0.below hb
    have h_zd_1 := h_zd_0.below hb
    clear hb B0 h_xn_0 h_xd_0 h_yn_0 h_yd_0 h_zn_0 h_zd_0
    have h_x_1 := Has.new w #[.bool (x).neg, .slice a_x n_x c_x, .slice b_x m_x d_x] 24
    have hb := below_al (w.alloc (.cells #[.bool (x).neg, .slice a_x n_x c_x, .slice b_x m_x d_x] 24)) (.cells #[.bool (y).neg, .slice a_y n_y c_y, .slice b_y m_y d_y] 24)
    have B2 := B1.trans (hb.mono B1.size)
    have h_xn_2 := h_xn_1.below hb
    have h_xd_2 := h_xd_1.below hb
    have h_yn_2 := h_yn_1.below hb
    have h_yd_2 := h_yd_1.below hb
    have h_zn_2 := h_zn_1.below hb
    have h_zd_2 := h_zd_1.below hb
    have h_x_2 := h_x_1.later hb
    clear hb B1 h_xn_1 h_xd_1 h_yn_1 h_yd_1 h_zn_1 h_zd_1 h_x_1
    have h_y_2 := Has.new (w.alloc (.cells #[.bool (x).neg, .slice a_x n_x c_x, .slice b_x m_x d_x] 24)) #[.bool (y).neg, .slice a_y n_y c_y, .slice b_y m_y d_y] 24
    simp only [World.size_alloc] at h_y_2
    have hb := below_al ((w.alloc (.cells #[.bool (x).neg, .slice a_x n_x c_x, .slice b_x m_x d_x] 24)).alloc (.cells #[.bool (y).neg, .slice a_y n_y c_y, .slice b_y m_y d_y] 24)) (.cells #[.bool (z).neg, .slice a_z n_z c_z, .slice b_z m_z d_z] 24)
    have B3 := B2.trans (hb.mono B2.size)
    have h_xn_3 := h_xn_2.below hb
    have h_xd_3 := h_xd_2.below hb
    have h_yn_3 := h_yn_2.below hb
    have h_yd_3 := h_yd_2.below hb
    have h_zn_3 := h_zn_2.below hb
    have h_zd_3 := h_zd_2.below hb
    have h_x_3 := h_x_2.later hb
    have h_y_3 := h_y_2.later hb
    clear hb B2 h_xn_2 h_xd_2 h_yn_2 h_yd_2 h_zn_2 h_zd_2 h_x_2 h_y_2
    have h_z_3 := Has.new ((w.alloc (.cells #[.bool (x).neg, .slice a_x n_x c_x, .slice b_x m_x d_x] 24)).alloc (.cells #[.bool (y).neg, .slice a_y n_y c_y, .slice b_y m_y d_y] 24)) #[.bool (z).neg, .slice a_z n_z c_z, .slice b_z m_z d_z] 24
    simp only [World.size_alloc] at h_z_3
    have k_x_0 := h_x_3.cell 0 _ rfl
    have k_x_1 := h_x_3.cell 1 _ rfl
    have k_x_2 := h_x_3.cell 2 _ rfl
    have k_y_0 := h_y_3.cell 0 _ rfl
    have k_y_1 := h_y_3.cell 1 _ rfl
    have k_y_2 := h_y_3.cell 2 _ rfl
    have k_z_0 := h_z_3.cell 0 _ rfl
    have k_z_1 := h_z_3.cell 1 _ rfl
    have k_z_2 := h_z_3.cell 2 _ rfl
    have hb := below_al (((w.alloc (.cells #[.bool (x).neg, .slice a_x n_x c_x, .slice b_x m_x d_x] 24)).alloc (.cells #[.bool (y).neg, .slice a_y n_y c_y, .slice b_y m_y d_y] 24)).alloc (.cells #[.bool (z).neg, .slice a_z n_z c_z, .slice b_z m_z d_z] 24)) (.cells #[.bool (x).neg, .slice a_x n_x c_x, .slice b_x m_x d_x, .bool (y).neg, .slice a_y n_y c_y, .slice b_y m_y d_y, .bool (z).neg, .slice a_z n_z c_z, .slice b_z m_z d_z] 24)
    have B4 := B3.trans (hb.mono B3.size)
    have h_xn_4 := h_xn_3.below hb
    have h_xd_4 := h_xd_3.below hb
    have h_yn_4 := h_yn_3.below hb
    have h_yd_4 := h_yd_3.below hb
    have h_zn_4 := h_zn_3.below hb
    have h_zd_4 := h_zd_3.below hb
    have h_x_4 := h_x_3.later hb
    have h_y_4 := h_y_3.later hb
    have h_z_4 := h_z_3.later hb
    clear hb B3 h_xn_3 h_xd_3 h_yn_3 h_yd_3 h_zn_3 h_zd_3 h_x_3 h_y_3 h_z_3
    have h_l_4 := Has.new (((w.alloc (.cells #[.bool (x).neg, .slice a_x n_x c_x, .slice b_x m_x d_x] 24)).alloc (.cells #[.bool (y).neg, .slice a_y n_y c_y, .slice b_y m_y d_y] 24)).alloc (.cells #[.bool (z).neg, .slice a_z n_z c_z, .slice b_z m_z d_z] 24)) #[.bool (x).neg, .slice a_x n_x c_x, .slice b_x m_x d_x, .bool (y).neg, .slice a_y n_y c_y, .slice b_y m_y d_y, .bool (z).neg, .slice a_z n_z c_z, .slice b_z m_z d_z] 24
    simp only [World.size_alloc] at h_l_4
    go_wp2_with fail
    clear k_x_0 k_x_1 k_x_2 k_y_0 k_y_1 k_y_2 k_z_0 k_z_1 k_z_2
    generalize ((((w.alloc (.cells #[.bool (x).neg, .slice a_x n_x c_x, .slice b_x m_x d_x] 24)).alloc (.cells #[.bool (y).neg, .slice a_y n_y c_y, .slice b_y m_y d_y] 24)).alloc (.cells #[.bool (z).neg, .slice a_z n_z c_z, .slice b_z m_z d_z] 24)).alloc (.cells #[.bool (x).neg, .slice a_x n_x c_x, .slice b_x m_x d_x, .bool (y).neg, .slice a_y n_y c_y, .slice b_y m_y d_y, .bool (z).neg, .slice a_z n_z c_z, .slice b_z m_z d_z] 24)) = w4 at *
    have c := right3_any w4 (g_x := (x).neg) (g_y := (y).neg) (g_z := (z).neg) h_xn_4 h_xd_4 h_yn_4 h_yd_4 h_zn_4 h_zd_4 h_l_4
    rw [show (⟨(x).neg, (x).num, (x).den⟩ : QV) = x from rfl] at c
    rw [show (⟨(y).neg, (y).num, (y).den⟩ : QV) = y from rfl] at c
    rw [show (⟨(z).neg, (z).num, (z).den⟩ : QV) = z from rfl] at c
    rw [RT.out] at c
    refine c.mono ?_
    rintro e w5 ⟨rfl, hb⟩
    clear c
    have B5 := B4.trans (hb.mono B4.size)
    have h_xn_5 := h_xn_4.below hb
    have h_xd_5 := h_xd_4.below hb
    have h_yn_5 := h_yn_4.below hb
    have h_yd_5 := h_yd_4.below hb
    have h_zn_5 := h_zn_4.below hb
    have h_zd_5 := h_zd_4.below hb
    have h_x_5 := h_x_4.later hb
    have h_y_5 := h_y_4.later hb
    have h_z_5 := h_z_4.later hb
    clear hb B4 h_xn_4 h_xd_4 h_yn_4 h_yd_4 h_zn_4 h_zd_4 h_x_4 h_y_4 h_z_4 h_l_4
    go_wp2_with fail
    have c := wakes_any w5
    refine c.mono ?_
    rintro e w6 ⟨rfl, hb⟩
    clear c
    have B6 := B5.trans (hb.mono B5.size)
    have h_xn_6 := h_xn_5.below hb
    have h_xd_6 := h_xd_5.below hb
    have h_yn_6 := h_yn_5.below hb
    have h_yd_6 := h_yd_5.below hb
    have h_zn_6 := h_zn_5.below hb
    have h_zd_6 := h_zd_5.below hb
    have h_x_6 := h_x_5.later hb
    have h_y_6 := h_y_5.later hb
    have h_z_6 := h_z_5.later hb
    clear hb B5 h_xn_5 h_xd_5 h_yn_5 h_yd_5 h_zn_5 h_zd_5 h_x_5 h_y_5 h_z_5
    go_wp2_with fail
    go_ret
    exact ⟨rfl, B6⟩
  have RT := Lib.hid (show (decide (okV x) && decide (okV y) && decide (okV z)) = true from by simp only [Bool.and_eq_true, decide_eq_true_eq]; exact ⟨⟨ok.1, ok.2.1⟩, ok.2.2⟩)
  obtain ⟨c, d, s, t, a, b, l, f0, f1, f2, f3, f4, f5, f6, f7, f8, f9, f10, dc, c1, c2⟩ := order_law ⟨h_xn_0.bd, h_xd_0.bd⟩ ⟨h_yn_0.bd, h_yd_0.bd⟩ ⟨h_zn_0.bd, h_zd_0.bd⟩ ok.1 ok.2.1 ok.2.2
  have F0 := Lib.hid f0
  have F1 := Lib.hid f1
  have F2 := Lib.hid f2
  have F3 := Lib.hid f3
  have F4 := Lib.hid f4
  have F5 := Lib.hid f5
  have F6 := Lib.hid f6
  have F7 := Lib.hid f7
  have F8 := Lib.hid f8
  have F9 := Lib.hid f9
  have F10 := Lib.hid f10
  clear f0 f1 f2 f3 f4 f5 f6 f7 f8 f9 f10 ok
  have ds : c = -1 ∧ d = 1 ∨ c = 0 ∧ d = 0 ∨ c = 1 ∧ d = -1 := by omega
  clear dc c1 c2
  rcases ds with ⟨rfl, rfl⟩ | ⟨rfl, rfl⟩ | ⟨rfl, rfl⟩
  ·
    go_enter Tryz.func8, Tryz.ntmps8
    have hb := below_al w (.cells #[.bool (x).neg, .slice a_x n_x c_x, .slice b_x m_x d_x] 24)
    have B1 := B0.trans (hb.mono B0.size)
    have h_xn_1 := h_xn_0.below hb
    have h_xd_1 := h_xd_0.below hb
    have h_yn_1 := h_yn_0.below hb
    have h_yd_1 := h_yd_0.below hb
    have h_zn_1 := h_zn_0.below hb
    have h_zd_1 := h_zd_0.below hb
    clear hb B0 h_xn_0 h_xd_0 h_yn_0 h_yd_0 h_zn_0 h_zd_0
    have h_x_1 := Has.new w #[.bool (x).neg, .slice a_x n_x c_x, .slice b_x m_x d_x] 24
    have hb := below_al (w.alloc (.cells #[.bool (x).neg, .slice a_x n_x c_x, .slice b_x m_x d_x] 24)) (.cells #[.bool (y).neg, .slice a_y n_y c_y, .slice b_y m_y d_y] 24)
    have B2 := B1.trans (hb.mono B1.size)
    have h_xn_2 := h_xn_1.below hb
    have h_xd_2 := h_xd_1.below hb
    have h_yn_2 := h_yn_1.below hb
    have h_yd_2 := h_yd_1.below hb
    have h_zn_2 := h_zn_1.below hb
    have h_zd_2 := h_zd_1.below hb
    have h_x_2 := h_x_1.later hb
    clear hb B1 h_xn_1 h_xd_1 h_yn_1 h_yd_1 h_zn_1 h_zd_1 h_x_1
    have h_y_2 := Has.new (w.alloc (.cells #[.bool (x).neg, .slice a_x n_x c_x, .slice b_x m_x d_x] 24)) #[.bool (y).neg, .slice a_y n_y c_y, .slice b_y m_y d_y] 24
    simp only [World.size_alloc] at h_y_2
    have hb := below_al ((w.alloc (.cells #[.bool (x).neg, .slice a_x n_x c_x, .slice b_x m_x d_x] 24)).alloc (.cells #[.bool (y).neg, .slice a_y n_y c_y, .slice b_y m_y d_y] 24)) (.cells #[.bool (z).neg, .slice a_z n_z c_z, .slice b_z m_z d_z] 24)
    have B3 := B2.trans (hb.mono B2.size)
    have h_xn_3 := h_xn_2.below hb
    have h_xd_3 := h_xd_2.below hb
    have h_yn_3 := h_yn_2.below hb
    have h_yd_3 := h_yd_2.below hb
    have h_zn_3 := h_zn_2.below hb
    have h_zd_3 := h_zd_2.below hb
    have h_x_3 := h_x_2.later hb
    have h_y_3 := h_y_2.later hb
    clear hb B2 h_xn_2 h_xd_2 h_yn_2 h_yd_2 h_zn_2 h_zd_2 h_x_2 h_y_2
    have h_z_3 := Has.new ((w.alloc (.cells #[.bool (x).neg, .slice a_x n_x c_x, .slice b_x m_x d_x] 24)).alloc (.cells #[.bool (y).neg, .slice a_y n_y c_y, .slice b_y m_y d_y] 24)) #[.bool (z).neg, .slice a_z n_z c_z, .slice b_z m_z d_z] 24
    simp only [World.size_alloc] at h_z_3
    have k_x_0 := h_x_3.cell 0 _ rfl
    have k_x_1 := h_x_3.cell 1 _ rfl
    have k_x_2 := h_x_3.cell 2 _ rfl
    have k_y_0 := h_y_3.cell 0 _ rfl
    have k_y_1 := h_y_3.cell 1 _ rfl
    have k_y_2 := h_y_3.cell 2 _ rfl
    have k_z_0 := h_z_3.cell 0 _ rfl
    have k_z_1 := h_z_3.cell 1 _ rfl
    have k_z_2 := h_z_3.cell 2 _ rfl
    have hb := below_al (((w.alloc (.cells #[.bool (x).neg, .slice a_x n_x c_x, .slice b_x m_x d_x] 24)).alloc (.cells #[.bool (y).neg, .slice a_y n_y c_y, .slice b_y m_y d_y] 24)).alloc (.cells #[.bool (z).neg, .slice a_z n_z c_z, .slice b_z m_z d_z] 24)) (.cells #[.bool (x).neg, .slice a_x n_x c_x, .slice b_x m_x d_x, .bool (y).neg, .slice a_y n_y c_y, .slice b_y m_y d_y, .bool (z).neg, .slice a_z n_z c_z, .slice b_z m_z d_z] 24)
    have B4 := B3.trans (hb.mono B3.size)
    have h_xn_4 := h_xn_3.below hb
    have h_xd_4 := h_xd_3.below hb
    have h_yn_4 := h_yn_3.below hb
    have h_yd_4 := h_yd_3.below hb
    have h_zn_4 := h_zn_3.below hb
    have h_zd_4 := h_zd_3.below hb
    have h_x_4 := h_x_3.later hb
    have h_y_4 := h_y_3.later hb
    have h_z_4 := h_z_3.later hb
    clear hb B3 h_xn_3 h_xd_3 h_yn_3 h_yd_3 h_zn_3 h_zd_3 h_x_3 h_y_3 h_z_3
    have h_l_4 := Has.new (((w.alloc (.cells #[.bool (x).neg, .slice a_x n_x c_x, .slice b_x m_x d_x] 24)).alloc (.cells #[.bool (y).neg, .slice a_y n_y c_y, .slice b_y m_y d_y] 24)).alloc (.cells #[.bool (z).neg, .slice a_z n_z c_z, .slice b_z m_z d_z] 24)) #[.bool (x).neg, .slice a_x n_x c_x, .slice b_x m_x d_x, .bool (y).neg, .slice a_y n_y c_y, .slice b_y m_y d_y, .bool (z).neg, .slice a_z n_z c_z, .slice b_z m_z d_z] 24
    simp only [World.size_alloc] at h_l_4
    go_wp2_with fail
    clear k_x_0 k_x_1 k_x_2 k_y_0 k_y_1 k_y_2 k_z_0 k_z_1 k_z_2
    generalize ((((w.alloc (.cells #[.bool (x).neg, .slice a_x n_x c_x, .slice b_x m_x d_x] 24)).alloc (.cells #[.bool (y).neg, .slice a_y n_y c_y, .slice b_y m_y d_y] 24)).alloc (.cells #[.bool (z).neg, .slice a_z n_z c_z, .slice b_z m_z d_z] 24)).alloc (.cells #[.bool (x).neg, .slice a_x n_x c_x, .slice b_x m_x d_x, .bool (y).neg, .slice a_y n_y c_y, .slice b_y m_y d_y, .bool (z).neg, .slice a_z n_z c_z, .slice b_z m_z d_z] 24)) = w4 at *
    have c := right3_any w4 (g_x := (x).neg) (g_y := (y).neg) (g_z := (z).neg) h_xn_4 h_xd_4 h_yn_4 h_yd_4 h_zn_4 h_zd_4 h_l_4
    rw [show (⟨(x).neg, (x).num, (x).den⟩ : QV) = x from rfl] at c
    rw [show (⟨(y).neg, (y).num, (y).den⟩ : QV) = y from rfl] at c
    rw [show (⟨(z).neg, (z).num, (z).den⟩ : QV) = z from rfl] at c
    rw [RT.out] at c
    refine c.mono ?_
    rintro e w5 ⟨rfl, hb⟩
    clear c
    have B5 := B4.trans (hb.mono B4.size)
    have h_xn_5 := h_xn_4.below hb
    have h_xd_5 := h_xd_4.below hb
    have h_yn_5 := h_yn_4.below hb
    have h_yd_5 := h_yd_4.below hb
    have h_zn_5 := h_zn_4.below hb
    have h_zd_5 := h_zd_4.below hb
    have h_x_5 := h_x_4.later hb
    have h_y_5 := h_y_4.later hb
    have h_z_5 := h_z_4.later hb
    clear hb B4 h_xn_4 h_xd_4 h_yn_4 h_yd_4 h_zn_4 h_zd_4 h_x_4 h_y_4 h_z_4 h_l_4
    have k_x_0 := h_x_5.cell 0 _ rfl
    have k_x_1 := h_x_5.cell 1 _ rfl
    have k_x_2 := h_x_5.cell 2 _ rfl
    have k_y_0 := h_y_5.cell 0 _ rfl
    have k_y_1 := h_y_5.cell 1 _ rfl
    have k_y_2 := h_y_5.cell 2 _ rfl
    go_wp2_with fail
    clear k_x_0 k_x_1 k_x_2 k_y_0 k_y_1 k_y_2
    have c := ratCmp_any w5 (g1 := (x).neg) (g2 := (y).neg) h_xn_5 h_xd_5 h_yn_5 h_yd_5
    rw [show (⟨(x).neg, (x).num, (x).den⟩ : QV) = x from rfl] at c
    rw [show (⟨(y).neg, (y).num, (y).den⟩ : QV) = y from rfl] at c
    rw [F0.out] at c
    refine c.mono ?_
    rintro e w6 ⟨rfl, hb⟩
    clear c
    have B6 := B5.trans (hb.mono B5.size)
    have h_xn_6 := h_xn_5.below hb
    have h_xd_6 := h_xd_5.below hb
    have h_yn_6 := h_yn_5.below hb
    have h_yd_6 := h_yd_5.below hb
    have h_zn_6 := h_zn_5.below hb
    have h_zd_6 := h_zd_5.below hb
    have h_x_6 := h_x_5.later hb
    have h_y_6 := h_y_5.later hb
    have h_z_6 := h_z_5.later hb
    clear hb B5 h_xn_5 h_xd_5 h_yn_5 h_yd_5 h_zn_5 h_zd_5 h_x_5 h_y_5 h_z_5
    have k_y_0 := h_y_6.cell 0 _ rfl
    have k_y_1 := h_y_6.cell 1 _ rfl
    have k_y_2 := h_y_6.cell 2 _ rfl
    have k_x_0 := h_x_6.cell 0 _ rfl
    have k_x_1 := h_x_6.cell 1 _ rfl
    have k_x_2 := h_x_6.cell 2 _ rfl
    go_wp2_with fail
    clear k_y_0 k_y_1 k_y_2 k_x_0 k_x_1 k_x_2
    have c := ratCmp_any w6 (g1 := (y).neg) (g2 := (x).neg) h_yn_6 h_yd_6 h_xn_6 h_xd_6
    rw [show (⟨(y).neg, (y).num, (y).den⟩ : QV) = y from rfl] at c
    rw [show (⟨(x).neg, (x).num, (x).den⟩ : QV) = x from rfl] at c
    rw [F1.out] at c
    refine c.mono ?_
    rintro e w7 ⟨rfl, hb⟩
    clear c
    have B7 := B6.trans (hb.mono B6.size)
    have h_xn_7 := h_xn_6.below hb
    have h_xd_7 := h_xd_6.below hb
    have h_yn_7 := h_yn_6.below hb
    have h_yd_7 := h_yd_6.below hb
    have h_zn_7 := h_zn_6.below hb
    have h_zd_7 := h_zd_6.below hb
    have h_x_7 := h_x_6.later hb
    have h_y_7 := h_y_6.later hb
    have h_z_7 := h_z_6.later hb
    clear hb B6 h_xn_6 h_xd_6 h_yn_6 h_yd_6 h_zn_6 h_zd_6 h_x_6 h_y_6 h_z_6
    have k_x_0 := h_x_7.cell 0 _ rfl
    have k_x_1 := h_x_7.cell 1 _ rfl
    have k_x_2 := h_x_7.cell 2 _ rfl
    have k_z_0 := h_z_7.cell 0 _ rfl
    have k_z_1 := h_z_7.cell 1 _ rfl
    have k_z_2 := h_z_7.cell 2 _ rfl
    go_wp2_with fail
    clear k_x_0 k_x_1 k_x_2 k_z_0 k_z_1 k_z_2
    have c := ratAdd_any w7 (g1 := (x).neg) (g2 := (z).neg) h_xn_7 h_xd_7 h_zn_7 h_zd_7
    rw [show (⟨(x).neg, (x).num, (x).den⟩ : QV) = x from rfl] at c
    rw [show (⟨(z).neg, (z).num, (z).den⟩ : QV) = z from rfl] at c
    rw [F2.out] at c
    refine c.mono ?_
    rintro e w8 ⟨a_e, n_e, c_e, b_e, m_e, d_e, rfl, h_en_8, h_ed_8, hb⟩
    clear c
    have B8 := B7.trans (hb.mono B7.size)
    have h_xn_8 := h_xn_7.below hb
    have h_xd_8 := h_xd_7.below hb
    have h_yn_8 := h_yn_7.below hb
    have h_yd_8 := h_yd_7.below hb
    have h_zn_8 := h_zn_7.below hb
    have h_zd_8 := h_zd_7.below hb
    have h_x_8 := h_x_7.later hb
    have h_y_8 := h_y_7.later hb
    have h_z_8 := h_z_7.later hb
    clear hb B7 h_xn_7 h_xd_7 h_yn_7 h_yd_7 h_zn_7 h_zd_7 h_x_7 h_y_7 h_z_7
    have hb := below_al w8 (.cells #[.bool (s).neg, .slice a_e n_e c_e, .slice b_e m_e d_e] 24)
    have B9 := B8.trans (hb.mono B8.size)
    have h_xn_9 := h_xn_8.below hb
    have h_xd_9 := h_xd_8.below hb
    have h_yn_9 := h_yn_8.below hb
    have h_yd_9 := h_yd_8.below hb
    have h_zn_9 := h_zn_8.below hb
    have h_zd_9 := h_zd_8.below hb
    have h_x_9 := h_x_8.later hb
    have h_y_9 := h_y_8.later hb
    have h_z_9 := h_z_8.later hb
    have h_en_9 := h_en_8.below hb
    have h_ed_9 := h_ed_8.below hb
    clear hb B8 h_xn_8 h_xd_8 h_yn_8 h_yd_8 h_zn_8 h_zd_8 h_x_8 h_y_8 h_z_8 h_en_8 h_ed_8
    have h_e_9 := Has.new w8 #[.bool (s).neg, .slice a_e n_e c_e, .slice b_e m_e d_e] 24
    have k_y_0 := h_y_9.cell 0 _ rfl
    have k_y_1 := h_y_9.cell 1 _ rfl
    have k_y_2 := h_y_9.cell 2 _ rfl
    have k_z_0 := h_z_9.cell 0 _ rfl
    have k_z_1 := h_z_9.cell 1 _ rfl
    have k_z_2 := h_z_9.cell 2 _ rfl
    go_wp2_with first | refine wpList_store_new rfl 24 _ _ rfl atRat _ _ _ rfl rfl rfl rfl (rat_one _ _ _ _ _ _ _) ?_
    clear k_y_0 k_y_1 k_y_2 k_z_0 k_z_1 k_z_2
    generalize (w8.alloc (.cells #[.bool (s).neg, .slice a_e n_e c_e, .slice b_e m_e d_e] 24)) = w9 at *
    have c := ratAdd_any w9 (g1 := (y).neg) (g2 := (z).neg) h_yn_9 h_yd_9 h_zn_9 h_zd_9
    rw [show (⟨(y).neg, (y).num, (y).den⟩ : QV) = y from rfl] at c
    rw [show (⟨(z).neg, (z).num, (z).den⟩ : QV) = z from rfl] at c
    rw [F3.out] at c
    refine c.mono ?_
    rintro e w10 ⟨a_f, n_f, c_f, b_f, m_f, d_f, rfl, h_fn_10, h_fd_10, hb⟩
    clear c
    have B10 := B9.trans (hb.mono B9.size)
    have h_xn_10 := h_xn_9.below hb
    have h_xd_10 := h_xd_9.below hb
    have h_yn_10 := h_yn_9.below hb
    have h_yd_10 := h_yd_9.below hb
    have h_zn_10 := h_zn_9.below hb
    have h_zd_10 := h_zd_9.below hb
    have h_x_10 := h_x_9.later hb
    have h_y_10 := h_y_9.later hb
    have h_z_10 := h_z_9.later hb
    have h_en_10 := h_en_9.below hb
    have h_ed_10 := h_ed_9.below hb
    have h_e_10 := h_e_9.later hb
    clear hb B9 h_xn_9 h_xd_9 h_yn_9 h_yd_9 h_zn_9 h_zd_9 h_x_9 h_y_9 h_z_9 h_en_9 h_ed_9 h_e_9
    have hb := below_al w10 (.cells #[.bool (t).neg, .slice a_f n_f c_f, .slice b_f m_f d_f] 24)
    have B11 := B10.trans (hb.mono B10.size)
    have h_xn_11 := h_xn_10.below hb
    have h_xd_11 := h_xd_10.below hb
    have h_yn_11 := h_yn_10.below hb
    have h_yd_11 := h_yd_10.below hb
    have h_zn_11 := h_zn_10.below hb
    have h_zd_11 := h_zd_10.below hb
    have h_x_11 := h_x_10.later hb
    have h_y_11 := h_y_10.later hb
    have h_z_11 := h_z_10.later hb
    have h_en_11 := h_en_10.below hb
    have h_ed_11 := h_ed_10.below hb
    have h_e_11 := h_e_10.later hb
    have h_fn_11 := h_fn_10.below hb
    have h_fd_11 := h_fd_10.below hb
    clear hb B10 h_xn_10 h_xd_10 h_yn_10 h_yd_10 h_zn_10 h_zd_10 h_x_10 h_y_10 h_z_10 h_en_10 h_ed_10 h_e_10 h_fn_10 h_fd_10
    have h_f_11 := Has.new w10 #[.bool (t).neg, .slice a_f n_f c_f, .slice b_f m_f d_f] 24
    have k_e_0 := h_e_11.cell 0 _ rfl
    have k_e_1 := h_e_11.cell 1 _ rfl
    have k_e_2 := h_e_11.cell 2 _ rfl
    have k_f_0 := h_f_11.cell 0 _ rfl
    have k_f_1 := h_f_11.cell 1 _ rfl
    have k_f_2 := h_f_11.cell 2 _ rfl
    go_wp2_with first | refine wpList_store_new rfl 24 _ _ rfl atRat _ _ _ rfl rfl rfl rfl (rat_one _ _ _ _ _ _ _) ?_
    clear k_e_0 k_e_1 k_e_2 k_f_0 k_f_1 k_f_2
    generalize (w10.alloc (.cells #[.bool (t).neg, .slice a_f n_f c_f, .slice b_f m_f d_f] 24)) = w11 at *
    have c := ratCmp_any w11 (g1 := (s).neg) (g2 := (t).neg) h_en_11 h_ed_11 h_fn_11 h_fd_11
    rw [show (⟨(s).neg, (s).num, (s).den⟩ : QV) = s from rfl] at c
    rw [show (⟨(t).neg, (t).num, (t).den⟩ : QV) = t from rfl] at c
    rw [F4.out] at c
    refine c.mono ?_
    rintro e w12 ⟨rfl, hb⟩
    clear c
    have B12 := B11.trans (hb.mono B11.size)
    have h_xn_12 := h_xn_11.below hb
    have h_xd_12 := h_xd_11.below hb
    have h_yn_12 := h_yn_11.below hb
    have h_yd_12 := h_yd_11.below hb
    have h_zn_12 := h_zn_11.below hb
    have h_zd_12 := h_zd_11.below hb
    have h_x_12 := h_x_11.later hb
    have h_y_12 := h_y_11.later hb
    have h_z_12 := h_z_11.later hb
    have h_en_12 := h_en_11.below hb
    have h_ed_12 := h_ed_11.below hb
    have h_e_12 := h_e_11.later hb
    have h_fn_12 := h_fn_11.below hb
    have h_fd_12 := h_fd_11.below hb
    have h_f_12 := h_f_11.later hb
    clear hb B11 h_xn_11 h_xd_11 h_yn_11 h_yd_11 h_zn_11 h_zd_11 h_x_11 h_y_11 h_z_11 h_en_11 h_ed_11 h_e_11 h_fn_11 h_fd_11 h_f_11
    clear h_e_12 h_en_12 h_ed_12 h_f_12 h_fn_12 h_fd_12 h_z_12 h_zn_12 h_zd_12
    have k_x_0 := h_x_12.cell 0 _ rfl
    have k_x_1 := h_x_12.cell 1 _ rfl
    have k_x_2 := h_x_12.cell 2 _ rfl
    have k_y_0 := h_y_12.cell 0 _ rfl
    have k_y_1 := h_y_12.cell 1 _ rfl
    have k_y_2 := h_y_12.cell 2 _ rfl
    go_wp2_with fail
    clear k_x_0 k_x_1 k_x_2 k_y_0 k_y_1 k_y_2
    have c := ratSame_any w12 (g1 := (x).neg) (g2 := (y).neg) h_xn_12 h_xd_12 h_yn_12 h_yd_12
    rw [show (⟨(x).neg, (x).num, (x).den⟩ : QV) = x from rfl] at c
    rw [show (⟨(y).neg, (y).num, (y).den⟩ : QV) = y from rfl] at c
    rw [F5.out] at c
    refine c.mono ?_
    rintro e w13 ⟨rfl, hb⟩
    clear c
    have B13 := B12.trans (hb.mono B12.size)
    have h_xn_13 := h_xn_12.below hb
    have h_xd_13 := h_xd_12.below hb
    have h_yn_13 := h_yn_12.below hb
    have h_yd_13 := h_yd_12.below hb
    have h_x_13 := h_x_12.later hb
    have h_y_13 := h_y_12.later hb
    clear hb B12 h_xn_12 h_xd_12 h_yn_12 h_yd_12 h_x_12 h_y_12
    have k_x_0 := h_x_13.cell 0 _ rfl
    have k_x_1 := h_x_13.cell 1 _ rfl
    have k_x_2 := h_x_13.cell 2 _ rfl
    go_wp2_with fail
    clear k_x_0 k_x_1 k_x_2
    have c := ratNeg_any w13 (g := (x).neg) h_xn_13 h_xd_13
    rw [show (⟨(x).neg, (x).num, (x).den⟩ : QV) = x from rfl] at c
    rw [F6.out] at c
    refine c.mono ?_
    rintro e w14 ⟨a_e, n_e, c_e, b_e, m_e, d_e, rfl, h_en_14, h_ed_14, hb⟩
    clear c
    have B14 := B13.trans (hb.mono B13.size)
    have h_xn_14 := h_xn_13.below hb
    have h_xd_14 := h_xd_13.below hb
    have h_yn_14 := h_yn_13.below hb
    have h_yd_14 := h_yd_13.below hb
    have h_x_14 := h_x_13.later hb
    have h_y_14 := h_y_13.later hb
    clear hb B13 h_xn_13 h_xd_13 h_yn_13 h_yd_13 h_x_13 h_y_13
    have hb := below_al w14 (.cells #[.bool (a).neg, .slice a_e n_e c_e, .slice b_e m_e d_e] 24)
    have B15 := B14.trans (hb.mono B14.size)
    have h_xn_15 := h_xn_14.below hb
    have h_xd_15 := h_xd_14.below hb
    have h_yn_15 := h_yn_14.below hb
    have h_yd_15 := h_yd_14.below hb
    have h_x_15 := h_x_14.later hb
    have h_y_15 := h_y_14.later hb
    have h_en_15 := h_en_14.below hb
    have h_ed_15 := h_ed_14.below hb
    clear hb B14 h_xn_14 h_xd_14 h_yn_14 h_yd_14 h_x_14 h_y_14 h_en_14 h_ed_14
    have h_e_15 := Has.new w14 #[.bool (a).neg, .slice a_e n_e c_e, .slice b_e m_e d_e] 24
    have k_y_0 := h_y_15.cell 0 _ rfl
    have k_y_1 := h_y_15.cell 1 _ rfl
    have k_y_2 := h_y_15.cell 2 _ rfl
    go_wp2_with first | refine wpList_store_new rfl 24 _ _ rfl atRat _ _ _ rfl rfl rfl rfl (rat_one _ _ _ _ _ _ _) ?_
    clear k_y_0 k_y_1 k_y_2
    generalize (w14.alloc (.cells #[.bool (a).neg, .slice a_e n_e c_e, .slice b_e m_e d_e] 24)) = w15 at *
    have c := ratNeg_any w15 (g := (y).neg) h_yn_15 h_yd_15
    rw [show (⟨(y).neg, (y).num, (y).den⟩ : QV) = y from rfl] at c
    rw [F7.out] at c
    refine c.mono ?_
    rintro e w16 ⟨a_f, n_f, c_f, b_f, m_f, d_f, rfl, h_fn_16, h_fd_16, hb⟩
    clear c
    have B16 := B15.trans (hb.mono B15.size)
    have h_xn_16 := h_xn_15.below hb
    have h_xd_16 := h_xd_15.below hb
    have h_yn_16 := h_yn_15.below hb
    have h_yd_16 := h_yd_15.below hb
    have h_x_16 := h_x_15.later hb
    have h_y_16 := h_y_15.later hb
    have h_en_16 := h_en_15.below hb
    have h_ed_16 := h_ed_15.below hb
    have h_e_16 := h_e_15.later hb
    clear hb B15 h_xn_15 h_xd_15 h_yn_15 h_yd_15 h_x_15 h_y_15 h_en_15 h_ed_15 h_e_15
    have hb := below_al w16 (.cells #[.bool (b).neg, .slice a_f n_f c_f, .slice b_f m_f d_f] 24)
    have B17 := B16.trans (hb.mono B16.size)
    have h_xn_17 := h_xn_16.below hb
    have h_xd_17 := h_xd_16.below hb
    have h_yn_17 := h_yn_16.below hb
    have h_yd_17 := h_yd_16.below hb
    have h_x_17 := h_x_16.later hb
    have h_y_17 := h_y_16.later hb
    have h_en_17 := h_en_16.below hb
    have h_ed_17 := h_ed_16.below hb
    have h_e_17 := h_e_16.later hb
    have h_fn_17 := h_fn_16.below hb
    have h_fd_17 := h_fd_16.below hb
    clear hb B16 h_xn_16 h_xd_16 h_yn_16 h_yd_16 h_x_16 h_y_16 h_en_16 h_ed_16 h_e_16 h_fn_16 h_fd_16
    have h_f_17 := Has.new w16 #[.bool (b).neg, .slice a_f n_f c_f, .slice b_f m_f d_f] 24
    have k_e_0 := h_e_17.cell 0 _ rfl
    have k_e_1 := h_e_17.cell 1 _ rfl
    have k_e_2 := h_e_17.cell 2 _ rfl
    have k_f_0 := h_f_17.cell 0 _ rfl
    have k_f_1 := h_f_17.cell 1 _ rfl
    have k_f_2 := h_f_17.cell 2 _ rfl
    go_wp2_with first | refine wpList_store_new rfl 24 _ _ rfl atRat _ _ _ rfl rfl rfl rfl (rat_one _ _ _ _ _ _ _) ?_
    clear k_e_0 k_e_1 k_e_2 k_f_0 k_f_1 k_f_2
    generalize (w16.alloc (.cells #[.bool (b).neg, .slice a_f n_f c_f, .slice b_f m_f d_f] 24)) = w17 at *
    have c := ratCmp_any w17 (g1 := (a).neg) (g2 := (b).neg) h_en_17 h_ed_17 h_fn_17 h_fd_17
    rw [show (⟨(a).neg, (a).num, (a).den⟩ : QV) = a from rfl] at c
    rw [show (⟨(b).neg, (b).num, (b).den⟩ : QV) = b from rfl] at c
    rw [F8.out] at c
    refine c.mono ?_
    rintro e w18 ⟨rfl, hb⟩
    clear c
    have B18 := B17.trans (hb.mono B17.size)
    have h_xn_18 := h_xn_17.below hb
    have h_xd_18 := h_xd_17.below hb
    have h_yn_18 := h_yn_17.below hb
    have h_yd_18 := h_yd_17.below hb
    have h_x_18 := h_x_17.later hb
    have h_y_18 := h_y_17.later hb
    have h_en_18 := h_en_17.below hb
    have h_ed_18 := h_ed_17.below hb
    have h_e_18 := h_e_17.later hb
    have h_fn_18 := h_fn_17.below hb
    have h_fd_18 := h_fd_17.below hb
    have h_f_18 := h_f_17.later hb
    clear hb B17 h_xn_17 h_xd_17 h_yn_17 h_yd_17 h_x_17 h_y_17 h_en_17 h_ed_17 h_e_17 h_fn_17 h_fd_17 h_f_17
    clear h_e_18 h_en_18 h_ed_18 h_f_18 h_fn_18 h_fd_18
    have k_x_0 := h_x_18.cell 0 _ rfl
    have k_x_1 := h_x_18.cell 1 _ rfl
    have k_x_2 := h_x_18.cell 2 _ rfl
    have k_y_0 := h_y_18.cell 0 _ rfl
    have k_y_1 := h_y_18.cell 1 _ rfl
    have k_y_2 := h_y_18.cell 2 _ rfl
    go_wp2_with fail
    clear k_x_0 k_x_1 k_x_2 k_y_0 k_y_1 k_y_2
    have c := ratSub_any w18 (g1 := (x).neg) (g2 := (y).neg) h_xn_18 h_xd_18 h_yn_18 h_yd_18
    rw [show (⟨(x).neg, (x).num, (x).den⟩ : QV) = x from rfl] at c
    rw [show (⟨(y).neg, (y).num, (y).den⟩ : QV) = y from rfl] at c
    rw [F9.out] at c
    refine c.mono ?_
    rintro e w19 ⟨a_h, n_h, c_h, b_h, m_h, d_h, rfl, h_hn_19, h_hd_19, hb⟩
    clear c
    have B19 := B18.trans (hb.mono B18.size)
    have h_xn_19 := h_xn_18.below hb
    have h_xd_19 := h_xd_18.below hb
    have h_yn_19 := h_yn_18.below hb
    have h_yd_19 := h_yd_18.below hb
    have h_x_19 := h_x_18.later hb
    have h_y_19 := h_y_18.later hb
    clear hb B18 h_xn_18 h_xd_18 h_yn_18 h_yd_18 h_x_18 h_y_18
    have hb := below_al w19 (.cells #[.bool (l).neg, .slice a_h n_h c_h, .slice b_h m_h d_h] 24)
    have B20 := B19.trans (hb.mono B19.size)
    have h_xn_20 := h_xn_19.below hb
    have h_xd_20 := h_xd_19.below hb
    have h_yn_20 := h_yn_19.below hb
    have h_yd_20 := h_yd_19.below hb
    have h_x_20 := h_x_19.later hb
    have h_y_20 := h_y_19.later hb
    have h_hn_20 := h_hn_19.below hb
    have h_hd_20 := h_hd_19.below hb
    clear hb B19 h_xn_19 h_xd_19 h_yn_19 h_yd_19 h_x_19 h_y_19 h_hn_19 h_hd_19
    have h_h_20 := Has.new w19 #[.bool (l).neg, .slice a_h n_h c_h, .slice b_h m_h d_h] 24
    go_wp2_with first | refine wpList_store_new rfl 24 _ _ rfl atRat _ _ _ rfl rfl rfl rfl (rat_one _ _ _ _ _ _ _) ?_
    generalize (w19.alloc (.cells #[.bool (l).neg, .slice a_h n_h c_h, .slice b_h m_h d_h] 24)) = w20 at *
    have hb := (Below.refl w20.heap.size w20).drew
    have B21 := B20.trans (hb.mono B20.size)
    have h_xn_21 := h_xn_20.below hb
    have h_xd_21 := h_xd_20.below hb
    have h_yn_21 := h_yn_20.below hb
    have h_yd_21 := h_yd_20.below hb
    have h_x_21 := h_x_20.later hb
    have h_y_21 := h_y_20.later hb
    have h_hn_21 := h_hn_20.below hb
    have h_hd_21 := h_hd_20.below hb
    have h_h_21 := h_h_20.later hb
    clear hb B20 h_xn_20 h_xd_20 h_yn_20 h_yd_20 h_x_20 h_y_20 h_hn_20 h_hd_20 h_h_20
    refine wp_region_held_drew (S := (fun w' => w'.cell? ⟨w19.heap.size, 0, none⟩ = some (.bool (l).neg) ∧ w'.cell? ⟨w19.heap.size, 1, none⟩ = some (.slice a_h n_h c_h) ∧ w'.cell? ⟨w19.heap.size, 2, none⟩ = some (.slice b_h m_h d_h) ∧ True)) (by kernel_rfl) ?_ (fun hHeld => ?_)
    · exact ⟨h_h_21.cell 0 _ rfl, h_h_21.cell 1 _ rfl, h_h_21.cell 2 _ rfl, trivial⟩
    generalize w20.drew = w21 at *
    refine wpAnyH_take (i := 0) (oi := ?oir33_0) (v := ?vr33_0) ?hir33_0 (by kernel_rfl) (by kernel_rfl) (by kernel_rfl) ?hqr33_0 ?hyr33_0 (by assumption) ?restr33_0
    case hir33_0 => simp only [List.getElem?_toArray, List.getElem?_cons_succ, List.getElem?_cons_zero]; rfl
    case hqr33_0 => exact fun _ _ _ h => h
    case hyr33_0 => (refine Or.inl ⟨by rfl, ?_⟩; intro w hSw; (try dsimp only at hSw); go_simp; all_goals with_reducible rfl)
    try simp only [Act.put, List.setIfInBounds_toArray, List.set_cons_zero, List.set_cons_succ]
    refine wpAnyH_ready (rs := [1]) (by kernel_rfl) (by simp) ?_
    refine AllReadyH.cons (o := ?or34_1) ?hor34_1 (fun K hK => ?kr34_1) AllReadyH.nil
    case hor34_1 => simp only [List.getElem?_toArray, List.getElem?_cons_succ, List.getElem?_cons_zero]; rfl
    go_simp
    have c := whole_any w21 0 (by decide) (by decide)
    refine c.mono ?_
    rintro e w22 ⟨a_o, n_o, c_o, b_o, m_o, d_o, rfl, h_on_22, h_od_22, hb⟩
    clear c
    have B22 := B21.trans (hb.mono B21.size)
    have h_xn_22 := h_xn_21.below hb
    have h_xd_22 := h_xd_21.below hb
    have h_yn_22 := h_yn_21.below hb
    have h_yd_22 := h_yd_21.below hb
    have h_x_22 := h_x_21.later hb
    have h_y_22 := h_y_21.later hb
    have h_hn_22 := h_hn_21.below hb
    have h_hd_22 := h_hd_21.below hb
    have h_h_22 := h_h_21.later hb
    clear hb B21 h_xn_21 h_xd_21 h_yn_21 h_yd_21 h_x_21 h_y_21 h_hn_21 h_hd_21 h_h_21
    go_wp2_with fail
    clear hHeld
    refine hK.out _ _ ?_ (fun hHeld => ?_)
    · exact ⟨h_h_22.cell 0 _ rfl, h_h_22.cell 1 _ rfl, h_h_22.cell 2 _ rfl, trivial⟩
    clear hK K
    try simp only [Act.put, List.setIfInBounds_toArray, List.set_cons_zero, List.set_cons_succ]
    refine wpAnyH_ready (rs := [2]) (by kernel_rfl) (by simp) ?_
    refine AllReadyH.cons (o := ?or35_2) ?hor35_2 (fun K hK => ?kr35_2) AllReadyH.nil
    case hor35_2 => simp only [List.getElem?_toArray, List.getElem?_cons_succ, List.getElem?_cons_zero]; rfl
    go_simp
    have c := ratCmp_any w22 (g1 := (l).neg) (g2 := ((ofC 0 1).1).neg) h_hn_22 h_hd_22 h_on_22 h_od_22
    rw [show (⟨(l).neg, (l).num, (l).den⟩ : QV) = l from rfl] at c
    rw [show (⟨((ofC 0 1).1).neg, ((ofC 0 1).1).num, ((ofC 0 1).1).den⟩ : QV) = (ofC 0 1).1 from rfl] at c
    rw [F10.out] at c
    refine c.mono ?_
    rintro e w23 ⟨rfl, hb⟩
    clear c
    have B23 := B22.trans (hb.mono B22.size)
    have h_xn_23 := h_xn_22.below hb
    have h_xd_23 := h_xd_22.below hb
    have h_yn_23 := h_yn_22.below hb
    have h_yd_23 := h_yd_22.below hb
    have h_x_23 := h_x_22.later hb
    have h_y_23 := h_y_22.later hb
    have h_hn_23 := h_hn_22.below hb
    have h_hd_23 := h_hd_22.below hb
    have h_h_23 := h_h_22.later hb
    clear hb B22 h_xn_22 h_xd_22 h_yn_22 h_yd_22 h_x_22 h_y_22 h_hn_22 h_hd_22 h_h_22 h_on_22 h_od_22
    go_wp2_with fail
    clear hHeld
    refine hK.out _ _ ?_ (fun hHeld => ?_)
    · exact ⟨h_h_23.cell 0 _ rfl, h_h_23.cell 1 _ rfl, h_h_23.cell 2 _ rfl, trivial⟩
    clear hK K
    try simp only [Act.put, List.setIfInBounds_toArray, List.set_cons_zero, List.set_cons_succ]
    refine wpAnyH_take (i := 3) (oi := ?oir36_3) (v := ?vr36_3) ?hir36_3 (by kernel_rfl) (by kernel_rfl) (by kernel_rfl) ?hqr36_3 ?hyr36_3 (by assumption) ?restr36_3
    case hir36_3 => simp only [List.getElem?_toArray, List.getElem?_cons_succ, List.getElem?_cons_zero]; rfl
    case hqr36_3 => exact fun _ _ _ h => h
    case hyr36_3 => (refine Or.inl ⟨by rfl, ?_⟩; intro w hSw; (try dsimp only at hSw); go_simp; all_goals with_reducible rfl)
    try simp only [Act.put, List.setIfInBounds_toArray, List.set_cons_zero, List.set_cons_succ]
    refine wpAnyH_take (i := 4) (oi := ?oir36_4) (v := ?vr36_4) ?hir36_4 (by kernel_rfl) (by kernel_rfl) (by kernel_rfl) ?hqr36_4 ?hyr36_4 (by assumption) ?restr36_4
    case hir36_4 => simp only [List.getElem?_toArray, List.getElem?_cons_succ, List.getElem?_cons_zero]; rfl
    case hqr36_4 => exact fun _ _ _ h => h
    case hyr36_4 => (refine Or.inl ⟨by rfl, ?_⟩; intro w hSw; (try dsimp only at hSw); go_simp; all_goals with_reducible rfl)
    try simp only [Act.put, List.setIfInBounds_toArray, List.set_cons_zero, List.set_cons_succ]
    refine wpAnyH_take (i := 5) (oi := ?oir36_5) (v := ?vr36_5) ?hir36_5 (by kernel_rfl) (by kernel_rfl) (by kernel_rfl) ?hqr36_5 ?hyr36_5 (by assumption) ?restr36_5
    case hir36_5 => simp only [List.getElem?_toArray, List.getElem?_cons_succ, List.getElem?_cons_zero]; rfl
    case hqr36_5 => exact fun _ _ _ h => h
    case hyr36_5 => (refine Or.inl ⟨by rfl, ?_⟩; intro w hSw; (try dsimp only at hSw); go_simp; all_goals with_reducible rfl)
    try simp only [Act.put, List.setIfInBounds_toArray, List.set_cons_zero, List.set_cons_succ]
    refine wpAnyH_take (i := 6) (oi := ?oir36_6) (v := ?vr36_6) ?hir36_6 (by kernel_rfl) (by kernel_rfl) (by kernel_rfl) ?hqr36_6 ?hyr36_6 (by assumption) ?restr36_6
    case hir36_6 => simp only [List.getElem?_toArray, List.getElem?_cons_succ, List.getElem?_cons_zero]; rfl
    case hqr36_6 => exact fun _ _ _ h => h
    case hyr36_6 => (refine Or.inl ⟨by rfl, ?_⟩; intro w hSw; (try dsimp only at hSw); go_simp; all_goals with_reducible rfl)
    try simp only [Act.put, List.setIfInBounds_toArray, List.set_cons_zero, List.set_cons_succ]
    refine wpAnyH_take (i := 7) (oi := ?oir36_7) (v := ?vr36_7) ?hir36_7 (by kernel_rfl) (by kernel_rfl) (by kernel_rfl) ?hqr36_7 ?hyr36_7 (by assumption) ?restr36_7
    case hir36_7 => simp only [List.getElem?_toArray, List.getElem?_cons_succ, List.getElem?_cons_zero]; rfl
    case hqr36_7 => exact fun _ _ _ h => h
    case hyr36_7 => (refine Or.inl ⟨by rfl, ?_⟩; intro w hSw; (try dsimp only at hSw); go_simp; all_goals with_reducible rfl)
    try simp only [Act.put, List.setIfInBounds_toArray, List.set_cons_zero, List.set_cons_succ]
    refine wpAnyH_done (by kernel_rfl) ?_ _
    clear hHeld
    go_wp2_with fail
    have c := wakes_any w23
    refine c.mono ?_
    rintro e w24 ⟨rfl, hb⟩
    clear c
    have B24 := B23.trans (hb.mono B23.size)
    have h_xn_24 := h_xn_23.below hb
    have h_xd_24 := h_xd_23.below hb
    have h_yn_24 := h_yn_23.below hb
    have h_yd_24 := h_yd_23.below hb
    have h_x_24 := h_x_23.later hb
    have h_y_24 := h_y_23.later hb
    have h_hn_24 := h_hn_23.below hb
    have h_hd_24 := h_hd_23.below hb
    have h_h_24 := h_h_23.later hb
    clear hb B23 h_xn_23 h_xd_23 h_yn_23 h_yd_23 h_x_23 h_y_23 h_hn_23 h_hd_23 h_h_23
    go_wp2_with fail
    go_ret
    exact ⟨rfl, B24⟩
  ·
    go_enter Tryz.func8, Tryz.ntmps8
    have hb := below_al w (.cells #[.bool (x).neg, .slice a_x n_x c_x, .slice b_x m_x d_x] 24)
    have B1 := B0.trans (hb.mono B0.size)
    have h_xn_1 := h_xn_0.below hb
    have h_xd_1 := h_xd_0.below hb
    have h_yn_1 := h_yn_0.below hb
    have h_yd_1 := h_yd_0.below hb
    have h_zn_1 := h_zn_0.below hb
    have h_zd_1 := h_zd_0.below hb
    clear hb B0 h_xn_0 h_xd_0 h_yn_0 h_yd_0 h_zn_0 h_zd_0
    have h_x_1 := Has.new w #[.bool (x).neg, .slice a_x n_x c_x, .slice b_x m_x d_x] 24
    have hb := below_al (w.alloc (.cells #[.bool (x).neg, .slice a_x n_x c_x, .slice b_x m_x d_x] 24)) (.cells #[.bool (y).neg, .slice a_y n_y c_y, .slice b_y m_y d_y] 24)
    have B2 := B1.trans (hb.mono B1.size)
    have h_xn_2 := h_xn_1.below hb
    have h_xd_2 := h_xd_1.below hb
    have h_yn_2 := h_yn_1.below hb
    have h_yd_2 := h_yd_1.below hb
    have h_zn_2 := h_zn_1.below hb
    have h_zd_2 := h_zd_1.below hb
    have h_x_2 := h_x_1.later hb
    clear hb B1 h_xn_1 h_xd_1 h_yn_1 h_yd_1 h_zn_1 h_zd_1 h_x_1
    have h_y_2 := Has.new (w.alloc (.cells #[.bool (x).neg, .slice a_x n_x c_x, .slice b_x m_x d_x] 24)) #[.bool (y).neg, .slice a_y n_y c_y, .slice b_y m_y d_y] 24
    simp only [World.size_alloc] at h_y_2
    have hb := below_al ((w.alloc (.cells #[.bool (x).neg, .slice a_x n_x c_x, .slice b_x m_x d_x] 24)).alloc (.cells #[.bool (y).neg, .slice a_y n_y c_y, .slice b_y m_y d_y] 24)) (.cells #[.bool (z).neg, .slice a_z n_z c_z, .slice b_z m_z d_z] 24)
    have B3 := B2.trans (hb.mono B2.size)
    have h_xn_3 := h_xn_2.below hb
    have h_xd_3 := h_xd_2.below hb
    have h_yn_3 := h_yn_2.below hb
    have h_yd_3 := h_yd_2.below hb
    have h_zn_3 := h_zn_2.below hb
    have h_zd_3 := h_zd_2.below hb
    have h_x_3 := h_x_2.later hb
    have h_y_3 := h_y_2.later hb
    clear hb B2 h_xn_2 h_xd_2 h_yn_2 h_yd_2 h_zn_2 h_zd_2 h_x_2 h_y_2
    have h_z_3 := Has.new ((w.alloc (.cells #[.bool (x).neg, .slice a_x n_x c_x, .slice b_x m_x d_x] 24)).alloc (.cells #[.bool (y).neg, .slice a_y n_y c_y, .slice b_y m_y d_y] 24)) #[.bool (z).neg, .slice a_z n_z c_z, .slice b_z m_z d_z] 24
    simp only [World.size_alloc] at h_z_3
    have k_x_0 := h_x_3.cell 0 _ rfl
    have k_x_1 := h_x_3.cell 1 _ rfl
    have k_x_2 := h_x_3.cell 2 _ rfl
    have k_y_0 := h_y_3.cell 0 _ rfl
    have k_y_1 := h_y_3.cell 1 _ rfl
    have k_y_2 := h_y_3.cell 2 _ rfl
    have k_z_0 := h_z_3.cell 0 _ rfl
    have k_z_1 := h_z_3.cell 1 _ rfl
    have k_z_2 := h_z_3.cell 2 _ rfl
    have hb := below_al (((w.alloc (.cells #[.bool (x).neg, .slice a_x n_x c_x, .slice b_x m_x d_x] 24)).alloc (.cells #[.bool (y).neg, .slice a_y n_y c_y, .slice b_y m_y d_y] 24)).alloc (.cells #[.bool (z).neg, .slice a_z n_z c_z, .slice b_z m_z d_z] 24)) (.cells #[.bool (x).neg, .slice a_x n_x c_x, .slice b_x m_x d_x, .bool (y).neg, .slice a_y n_y c_y, .slice b_y m_y d_y, .bool (z).neg, .slice a_z n_z c_z, .slice b_z m_z d_z] 24)
    have B4 := B3.trans (hb.mono B3.size)
    have h_xn_4 := h_xn_3.below hb
    have h_xd_4 := h_xd_3.below hb
    have h_yn_4 := h_yn_3.below hb
    have h_yd_4 := h_yd_3.below hb
    have h_zn_4 := h_zn_3.below hb
    have h_zd_4 := h_zd_3.below hb
    have h_x_4 := h_x_3.later hb
    have h_y_4 := h_y_3.later hb
    have h_z_4 := h_z_3.later hb
    clear hb B3 h_xn_3 h_xd_3 h_yn_3 h_yd_3 h_zn_3 h_zd_3 h_x_3 h_y_3 h_z_3
    have h_l_4 := Has.new (((w.alloc (.cells #[.bool (x).neg, .slice a_x n_x c_x, .slice b_x m_x d_x] 24)).alloc (.cells #[.bool (y).neg, .slice a_y n_y c_y, .slice b_y m_y d_y] 24)).alloc (.cells #[.bool (z).neg, .slice a_z n_z c_z, .slice b_z m_z d_z] 24)) #[.bool (x).neg, .slice a_x n_x c_x, .slice b_x m_x d_x, .bool (y).neg, .slice a_y n_y c_y, .slice b_y m_y d_y, .bool (z).neg, .slice a_z n_z c_z, .slice b_z m_z d_z] 24
    simp only [World.size_alloc] at h_l_4
    go_wp2_with fail
    clear k_x_0 k_x_1 k_x_2 k_y_0 k_y_1 k_y_2 k_z_0 k_z_1 k_z_2
    generalize ((((w.alloc (.cells #[.bool (x).neg, .slice a_x n_x c_x, .slice b_x m_x d_x] 24)).alloc (.cells #[.bool (y).neg, .slice a_y n_y c_y, .slice b_y m_y d_y] 24)).alloc (.cells #[.bool (z).neg, .slice a_z n_z c_z, .slice b_z m_z d_z] 24)).alloc (.cells #[.bool (x).neg, .slice a_x n_x c_x, .slice b_x m_x d_x, .bool (y).neg, .slice a_y n_y c_y, .slice b_y m_y d_y, .bool (z).neg, .slice a_z n_z c_z, .slice b_z m_z d_z] 24)) = w4 at *
    have c := right3_any w4 (g_x := (x).neg) (g_y := (y).neg) (g_z := (z).neg) h_xn_4 h_xd_4 h_yn_4 h_yd_4 h_zn_4 h_zd_4 h_l_4
    rw [show (⟨(x).neg, (x).num, (x).den⟩ : QV) = x from rfl] at c
    rw [show (⟨(y).neg, (y).num, (y).den⟩ : QV) = y from rfl] at c
    rw [show (⟨(z).neg, (z).num, (z).den⟩ : QV) = z from rfl] at c
    rw [RT.out] at c
    refine c.mono ?_
    rintro e w5 ⟨rfl, hb⟩
    clear c
    have B5 := B4.trans (hb.mono B4.size)
    have h_xn_5 := h_xn_4.below hb
    have h_xd_5 := h_xd_4.below hb
    have h_yn_5 := h_yn_4.below hb
    have h_yd_5 := h_yd_4.below hb
    have h_zn_5 := h_zn_4.below hb
    have h_zd_5 := h_zd_4.below hb
    have h_x_5 := h_x_4.later hb
    have h_y_5 := h_y_4.later hb
    have h_z_5 := h_z_4.later hb
    clear hb B4 h_xn_4 h_xd_4 h_yn_4 h_yd_4 h_zn_4 h_zd_4 h_x_4 h_y_4 h_z_4 h_l_4
    have k_x_0 := h_x_5.cell 0 _ rfl
    have k_x_1 := h_x_5.cell 1 _ rfl
    have k_x_2 := h_x_5.cell 2 _ rfl
    have k_y_0 := h_y_5.cell 0 _ rfl
    have k_y_1 := h_y_5.cell 1 _ rfl
    have k_y_2 := h_y_5.cell 2 _ rfl
    go_wp2_with fail
    clear k_x_0 k_x_1 k_x_2 k_y_0 k_y_1 k_y_2
    have c := ratCmp_any w5 (g1 := (x).neg) (g2 := (y).neg) h_xn_5 h_xd_5 h_yn_5 h_yd_5
    rw [show (⟨(x).neg, (x).num, (x).den⟩ : QV) = x from rfl] at c
    rw [show (⟨(y).neg, (y).num, (y).den⟩ : QV) = y from rfl] at c
    rw [F0.out] at c
    refine c.mono ?_
    rintro e w6 ⟨rfl, hb⟩
    clear c
    have B6 := B5.trans (hb.mono B5.size)
    have h_xn_6 := h_xn_5.below hb
    have h_xd_6 := h_xd_5.below hb
    have h_yn_6 := h_yn_5.below hb
    have h_yd_6 := h_yd_5.below hb
    have h_zn_6 := h_zn_5.below hb
    have h_zd_6 := h_zd_5.below hb
    have h_x_6 := h_x_5.later hb
    have h_y_6 := h_y_5.later hb
    have h_z_6 := h_z_5.later hb
    clear hb B5 h_xn_5 h_xd_5 h_yn_5 h_yd_5 h_zn_5 h_zd_5 h_x_5 h_y_5 h_z_5
    have k_y_0 := h_y_6.cell 0 _ rfl
    have k_y_1 := h_y_6.cell 1 _ rfl
    have k_y_2 := h_y_6.cell 2 _ rfl
    have k_x_0 := h_x_6.cell 0 _ rfl
    have k_x_1 := h_x_6.cell 1 _ rfl
    have k_x_2 := h_x_6.cell 2 _ rfl
    go_wp2_with fail
    clear k_y_0 k_y_1 k_y_2 k_x_0 k_x_1 k_x_2
    have c := ratCmp_any w6 (g1 := (y).neg) (g2 := (x).neg) h_yn_6 h_yd_6 h_xn_6 h_xd_6
    rw [show (⟨(y).neg, (y).num, (y).den⟩ : QV) = y from rfl] at c
    rw [show (⟨(x).neg, (x).num, (x).den⟩ : QV) = x from rfl] at c
    rw [F1.out] at c
    refine c.mono ?_
    rintro e w7 ⟨rfl, hb⟩
    clear c
    have B7 := B6.trans (hb.mono B6.size)
    have h_xn_7 := h_xn_6.below hb
    have h_xd_7 := h_xd_6.below hb
    have h_yn_7 := h_yn_6.below hb
    have h_yd_7 := h_yd_6.below hb
    have h_zn_7 := h_zn_6.below hb
    have h_zd_7 := h_zd_6.below hb
    have h_x_7 := h_x_6.later hb
    have h_y_7 := h_y_6.later hb
    have h_z_7 := h_z_6.later hb
    clear hb B6 h_xn_6 h_xd_6 h_yn_6 h_yd_6 h_zn_6 h_zd_6 h_x_6 h_y_6 h_z_6
    have k_x_0 := h_x_7.cell 0 _ rfl
    have k_x_1 := h_x_7.cell 1 _ rfl
    have k_x_2 := h_x_7.cell 2 _ rfl
    have k_z_0 := h_z_7.cell 0 _ rfl
    have k_z_1 := h_z_7.cell 1 _ rfl
    have k_z_2 := h_z_7.cell 2 _ rfl
    go_wp2_with fail
    clear k_x_0 k_x_1 k_x_2 k_z_0 k_z_1 k_z_2
    have c := ratAdd_any w7 (g1 := (x).neg) (g2 := (z).neg) h_xn_7 h_xd_7 h_zn_7 h_zd_7
    rw [show (⟨(x).neg, (x).num, (x).den⟩ : QV) = x from rfl] at c
    rw [show (⟨(z).neg, (z).num, (z).den⟩ : QV) = z from rfl] at c
    rw [F2.out] at c
    refine c.mono ?_
    rintro e w8 ⟨a_e, n_e, c_e, b_e, m_e, d_e, rfl, h_en_8, h_ed_8, hb⟩
    clear c
    have B8 := B7.trans (hb.mono B7.size)
    have h_xn_8 := h_xn_7.below hb
    have h_xd_8 := h_xd_7.below hb
    have h_yn_8 := h_yn_7.below hb
    have h_yd_8 := h_yd_7.below hb
    have h_zn_8 := h_zn_7.below hb
    have h_zd_8 := h_zd_7.below hb
    have h_x_8 := h_x_7.later hb
    have h_y_8 := h_y_7.later hb
    have h_z_8 := h_z_7.later hb
    clear hb B7 h_xn_7 h_xd_7 h_yn_7 h_yd_7 h_zn_7 h_zd_7 h_x_7 h_y_7 h_z_7
    have hb := below_al w8 (.cells #[.bool (s).neg, .slice a_e n_e c_e, .slice b_e m_e d_e] 24)
    have B9 := B8.trans (hb.mono B8.size)
    have h_xn_9 := h_xn_8.below hb
    have h_xd_9 := h_xd_8.below hb
    have h_yn_9 := h_yn_8.below hb
    have h_yd_9 := h_yd_8.below hb
    have h_zn_9 := h_zn_8.below hb
    have h_zd_9 := h_zd_8.below hb
    have h_x_9 := h_x_8.later hb
    have h_y_9 := h_y_8.later hb
    have h_z_9 := h_z_8.later hb
    have h_en_9 := h_en_8.below hb
    have h_ed_9 := h_ed_8.below hb
    clear hb B8 h_xn_8 h_xd_8 h_yn_8 h_yd_8 h_zn_8 h_zd_8 h_x_8 h_y_8 h_z_8 h_en_8 h_ed_8
    have h_e_9 := Has.new w8 #[.bool (s).neg, .slice a_e n_e c_e, .slice b_e m_e d_e] 24
    have k_y_0 := h_y_9.cell 0 _ rfl
    have k_y_1 := h_y_9.cell 1 _ rfl
    have k_y_2 := h_y_9.cell 2 _ rfl
    have k_z_0 := h_z_9.cell 0 _ rfl
    have k_z_1 := h_z_9.cell 1 _ rfl
    have k_z_2 := h_z_9.cell 2 _ rfl
    go_wp2_with first | refine wpList_store_new rfl 24 _ _ rfl atRat _ _ _ rfl rfl rfl rfl (rat_one _ _ _ _ _ _ _) ?_
    clear k_y_0 k_y_1 k_y_2 k_z_0 k_z_1 k_z_2
    generalize (w8.alloc (.cells #[.bool (s).neg, .slice a_e n_e c_e, .slice b_e m_e d_e] 24)) = w9 at *
    have c := ratAdd_any w9 (g1 := (y).neg) (g2 := (z).neg) h_yn_9 h_yd_9 h_zn_9 h_zd_9
    rw [show (⟨(y).neg, (y).num, (y).den⟩ : QV) = y from rfl] at c
    rw [show (⟨(z).neg, (z).num, (z).den⟩ : QV) = z from rfl] at c
    rw [F3.out] at c
    refine c.mono ?_
    rintro e w10 ⟨a_f, n_f, c_f, b_f, m_f, d_f, rfl, h_fn_10, h_fd_10, hb⟩
    clear c
    have B10 := B9.trans (hb.mono B9.size)
    have h_xn_10 := h_xn_9.below hb
    have h_xd_10 := h_xd_9.below hb
    have h_yn_10 := h_yn_9.below hb
    have h_yd_10 := h_yd_9.below hb
    have h_zn_10 := h_zn_9.below hb
    have h_zd_10 := h_zd_9.below hb
    have h_x_10 := h_x_9.later hb
    have h_y_10 := h_y_9.later hb
    have h_z_10 := h_z_9.later hb
    have h_en_10 := h_en_9.below hb
    have h_ed_10 := h_ed_9.below hb
    have h_e_10 := h_e_9.later hb
    clear hb B9 h_xn_9 h_xd_9 h_yn_9 h_yd_9 h_zn_9 h_zd_9 h_x_9 h_y_9 h_z_9 h_en_9 h_ed_9 h_e_9
    have hb := below_al w10 (.cells #[.bool (t).neg, .slice a_f n_f c_f, .slice b_f m_f d_f] 24)
    have B11 := B10.trans (hb.mono B10.size)
    have h_xn_11 := h_xn_10.below hb
    have h_xd_11 := h_xd_10.below hb
    have h_yn_11 := h_yn_10.below hb
    have h_yd_11 := h_yd_10.below hb
    have h_zn_11 := h_zn_10.below hb
    have h_zd_11 := h_zd_10.below hb
    have h_x_11 := h_x_10.later hb
    have h_y_11 := h_y_10.later hb
    have h_z_11 := h_z_10.later hb
    have h_en_11 := h_en_10.below hb
    have h_ed_11 := h_ed_10.below hb
    have h_e_11 := h_e_10.later hb
    have h_fn_11 := h_fn_10.below hb
    have h_fd_11 := h_fd_10.below hb
    clear hb B10 h_xn_10 h_xd_10 h_yn_10 h_yd_10 h_zn_10 h_zd_10 h_x_10 h_y_10 h_z_10 h_en_10 h_ed_10 h_e_10 h_fn_10 h_fd_10
    have h_f_11 := Has.new w10 #[.bool (t).neg, .slice a_f n_f c_f, .slice b_f m_f d_f] 24
    have k_e_0 := h_e_11.cell 0 _ rfl
    have k_e_1 := h_e_11.cell 1 _ rfl
    have k_e_2 := h_e_11.cell 2 _ rfl
    have k_f_0 := h_f_11.cell 0 _ rfl
    have k_f_1 := h_f_11.cell 1 _ rfl
    have k_f_2 := h_f_11.cell 2 _ rfl
    go_wp2_with first | refine wpList_store_new rfl 24 _ _ rfl atRat _ _ _ rfl rfl rfl rfl (rat_one _ _ _ _ _ _ _) ?_
    clear k_e_0 k_e_1 k_e_2 k_f_0 k_f_1 k_f_2
    generalize (w10.alloc (.cells #[.bool (t).neg, .slice a_f n_f c_f, .slice b_f m_f d_f] 24)) = w11 at *
    have c := ratCmp_any w11 (g1 := (s).neg) (g2 := (t).neg) h_en_11 h_ed_11 h_fn_11 h_fd_11
    rw [show (⟨(s).neg, (s).num, (s).den⟩ : QV) = s from rfl] at c
    rw [show (⟨(t).neg, (t).num, (t).den⟩ : QV) = t from rfl] at c
    rw [F4.out] at c
    refine c.mono ?_
    rintro e w12 ⟨rfl, hb⟩
    clear c
    have B12 := B11.trans (hb.mono B11.size)
    have h_xn_12 := h_xn_11.below hb
    have h_xd_12 := h_xd_11.below hb
    have h_yn_12 := h_yn_11.below hb
    have h_yd_12 := h_yd_11.below hb
    have h_zn_12 := h_zn_11.below hb
    have h_zd_12 := h_zd_11.below hb
    have h_x_12 := h_x_11.later hb
    have h_y_12 := h_y_11.later hb
    have h_z_12 := h_z_11.later hb
    have h_en_12 := h_en_11.below hb
    have h_ed_12 := h_ed_11.below hb
    have h_e_12 := h_e_11.later hb
    have h_fn_12 := h_fn_11.below hb
    have h_fd_12 := h_fd_11.below hb
    have h_f_12 := h_f_11.later hb
    clear hb B11 h_xn_11 h_xd_11 h_yn_11 h_yd_11 h_zn_11 h_zd_11 h_x_11 h_y_11 h_z_11 h_en_11 h_ed_11 h_e_11 h_fn_11 h_fd_11 h_f_11
    clear h_e_12 h_en_12 h_ed_12 h_f_12 h_fn_12 h_fd_12 h_z_12 h_zn_12 h_zd_12
    have k_x_0 := h_x_12.cell 0 _ rfl
    have k_x_1 := h_x_12.cell 1 _ rfl
    have k_x_2 := h_x_12.cell 2 _ rfl
    have k_y_0 := h_y_12.cell 0 _ rfl
    have k_y_1 := h_y_12.cell 1 _ rfl
    have k_y_2 := h_y_12.cell 2 _ rfl
    go_wp2_with fail
    clear k_x_0 k_x_1 k_x_2 k_y_0 k_y_1 k_y_2
    have c := ratSame_any w12 (g1 := (x).neg) (g2 := (y).neg) h_xn_12 h_xd_12 h_yn_12 h_yd_12
    rw [show (⟨(x).neg, (x).num, (x).den⟩ : QV) = x from rfl] at c
    rw [show (⟨(y).neg, (y).num, (y).den⟩ : QV) = y from rfl] at c
    rw [F5.out] at c
    refine c.mono ?_
    rintro e w13 ⟨rfl, hb⟩
    clear c
    have B13 := B12.trans (hb.mono B12.size)
    have h_xn_13 := h_xn_12.below hb
    have h_xd_13 := h_xd_12.below hb
    have h_yn_13 := h_yn_12.below hb
    have h_yd_13 := h_yd_12.below hb
    have h_x_13 := h_x_12.later hb
    have h_y_13 := h_y_12.later hb
    clear hb B12 h_xn_12 h_xd_12 h_yn_12 h_yd_12 h_x_12 h_y_12
    have k_x_0 := h_x_13.cell 0 _ rfl
    have k_x_1 := h_x_13.cell 1 _ rfl
    have k_x_2 := h_x_13.cell 2 _ rfl
    go_wp2_with fail
    clear k_x_0 k_x_1 k_x_2
    have c := ratNeg_any w13 (g := (x).neg) h_xn_13 h_xd_13
    rw [show (⟨(x).neg, (x).num, (x).den⟩ : QV) = x from rfl] at c
    rw [F6.out] at c
    refine c.mono ?_
    rintro e w14 ⟨a_e, n_e, c_e, b_e, m_e, d_e, rfl, h_en_14, h_ed_14, hb⟩
    clear c
    have B14 := B13.trans (hb.mono B13.size)
    have h_xn_14 := h_xn_13.below hb
    have h_xd_14 := h_xd_13.below hb
    have h_yn_14 := h_yn_13.below hb
    have h_yd_14 := h_yd_13.below hb
    have h_x_14 := h_x_13.later hb
    have h_y_14 := h_y_13.later hb
    clear hb B13 h_xn_13 h_xd_13 h_yn_13 h_yd_13 h_x_13 h_y_13
    have hb := below_al w14 (.cells #[.bool (a).neg, .slice a_e n_e c_e, .slice b_e m_e d_e] 24)
    have B15 := B14.trans (hb.mono B14.size)
    have h_xn_15 := h_xn_14.below hb
    have h_xd_15 := h_xd_14.below hb
    have h_yn_15 := h_yn_14.below hb
    have h_yd_15 := h_yd_14.below hb
    have h_x_15 := h_x_14.later hb
    have h_y_15 := h_y_14.later hb
    have h_en_15 := h_en_14.below hb
    have h_ed_15 := h_ed_14.below hb
    clear hb B14 h_xn_14 h_xd_14 h_yn_14 h_yd_14 h_x_14 h_y_14 h_en_14 h_ed_14
    have h_e_15 := Has.new w14 #[.bool (a).neg, .slice a_e n_e c_e, .slice b_e m_e d_e] 24
    have k_y_0 := h_y_15.cell 0 _ rfl
    have k_y_1 := h_y_15.cell 1 _ rfl
    have k_y_2 := h_y_15.cell 2 _ rfl
    go_wp2_with first | refine wpList_store_new rfl 24 _ _ rfl atRat _ _ _ rfl rfl rfl rfl (rat_one _ _ _ _ _ _ _) ?_
    clear k_y_0 k_y_1 k_y_2
    generalize (w14.alloc (.cells #[.bool (a).neg, .slice a_e n_e c_e, .slice b_e m_e d_e] 24)) = w15 at *
    have c := ratNeg_any w15 (g := (y).neg) h_yn_15 h_yd_15
    rw [show (⟨(y).neg, (y).num, (y).den⟩ : QV) = y from rfl] at c
    rw [F7.out] at c
    refine c.mono ?_
    rintro e w16 ⟨a_f, n_f, c_f, b_f, m_f, d_f, rfl, h_fn_16, h_fd_16, hb⟩
    clear c
    have B16 := B15.trans (hb.mono B15.size)
    have h_xn_16 := h_xn_15.below hb
    have h_xd_16 := h_xd_15.below hb
    have h_yn_16 := h_yn_15.below hb
    have h_yd_16 := h_yd_15.below hb
    have h_x_16 := h_x_15.later hb
    have h_y_16 := h_y_15.later hb
    have h_en_16 := h_en_15.below hb
    have h_ed_16 := h_ed_15.below hb
    have h_e_16 := h_e_15.later hb
    clear hb B15 h_xn_15 h_xd_15 h_yn_15 h_yd_15 h_x_15 h_y_15 h_en_15 h_ed_15 h_e_15
    have hb := below_al w16 (.cells #[.bool (b).neg, .slice a_f n_f c_f, .slice b_f m_f d_f] 24)
    have B17 := B16.trans (hb.mono B16.size)
    have h_xn_17 := h_xn_16.below hb
    have h_xd_17 := h_xd_16.below hb
    have h_yn_17 := h_yn_16.below hb
    have h_yd_17 := h_yd_16.below hb
    have h_x_17 := h_x_16.later hb
    have h_y_17 := h_y_16.later hb
    have h_en_17 := h_en_16.below hb
    have h_ed_17 := h_ed_16.below hb
    have h_e_17 := h_e_16.later hb
    have h_fn_17 := h_fn_16.below hb
    have h_fd_17 := h_fd_16.below hb
    clear hb B16 h_xn_16 h_xd_16 h_yn_16 h_yd_16 h_x_16 h_y_16 h_en_16 h_ed_16 h_e_16 h_fn_16 h_fd_16
    have h_f_17 := Has.new w16 #[.bool (b).neg, .slice a_f n_f c_f, .slice b_f m_f d_f] 24
    have k_e_0 := h_e_17.cell 0 _ rfl
    have k_e_1 := h_e_17.cell 1 _ rfl
    have k_e_2 := h_e_17.cell 2 _ rfl
    have k_f_0 := h_f_17.cell 0 _ rfl
    have k_f_1 := h_f_17.cell 1 _ rfl
    have k_f_2 := h_f_17.cell 2 _ rfl
    go_wp2_with first | refine wpList_store_new rfl 24 _ _ rfl atRat _ _ _ rfl rfl rfl rfl (rat_one _ _ _ _ _ _ _) ?_
    clear k_e_0 k_e_1 k_e_2 k_f_0 k_f_1 k_f_2
    generalize (w16.alloc (.cells #[.bool (b).neg, .slice a_f n_f c_f, .slice b_f m_f d_f] 24)) = w17 at *
    have c := ratCmp_any w17 (g1 := (a).neg) (g2 := (b).neg) h_en_17 h_ed_17 h_fn_17 h_fd_17
    rw [show (⟨(a).neg, (a).num, (a).den⟩ : QV) = a from rfl] at c
    rw [show (⟨(b).neg, (b).num, (b).den⟩ : QV) = b from rfl] at c
    rw [F8.out] at c
    refine c.mono ?_
    rintro e w18 ⟨rfl, hb⟩
    clear c
    have B18 := B17.trans (hb.mono B17.size)
    have h_xn_18 := h_xn_17.below hb
    have h_xd_18 := h_xd_17.below hb
    have h_yn_18 := h_yn_17.below hb
    have h_yd_18 := h_yd_17.below hb
    have h_x_18 := h_x_17.later hb
    have h_y_18 := h_y_17.later hb
    have h_en_18 := h_en_17.below hb
    have h_ed_18 := h_ed_17.below hb
    have h_e_18 := h_e_17.later hb
    have h_fn_18 := h_fn_17.below hb
    have h_fd_18 := h_fd_17.below hb
    have h_f_18 := h_f_17.later hb
    clear hb B17 h_xn_17 h_xd_17 h_yn_17 h_yd_17 h_x_17 h_y_17 h_en_17 h_ed_17 h_e_17 h_fn_17 h_fd_17 h_f_17
    clear h_e_18 h_en_18 h_ed_18 h_f_18 h_fn_18 h_fd_18
    have k_x_0 := h_x_18.cell 0 _ rfl
    have k_x_1 := h_x_18.cell 1 _ rfl
    have k_x_2 := h_x_18.cell 2 _ rfl
    have k_y_0 := h_y_18.cell 0 _ rfl
    have k_y_1 := h_y_18.cell 1 _ rfl
    have k_y_2 := h_y_18.cell 2 _ rfl
    go_wp2_with fail
    clear k_x_0 k_x_1 k_x_2 k_y_0 k_y_1 k_y_2
    have c := ratSub_any w18 (g1 := (x).neg) (g2 := (y).neg) h_xn_18 h_xd_18 h_yn_18 h_yd_18
    rw [show (⟨(x).neg, (x).num, (x).den⟩ : QV) = x from rfl] at c
    rw [show (⟨(y).neg, (y).num, (y).den⟩ : QV) = y from rfl] at c
    rw [F9.out] at c
    refine c.mono ?_
    rintro e w19 ⟨a_h, n_h, c_h, b_h, m_h, d_h, rfl, h_hn_19, h_hd_19, hb⟩
    clear c
    have B19 := B18.trans (hb.mono B18.size)
    have h_xn_19 := h_xn_18.below hb
    have h_xd_19 := h_xd_18.below hb
    have h_yn_19 := h_yn_18.below hb
    have h_yd_19 := h_yd_18.below hb
    have h_x_19 := h_x_18.later hb
    have h_y_19 := h_y_18.later hb
    clear hb B18 h_xn_18 h_xd_18 h_yn_18 h_yd_18 h_x_18 h_y_18
    have hb := below_al w19 (.cells #[.bool (l).neg, .slice a_h n_h c_h, .slice b_h m_h d_h] 24)
    have B20 := B19.trans (hb.mono B19.size)
    have h_xn_20 := h_xn_19.below hb
    have h_xd_20 := h_xd_19.below hb
    have h_yn_20 := h_yn_19.below hb
    have h_yd_20 := h_yd_19.below hb
    have h_x_20 := h_x_19.later hb
    have h_y_20 := h_y_19.later hb
    have h_hn_20 := h_hn_19.below hb
    have h_hd_20 := h_hd_19.below hb
    clear hb B19 h_xn_19 h_xd_19 h_yn_19 h_yd_19 h_x_19 h_y_19 h_hn_19 h_hd_19
    have h_h_20 := Has.new w19 #[.bool (l).neg, .slice a_h n_h c_h, .slice b_h m_h d_h] 24
    go_wp2_with first | refine wpList_store_new rfl 24 _ _ rfl atRat _ _ _ rfl rfl rfl rfl (rat_one _ _ _ _ _ _ _) ?_
    generalize (w19.alloc (.cells #[.bool (l).neg, .slice a_h n_h c_h, .slice b_h m_h d_h] 24)) = w20 at *
    have hb := (Below.refl w20.heap.size w20).drew
    have B21 := B20.trans (hb.mono B20.size)
    have h_xn_21 := h_xn_20.below hb
    have h_xd_21 := h_xd_20.below hb
    have h_yn_21 := h_yn_20.below hb
    have h_yd_21 := h_yd_20.below hb
    have h_x_21 := h_x_20.later hb
    have h_y_21 := h_y_20.later hb
    have h_hn_21 := h_hn_20.below hb
    have h_hd_21 := h_hd_20.below hb
    have h_h_21 := h_h_20.later hb
    clear hb B20 h_xn_20 h_xd_20 h_yn_20 h_yd_20 h_x_20 h_y_20 h_hn_20 h_hd_20 h_h_20
    refine wp_region_held_drew (S := (fun w' => w'.cell? ⟨w19.heap.size, 0, none⟩ = some (.bool (l).neg) ∧ w'.cell? ⟨w19.heap.size, 1, none⟩ = some (.slice a_h n_h c_h) ∧ w'.cell? ⟨w19.heap.size, 2, none⟩ = some (.slice b_h m_h d_h) ∧ True)) (by kernel_rfl) ?_ (fun hHeld => ?_)
    · exact ⟨h_h_21.cell 0 _ rfl, h_h_21.cell 1 _ rfl, h_h_21.cell 2 _ rfl, trivial⟩
    generalize w20.drew = w21 at *
    refine wpAnyH_take (i := 0) (oi := ?oir37_0) (v := ?vr37_0) ?hir37_0 (by kernel_rfl) (by kernel_rfl) (by kernel_rfl) ?hqr37_0 ?hyr37_0 (by assumption) ?restr37_0
    case hir37_0 => simp only [List.getElem?_toArray, List.getElem?_cons_succ, List.getElem?_cons_zero]; rfl
    case hqr37_0 => exact fun _ _ _ h => h
    case hyr37_0 => (refine Or.inl ⟨by rfl, ?_⟩; intro w hSw; (try dsimp only at hSw); go_simp; all_goals with_reducible rfl)
    try simp only [Act.put, List.setIfInBounds_toArray, List.set_cons_zero, List.set_cons_succ]
    refine wpAnyH_ready (rs := [1]) (by kernel_rfl) (by simp) ?_
    refine AllReadyH.cons (o := ?or38_1) ?hor38_1 (fun K hK => ?kr38_1) AllReadyH.nil
    case hor38_1 => simp only [List.getElem?_toArray, List.getElem?_cons_succ, List.getElem?_cons_zero]; rfl
    go_simp
    have c := whole_any w21 0 (by decide) (by decide)
    refine c.mono ?_
    rintro e w22 ⟨a_o, n_o, c_o, b_o, m_o, d_o, rfl, h_on_22, h_od_22, hb⟩
    clear c
    have B22 := B21.trans (hb.mono B21.size)
    have h_xn_22 := h_xn_21.below hb
    have h_xd_22 := h_xd_21.below hb
    have h_yn_22 := h_yn_21.below hb
    have h_yd_22 := h_yd_21.below hb
    have h_x_22 := h_x_21.later hb
    have h_y_22 := h_y_21.later hb
    have h_hn_22 := h_hn_21.below hb
    have h_hd_22 := h_hd_21.below hb
    have h_h_22 := h_h_21.later hb
    clear hb B21 h_xn_21 h_xd_21 h_yn_21 h_yd_21 h_x_21 h_y_21 h_hn_21 h_hd_21 h_h_21
    go_wp2_with fail
    clear hHeld
    refine hK.out _ _ ?_ (fun hHeld => ?_)
    · exact ⟨h_h_22.cell 0 _ rfl, h_h_22.cell 1 _ rfl, h_h_22.cell 2 _ rfl, trivial⟩
    clear hK K
    try simp only [Act.put, List.setIfInBounds_toArray, List.set_cons_zero, List.set_cons_succ]
    refine wpAnyH_ready (rs := [2]) (by kernel_rfl) (by simp) ?_
    refine AllReadyH.cons (o := ?or39_2) ?hor39_2 (fun K hK => ?kr39_2) AllReadyH.nil
    case hor39_2 => simp only [List.getElem?_toArray, List.getElem?_cons_succ, List.getElem?_cons_zero]; rfl
    go_simp
    have c := ratCmp_any w22 (g1 := (l).neg) (g2 := ((ofC 0 1).1).neg) h_hn_22 h_hd_22 h_on_22 h_od_22
    rw [show (⟨(l).neg, (l).num, (l).den⟩ : QV) = l from rfl] at c
    rw [show (⟨((ofC 0 1).1).neg, ((ofC 0 1).1).num, ((ofC 0 1).1).den⟩ : QV) = (ofC 0 1).1 from rfl] at c
    rw [F10.out] at c
    refine c.mono ?_
    rintro e w23 ⟨rfl, hb⟩
    clear c
    have B23 := B22.trans (hb.mono B22.size)
    have h_xn_23 := h_xn_22.below hb
    have h_xd_23 := h_xd_22.below hb
    have h_yn_23 := h_yn_22.below hb
    have h_yd_23 := h_yd_22.below hb
    have h_x_23 := h_x_22.later hb
    have h_y_23 := h_y_22.later hb
    have h_hn_23 := h_hn_22.below hb
    have h_hd_23 := h_hd_22.below hb
    have h_h_23 := h_h_22.later hb
    clear hb B22 h_xn_22 h_xd_22 h_yn_22 h_yd_22 h_x_22 h_y_22 h_hn_22 h_hd_22 h_h_22 h_on_22 h_od_22
    go_wp2_with fail
    clear hHeld
    refine hK.out _ _ ?_ (fun hHeld => ?_)
    · exact ⟨h_h_23.cell 0 _ rfl, h_h_23.cell 1 _ rfl, h_h_23.cell 2 _ rfl, trivial⟩
    clear hK K
    try simp only [Act.put, List.setIfInBounds_toArray, List.set_cons_zero, List.set_cons_succ]
    refine wpAnyH_take (i := 3) (oi := ?oir40_3) (v := ?vr40_3) ?hir40_3 (by kernel_rfl) (by kernel_rfl) (by kernel_rfl) ?hqr40_3 ?hyr40_3 (by assumption) ?restr40_3
    case hir40_3 => simp only [List.getElem?_toArray, List.getElem?_cons_succ, List.getElem?_cons_zero]; rfl
    case hqr40_3 => exact fun _ _ _ h => h
    case hyr40_3 => (refine Or.inl ⟨by rfl, ?_⟩; intro w hSw; (try dsimp only at hSw); go_simp; all_goals with_reducible rfl)
    try simp only [Act.put, List.setIfInBounds_toArray, List.set_cons_zero, List.set_cons_succ]
    refine wpAnyH_take (i := 4) (oi := ?oir40_4) (v := ?vr40_4) ?hir40_4 (by kernel_rfl) (by kernel_rfl) (by kernel_rfl) ?hqr40_4 ?hyr40_4 (by assumption) ?restr40_4
    case hir40_4 => simp only [List.getElem?_toArray, List.getElem?_cons_succ, List.getElem?_cons_zero]; rfl
    case hqr40_4 => exact fun _ _ _ h => h
    case hyr40_4 => (refine Or.inl ⟨by rfl, ?_⟩; intro w hSw; (try dsimp only at hSw); go_simp; all_goals with_reducible rfl)
    try simp only [Act.put, List.setIfInBounds_toArray, List.set_cons_zero, List.set_cons_succ]
    refine wpAnyH_take (i := 5) (oi := ?oir40_5) (v := ?vr40_5) ?hir40_5 (by kernel_rfl) (by kernel_rfl) (by kernel_rfl) ?hqr40_5 ?hyr40_5 (by assumption) ?restr40_5
    case hir40_5 => simp only [List.getElem?_toArray, List.getElem?_cons_succ, List.getElem?_cons_zero]; rfl
    case hqr40_5 => exact fun _ _ _ h => h
    case hyr40_5 => (refine Or.inl ⟨by rfl, ?_⟩; intro w hSw; (try dsimp only at hSw); go_simp; all_goals with_reducible rfl)
    try simp only [Act.put, List.setIfInBounds_toArray, List.set_cons_zero, List.set_cons_succ]
    refine wpAnyH_take (i := 6) (oi := ?oir40_6) (v := ?vr40_6) ?hir40_6 (by kernel_rfl) (by kernel_rfl) (by kernel_rfl) ?hqr40_6 ?hyr40_6 (by assumption) ?restr40_6
    case hir40_6 => simp only [List.getElem?_toArray, List.getElem?_cons_succ, List.getElem?_cons_zero]; rfl
    case hqr40_6 => exact fun _ _ _ h => h
    case hyr40_6 => (refine Or.inl ⟨by rfl, ?_⟩; intro w hSw; (try dsimp only at hSw); go_simp; all_goals with_reducible rfl)
    try simp only [Act.put, List.setIfInBounds_toArray, List.set_cons_zero, List.set_cons_succ]
    refine wpAnyH_take (i := 7) (oi := ?oir40_7) (v := ?vr40_7) ?hir40_7 (by kernel_rfl) (by kernel_rfl) (by kernel_rfl) ?hqr40_7 ?hyr40_7 (by assumption) ?restr40_7
    case hir40_7 => simp only [List.getElem?_toArray, List.getElem?_cons_succ, List.getElem?_cons_zero]; rfl
    case hqr40_7 => exact fun _ _ _ h => h
    case hyr40_7 => (refine Or.inl ⟨by rfl, ?_⟩; intro w hSw; (try dsimp only at hSw); go_simp; all_goals with_reducible rfl)
    try simp only [Act.put, List.setIfInBounds_toArray, List.set_cons_zero, List.set_cons_succ]
    refine wpAnyH_done (by kernel_rfl) ?_ _
    clear hHeld
    go_wp2_with fail
    have c := wakes_any w23
    refine c.mono ?_
    rintro e w24 ⟨rfl, hb⟩
    clear c
    have B24 := B23.trans (hb.mono B23.size)
    have h_xn_24 := h_xn_23.below hb
    have h_xd_24 := h_xd_23.below hb
    have h_yn_24 := h_yn_23.below hb
    have h_yd_24 := h_yd_23.below hb
    have h_x_24 := h_x_23.later hb
    have h_y_24 := h_y_23.later hb
    have h_hn_24 := h_hn_23.below hb
    have h_hd_24 := h_hd_23.below hb
    have h_h_24 := h_h_23.later hb
    clear hb B23 h_xn_23 h_xd_23 h_yn_23 h_yd_23 h_x_23 h_y_23 h_hn_23 h_hd_23 h_h_23
    go_wp2_with fail
    go_ret
    exact ⟨rfl, B24⟩
  ·
    go_enter Tryz.func8, Tryz.ntmps8
    have hb := below_al w (.cells #[.bool (x).neg, .slice a_x n_x c_x, .slice b_x m_x d_x] 24)
    have B1 := B0.trans (hb.mono B0.size)
    have h_xn_1 := h_xn_0.below hb
    have h_xd_1 := h_xd_0.below hb
    have h_yn_1 := h_yn_0.below hb
    have h_yd_1 := h_yd_0.below hb
    have h_zn_1 := h_zn_0.below hb
    have h_zd_1 := h_zd_0.below hb
    clear hb B0 h_xn_0 h_xd_0 h_yn_0 h_yd_0 h_zn_0 h_zd_0
    have h_x_1 := Has.new w #[.bool (x).neg, .slice a_x n_x c_x, .slice b_x m_x d_x] 24
    have hb := below_al (w.alloc (.cells #[.bool (x).neg, .slice a_x n_x c_x, .slice b_x m_x d_x] 24)) (.cells #[.bool (y).neg, .slice a_y n_y c_y, .slice b_y m_y d_y] 24)
    have B2 := B1.trans (hb.mono B1.size)
    have h_xn_2 := h_xn_1.below hb
    have h_xd_2 := h_xd_1.below hb
    have h_yn_2 := h_yn_1.below hb
    have h_yd_2 := h_yd_1.below hb
    have h_zn_2 := h_zn_1.below hb
    have h_zd_2 := h_zd_1.below hb
    have h_x_2 := h_x_1.later hb
    clear hb B1 h_xn_1 h_xd_1 h_yn_1 h_yd_1 h_zn_1 h_zd_1 h_x_1
    have h_y_2 := Has.new (w.alloc (.cells #[.bool (x).neg, .slice a_x n_x c_x, .slice b_x m_x d_x] 24)) #[.bool (y).neg, .slice a_y n_y c_y, .slice b_y m_y d_y] 24
    simp only [World.size_alloc] at h_y_2
    have hb := below_al ((w.alloc (.cells #[.bool (x).neg, .slice a_x n_x c_x, .slice b_x m_x d_x] 24)).alloc (.cells #[.bool (y).neg, .slice a_y n_y c_y, .slice b_y m_y d_y] 24)) (.cells #[.bool (z).neg, .slice a_z n_z c_z, .slice b_z m_z d_z] 24)
    have B3 := B2.trans (hb.mono B2.size)
    have h_xn_3 := h_xn_2.below hb
    have h_xd_3 := h_xd_2.below hb
    have h_yn_3 := h_yn_2.below hb
    have h_yd_3 := h_yd_2.below hb
    have h_zn_3 := h_zn_2.below hb
    have h_zd_3 := h_zd_2.below hb
    have h_x_3 := h_x_2.later hb
    have h_y_3 := h_y_2.later hb
    clear hb B2 h_xn_2 h_xd_2 h_yn_2 h_yd_2 h_zn_2 h_zd_2 h_x_2 h_y_2
    have h_z_3 := Has.new ((w.alloc (.cells #[.bool (x).neg, .slice a_x n_x c_x, .slice b_x m_x d_x] 24)).alloc (.cells #[.bool (y).neg, .slice a_y n_y c_y, .slice b_y m_y d_y] 24)) #[.bool (z).neg, .slice a_z n_z c_z, .slice b_z m_z d_z] 24
    simp only [World.size_alloc] at h_z_3
    have k_x_0 := h_x_3.cell 0 _ rfl
    have k_x_1 := h_x_3.cell 1 _ rfl
    have k_x_2 := h_x_3.cell 2 _ rfl
    have k_y_0 := h_y_3.cell 0 _ rfl
    have k_y_1 := h_y_3.cell 1 _ rfl
    have k_y_2 := h_y_3.cell 2 _ rfl
    have k_z_0 := h_z_3.cell 0 _ rfl
    have k_z_1 := h_z_3.cell 1 _ rfl
    have k_z_2 := h_z_3.cell 2 _ rfl
    have hb := below_al (((w.alloc (.cells #[.bool (x).neg, .slice a_x n_x c_x, .slice b_x m_x d_x] 24)).alloc (.cells #[.bool (y).neg, .slice a_y n_y c_y, .slice b_y m_y d_y] 24)).alloc (.cells #[.bool (z).neg, .slice a_z n_z c_z, .slice b_z m_z d_z] 24)) (.cells #[.bool (x).neg, .slice a_x n_x c_x, .slice b_x m_x d_x, .bool (y).neg, .slice a_y n_y c_y, .slice b_y m_y d_y, .bool (z).neg, .slice a_z n_z c_z, .slice b_z m_z d_z] 24)
    have B4 := B3.trans (hb.mono B3.size)
    have h_xn_4 := h_xn_3.below hb
    have h_xd_4 := h_xd_3.below hb
    have h_yn_4 := h_yn_3.below hb
    have h_yd_4 := h_yd_3.below hb
    have h_zn_4 := h_zn_3.below hb
    have h_zd_4 := h_zd_3.below hb
    have h_x_4 := h_x_3.later hb
    have h_y_4 := h_y_3.later hb
    have h_z_4 := h_z_3.later hb
    clear hb B3 h_xn_3 h_xd_3 h_yn_3 h_yd_3 h_zn_3 h_zd_3 h_x_3 h_y_3 h_z_3
    have h_l_4 := Has.new (((w.alloc (.cells #[.bool (x).neg, .slice a_x n_x c_x, .slice b_x m_x d_x] 24)).alloc (.cells #[.bool (y).neg, .slice a_y n_y c_y, .slice b_y m_y d_y] 24)).alloc (.cells #[.bool (z).neg, .slice a_z n_z c_z, .slice b_z m_z d_z] 24)) #[.bool (x).neg, .slice a_x n_x c_x, .slice b_x m_x d_x, .bool (y).neg, .slice a_y n_y c_y, .slice b_y m_y d_y, .bool (z).neg, .slice a_z n_z c_z, .slice b_z m_z d_z] 24
    simp only [World.size_alloc] at h_l_4
    go_wp2_with fail
    clear k_x_0 k_x_1 k_x_2 k_y_0 k_y_1 k_y_2 k_z_0 k_z_1 k_z_2
    generalize ((((w.alloc (.cells #[.bool (x).neg, .slice a_x n_x c_x, .slice b_x m_x d_x] 24)).alloc (.cells #[.bool (y).neg, .slice a_y n_y c_y, .slice b_y m_y d_y] 24)).alloc (.cells #[.bool (z).neg, .slice a_z n_z c_z, .slice b_z m_z d_z] 24)).alloc (.cells #[.bool (x).neg, .slice a_x n_x c_x, .slice b_x m_x d_x, .bool (y).neg, .slice a_y n_y c_y, .slice b_y m_y d_y, .bool (z).neg, .slice a_z n_z c_z, .slice b_z m_z d_z] 24)) = w4 at *
    have c := right3_any w4 (g_x := (x).neg) (g_y := (y).neg) (g_z := (z).neg) h_xn_4 h_xd_4 h_yn_4 h_yd_4 h_zn_4 h_zd_4 h_l_4
    rw [show (⟨(x).neg, (x).num, (x).den⟩ : QV) = x from rfl] at c
    rw [show (⟨(y).neg, (y).num, (y).den⟩ : QV) = y from rfl] at c
    rw [show (⟨(z).neg, (z).num, (z).den⟩ : QV) = z from rfl] at c
    rw [RT.out] at c
    refine c.mono ?_
    rintro e w5 ⟨rfl, hb⟩
    clear c
    have B5 := B4.trans (hb.mono B4.size)
    have h_xn_5 := h_xn_4.below hb
    have h_xd_5 := h_xd_4.below hb
    have h_yn_5 := h_yn_4.below hb
    have h_yd_5 := h_yd_4.below hb
    have h_zn_5 := h_zn_4.below hb
    have h_zd_5 := h_zd_4.below hb
    have h_x_5 := h_x_4.later hb
    have h_y_5 := h_y_4.later hb
    have h_z_5 := h_z_4.later hb
    clear hb B4 h_xn_4 h_xd_4 h_yn_4 h_yd_4 h_zn_4 h_zd_4 h_x_4 h_y_4 h_z_4 h_l_4
    have k_x_0 := h_x_5.cell 0 _ rfl
    have k_x_1 := h_x_5.cell 1 _ rfl
    have k_x_2 := h_x_5.cell 2 _ rfl
    have k_y_0 := h_y_5.cell 0 _ rfl
    have k_y_1 := h_y_5.cell 1 _ rfl
    have k_y_2 := h_y_5.cell 2 _ rfl
    go_wp2_with fail
    clear k_x_0 k_x_1 k_x_2 k_y_0 k_y_1 k_y_2
    have c := ratCmp_any w5 (g1 := (x).neg) (g2 := (y).neg) h_xn_5 h_xd_5 h_yn_5 h_yd_5
    rw [show (⟨(x).neg, (x).num, (x).den⟩ : QV) = x from rfl] at c
    rw [show (⟨(y).neg, (y).num, (y).den⟩ : QV) = y from rfl] at c
    rw [F0.out] at c
    refine c.mono ?_
    rintro e w6 ⟨rfl, hb⟩
    clear c
    have B6 := B5.trans (hb.mono B5.size)
    have h_xn_6 := h_xn_5.below hb
    have h_xd_6 := h_xd_5.below hb
    have h_yn_6 := h_yn_5.below hb
    have h_yd_6 := h_yd_5.below hb
    have h_zn_6 := h_zn_5.below hb
    have h_zd_6 := h_zd_5.below hb
    have h_x_6 := h_x_5.later hb
    have h_y_6 := h_y_5.later hb
    have h_z_6 := h_z_5.later hb
    clear hb B5 h_xn_5 h_xd_5 h_yn_5 h_yd_5 h_zn_5 h_zd_5 h_x_5 h_y_5 h_z_5
    have k_y_0 := h_y_6.cell 0 _ rfl
    have k_y_1 := h_y_6.cell 1 _ rfl
    have k_y_2 := h_y_6.cell 2 _ rfl
    have k_x_0 := h_x_6.cell 0 _ rfl
    have k_x_1 := h_x_6.cell 1 _ rfl
    have k_x_2 := h_x_6.cell 2 _ rfl
    go_wp2_with fail
    clear k_y_0 k_y_1 k_y_2 k_x_0 k_x_1 k_x_2
    have c := ratCmp_any w6 (g1 := (y).neg) (g2 := (x).neg) h_yn_6 h_yd_6 h_xn_6 h_xd_6
    rw [show (⟨(y).neg, (y).num, (y).den⟩ : QV) = y from rfl] at c
    rw [show (⟨(x).neg, (x).num, (x).den⟩ : QV) = x from rfl] at c
    rw [F1.out] at c
    refine c.mono ?_
    rintro e w7 ⟨rfl, hb⟩
    clear c
    have B7 := B6.trans (hb.mono B6.size)
    have h_xn_7 := h_xn_6.below hb
    have h_xd_7 := h_xd_6.below hb
    have h_yn_7 := h_yn_6.below hb
    have h_yd_7 := h_yd_6.below hb
    have h_zn_7 := h_zn_6.below hb
    have h_zd_7 := h_zd_6.below hb
    have h_x_7 := h_x_6.later hb
    have h_y_7 := h_y_6.later hb
    have h_z_7 := h_z_6.later hb
    clear hb B6 h_xn_6 h_xd_6 h_yn_6 h_yd_6 h_zn_6 h_zd_6 h_x_6 h_y_6 h_z_6
    have k_x_0 := h_x_7.cell 0 _ rfl
    have k_x_1 := h_x_7.cell 1 _ rfl
    have k_x_2 := h_x_7.cell 2 _ rfl
    have k_z_0 := h_z_7.cell 0 _ rfl
    have k_z_1 := h_z_7.cell 1 _ rfl
    have k_z_2 := h_z_7.cell 2 _ rfl
    go_wp2_with fail
    clear k_x_0 k_x_1 k_x_2 k_z_0 k_z_1 k_z_2
    have c := ratAdd_any w7 (g1 := (x).neg) (g2 := (z).neg) h_xn_7 h_xd_7 h_zn_7 h_zd_7
    rw [show (⟨(x).neg, (x).num, (x).den⟩ : QV) = x from rfl] at c
    rw [show (⟨(z).neg, (z).num, (z).den⟩ : QV) = z from rfl] at c
    rw [F2.out] at c
    refine c.mono ?_
    rintro e w8 ⟨a_e, n_e, c_e, b_e, m_e, d_e, rfl, h_en_8, h_ed_8, hb⟩
    clear c
    have B8 := B7.trans (hb.mono B7.size)
    have h_xn_8 := h_xn_7.below hb
    have h_xd_8 := h_xd_7.below hb
    have h_yn_8 := h_yn_7.below hb
    have h_yd_8 := h_yd_7.below hb
    have h_zn_8 := h_zn_7.below hb
    have h_zd_8 := h_zd_7.below hb
    have h_x_8 := h_x_7.later hb
    have h_y_8 := h_y_7.later hb
    have h_z_8 := h_z_7.later hb
    clear hb B7 h_xn_7 h_xd_7 h_yn_7 h_yd_7 h_zn_7 h_zd_7 h_x_7 h_y_7 h_z_7
    have hb := below_al w8 (.cells #[.bool (s).neg, .slice a_e n_e c_e, .slice b_e m_e d_e] 24)
    have B9 := B8.trans (hb.mono B8.size)
    have h_xn_9 := h_xn_8.below hb
    have h_xd_9 := h_xd_8.below hb
    have h_yn_9 := h_yn_8.below hb
    have h_yd_9 := h_yd_8.below hb
    have h_zn_9 := h_zn_8.below hb
    have h_zd_9 := h_zd_8.below hb
    have h_x_9 := h_x_8.later hb
    have h_y_9 := h_y_8.later hb
    have h_z_9 := h_z_8.later hb
    have h_en_9 := h_en_8.below hb
    have h_ed_9 := h_ed_8.below hb
    clear hb B8 h_xn_8 h_xd_8 h_yn_8 h_yd_8 h_zn_8 h_zd_8 h_x_8 h_y_8 h_z_8 h_en_8 h_ed_8
    have h_e_9 := Has.new w8 #[.bool (s).neg, .slice a_e n_e c_e, .slice b_e m_e d_e] 24
    have k_y_0 := h_y_9.cell 0 _ rfl
    have k_y_1 := h_y_9.cell 1 _ rfl
    have k_y_2 := h_y_9.cell 2 _ rfl
    have k_z_0 := h_z_9.cell 0 _ rfl
    have k_z_1 := h_z_9.cell 1 _ rfl
    have k_z_2 := h_z_9.cell 2 _ rfl
    go_wp2_with first | refine wpList_store_new rfl 24 _ _ rfl atRat _ _ _ rfl rfl rfl rfl (rat_one _ _ _ _ _ _ _) ?_
    clear k_y_0 k_y_1 k_y_2 k_z_0 k_z_1 k_z_2
    generalize (w8.alloc (.cells #[.bool (s).neg, .slice a_e n_e c_e, .slice b_e m_e d_e] 24)) = w9 at *
    have c := ratAdd_any w9 (g1 := (y).neg) (g2 := (z).neg) h_yn_9 h_yd_9 h_zn_9 h_zd_9
    rw [show (⟨(y).neg, (y).num, (y).den⟩ : QV) = y from rfl] at c
    rw [show (⟨(z).neg, (z).num, (z).den⟩ : QV) = z from rfl] at c
    rw [F3.out] at c
    refine c.mono ?_
    rintro e w10 ⟨a_f, n_f, c_f, b_f, m_f, d_f, rfl, h_fn_10, h_fd_10, hb⟩
    clear c
    have B10 := B9.trans (hb.mono B9.size)
    have h_xn_10 := h_xn_9.below hb
    have h_xd_10 := h_xd_9.below hb
    have h_yn_10 := h_yn_9.below hb
    have h_yd_10 := h_yd_9.below hb
    have h_zn_10 := h_zn_9.below hb
    have h_zd_10 := h_zd_9.below hb
    have h_x_10 := h_x_9.later hb
    have h_y_10 := h_y_9.later hb
    have h_z_10 := h_z_9.later hb
    have h_en_10 := h_en_9.below hb
    have h_ed_10 := h_ed_9.below hb
    have h_e_10 := h_e_9.later hb
    clear hb B9 h_xn_9 h_xd_9 h_yn_9 h_yd_9 h_zn_9 h_zd_9 h_x_9 h_y_9 h_z_9 h_en_9 h_ed_9 h_e_9
    have hb := below_al w10 (.cells #[.bool (t).neg, .slice a_f n_f c_f, .slice b_f m_f d_f] 24)
    have B11 := B10.trans (hb.mono B10.size)
    have h_xn_11 := h_xn_10.below hb
    have h_xd_11 := h_xd_10.below hb
    have h_yn_11 := h_yn_10.below hb
    have h_yd_11 := h_yd_10.below hb
    have h_zn_11 := h_zn_10.below hb
    have h_zd_11 := h_zd_10.below hb
    have h_x_11 := h_x_10.later hb
    have h_y_11 := h_y_10.later hb
    have h_z_11 := h_z_10.later hb
    have h_en_11 := h_en_10.below hb
    have h_ed_11 := h_ed_10.below hb
    have h_e_11 := h_e_10.later hb
    have h_fn_11 := h_fn_10.below hb
    have h_fd_11 := h_fd_10.below hb
    clear hb B10 h_xn_10 h_xd_10 h_yn_10 h_yd_10 h_zn_10 h_zd_10 h_x_10 h_y_10 h_z_10 h_en_10 h_ed_10 h_e_10 h_fn_10 h_fd_10
    have h_f_11 := Has.new w10 #[.bool (t).neg, .slice a_f n_f c_f, .slice b_f m_f d_f] 24
    have k_e_0 := h_e_11.cell 0 _ rfl
    have k_e_1 := h_e_11.cell 1 _ rfl
    have k_e_2 := h_e_11.cell 2 _ rfl
    have k_f_0 := h_f_11.cell 0 _ rfl
    have k_f_1 := h_f_11.cell 1 _ rfl
    have k_f_2 := h_f_11.cell 2 _ rfl
    go_wp2_with first | refine wpList_store_new rfl 24 _ _ rfl atRat _ _ _ rfl rfl rfl rfl (rat_one _ _ _ _ _ _ _) ?_
    clear k_e_0 k_e_1 k_e_2 k_f_0 k_f_1 k_f_2
    generalize (w10.alloc (.cells #[.bool (t).neg, .slice a_f n_f c_f, .slice b_f m_f d_f] 24)) = w11 at *
    have c := ratCmp_any w11 (g1 := (s).neg) (g2 := (t).neg) h_en_11 h_ed_11 h_fn_11 h_fd_11
    rw [show (⟨(s).neg, (s).num, (s).den⟩ : QV) = s from rfl] at c
    rw [show (⟨(t).neg, (t).num, (t).den⟩ : QV) = t from rfl] at c
    rw [F4.out] at c
    refine c.mono ?_
    rintro e w12 ⟨rfl, hb⟩
    clear c
    have B12 := B11.trans (hb.mono B11.size)
    have h_xn_12 := h_xn_11.below hb
    have h_xd_12 := h_xd_11.below hb
    have h_yn_12 := h_yn_11.below hb
    have h_yd_12 := h_yd_11.below hb
    have h_zn_12 := h_zn_11.below hb
    have h_zd_12 := h_zd_11.below hb
    have h_x_12 := h_x_11.later hb
    have h_y_12 := h_y_11.later hb
    have h_z_12 := h_z_11.later hb
    have h_en_12 := h_en_11.below hb
    have h_ed_12 := h_ed_11.below hb
    have h_e_12 := h_e_11.later hb
    have h_fn_12 := h_fn_11.below hb
    have h_fd_12 := h_fd_11.below hb
    have h_f_12 := h_f_11.later hb
    clear hb B11 h_xn_11 h_xd_11 h_yn_11 h_yd_11 h_zn_11 h_zd_11 h_x_11 h_y_11 h_z_11 h_en_11 h_ed_11 h_e_11 h_fn_11 h_fd_11 h_f_11
    clear h_e_12 h_en_12 h_ed_12 h_f_12 h_fn_12 h_fd_12 h_z_12 h_zn_12 h_zd_12
    have k_x_0 := h_x_12.cell 0 _ rfl
    have k_x_1 := h_x_12.cell 1 _ rfl
    have k_x_2 := h_x_12.cell 2 _ rfl
    have k_y_0 := h_y_12.cell 0 _ rfl
    have k_y_1 := h_y_12.cell 1 _ rfl
    have k_y_2 := h_y_12.cell 2 _ rfl
    go_wp2_with fail
    clear k_x_0 k_x_1 k_x_2 k_y_0 k_y_1 k_y_2
    have c := ratSame_any w12 (g1 := (x).neg) (g2 := (y).neg) h_xn_12 h_xd_12 h_yn_12 h_yd_12
    rw [show (⟨(x).neg, (x).num, (x).den⟩ : QV) = x from rfl] at c
    rw [show (⟨(y).neg, (y).num, (y).den⟩ : QV) = y from rfl] at c
    rw [F5.out] at c
    refine c.mono ?_
    rintro e w13 ⟨rfl, hb⟩
    clear c
    have B13 := B12.trans (hb.mono B12.size)
    have h_xn_13 := h_xn_12.below hb
    have h_xd_13 := h_xd_12.below hb
    have h_yn_13 := h_yn_12.below hb
    have h_yd_13 := h_yd_12.below hb
    have h_x_13 := h_x_12.later hb
    have h_y_13 := h_y_12.later hb
    clear hb B12 h_xn_12 h_xd_12 h_yn_12 h_yd_12 h_x_12 h_y_12
    have k_x_0 := h_x_13.cell 0 _ rfl
    have k_x_1 := h_x_13.cell 1 _ rfl
    have k_x_2 := h_x_13.cell 2 _ rfl
    go_wp2_with fail
    clear k_x_0 k_x_1 k_x_2
    have c := ratNeg_any w13 (g := (x).neg) h_xn_13 h_xd_13
    rw [show (⟨(x).neg, (x).num, (x).den⟩ : QV) = x from rfl] at c
    rw [F6.out] at c
    refine c.mono ?_
    rintro e w14 ⟨a_e, n_e, c_e, b_e, m_e, d_e, rfl, h_en_14, h_ed_14, hb⟩
    clear c
    have B14 := B13.trans (hb.mono B13.size)
    have h_xn_14 := h_xn_13.below hb
    have h_xd_14 := h_xd_13.below hb
    have h_yn_14 := h_yn_13.below hb
    have h_yd_14 := h_yd_13.below hb
    have h_x_14 := h_x_13.later hb
    have h_y_14 := h_y_13.later hb
    clear hb B13 h_xn_13 h_xd_13 h_yn_13 h_yd_13 h_x_13 h_y_13
    have hb := below_al w14 (.cells #[.bool (a).neg, .slice a_e n_e c_e, .slice b_e m_e d_e] 24)
    have B15 := B14.trans (hb.mono B14.size)
    have h_xn_15 := h_xn_14.below hb
    have h_xd_15 := h_xd_14.below hb
    have h_yn_15 := h_yn_14.below hb
    have h_yd_15 := h_yd_14.below hb
    have h_x_15 := h_x_14.later hb
    have h_y_15 := h_y_14.later hb
    have h_en_15 := h_en_14.below hb
    have h_ed_15 := h_ed_14.below hb
    clear hb B14 h_xn_14 h_xd_14 h_yn_14 h_yd_14 h_x_14 h_y_14 h_en_14 h_ed_14
    have h_e_15 := Has.new w14 #[.bool (a).neg, .slice a_e n_e c_e, .slice b_e m_e d_e] 24
    have k_y_0 := h_y_15.cell 0 _ rfl
    have k_y_1 := h_y_15.cell 1 _ rfl
    have k_y_2 := h_y_15.cell 2 _ rfl
    go_wp2_with first | refine wpList_store_new rfl 24 _ _ rfl atRat _ _ _ rfl rfl rfl rfl (rat_one _ _ _ _ _ _ _) ?_
    clear k_y_0 k_y_1 k_y_2
    generalize (w14.alloc (.cells #[.bool (a).neg, .slice a_e n_e c_e, .slice b_e m_e d_e] 24)) = w15 at *
    have c := ratNeg_any w15 (g := (y).neg) h_yn_15 h_yd_15
    rw [show (⟨(y).neg, (y).num, (y).den⟩ : QV) = y from rfl] at c
    rw [F7.out] at c
    refine c.mono ?_
    rintro e w16 ⟨a_f, n_f, c_f, b_f, m_f, d_f, rfl, h_fn_16, h_fd_16, hb⟩
    clear c
    have B16 := B15.trans (hb.mono B15.size)
    have h_xn_16 := h_xn_15.below hb
    have h_xd_16 := h_xd_15.below hb
    have h_yn_16 := h_yn_15.below hb
    have h_yd_16 := h_yd_15.below hb
    have h_x_16 := h_x_15.later hb
    have h_y_16 := h_y_15.later hb
    have h_en_16 := h_en_15.below hb
    have h_ed_16 := h_ed_15.below hb
    have h_e_16 := h_e_15.later hb
    clear hb B15 h_xn_15 h_xd_15 h_yn_15 h_yd_15 h_x_15 h_y_15 h_en_15 h_ed_15 h_e_15
    have hb := below_al w16 (.cells #[.bool (b).neg, .slice a_f n_f c_f, .slice b_f m_f d_f] 24)
    have B17 := B16.trans (hb.mono B16.size)
    have h_xn_17 := h_xn_16.below hb
    have h_xd_17 := h_xd_16.below hb
    have h_yn_17 := h_yn_16.below hb
    have h_yd_17 := h_yd_16.below hb
    have h_x_17 := h_x_16.later hb
    have h_y_17 := h_y_16.later hb
    have h_en_17 := h_en_16.below hb
    have h_ed_17 := h_ed_16.below hb
    have h_e_17 := h_e_16.later hb
    have h_fn_17 := h_fn_16.below hb
    have h_fd_17 := h_fd_16.below hb
    clear hb B16 h_xn_16 h_xd_16 h_yn_16 h_yd_16 h_x_16 h_y_16 h_en_16 h_ed_16 h_e_16 h_fn_16 h_fd_16
    have h_f_17 := Has.new w16 #[.bool (b).neg, .slice a_f n_f c_f, .slice b_f m_f d_f] 24
    have k_e_0 := h_e_17.cell 0 _ rfl
    have k_e_1 := h_e_17.cell 1 _ rfl
    have k_e_2 := h_e_17.cell 2 _ rfl
    have k_f_0 := h_f_17.cell 0 _ rfl
    have k_f_1 := h_f_17.cell 1 _ rfl
    have k_f_2 := h_f_17.cell 2 _ rfl
    go_wp2_with first | refine wpList_store_new rfl 24 _ _ rfl atRat _ _ _ rfl rfl rfl rfl (rat_one _ _ _ _ _ _ _) ?_
    clear k_e_0 k_e_1 k_e_2 k_f_0 k_f_1 k_f_2
    generalize (w16.alloc (.cells #[.bool (b).neg, .slice a_f n_f c_f, .slice b_f m_f d_f] 24)) = w17 at *
    have c := ratCmp_any w17 (g1 := (a).neg) (g2 := (b).neg) h_en_17 h_ed_17 h_fn_17 h_fd_17
    rw [show (⟨(a).neg, (a).num, (a).den⟩ : QV) = a from rfl] at c
    rw [show (⟨(b).neg, (b).num, (b).den⟩ : QV) = b from rfl] at c
    rw [F8.out] at c
    refine c.mono ?_
    rintro e w18 ⟨rfl, hb⟩
    clear c
    have B18 := B17.trans (hb.mono B17.size)
    have h_xn_18 := h_xn_17.below hb
    have h_xd_18 := h_xd_17.below hb
    have h_yn_18 := h_yn_17.below hb
    have h_yd_18 := h_yd_17.below hb
    have h_x_18 := h_x_17.later hb
    have h_y_18 := h_y_17.later hb
    have h_en_18 := h_en_17.below hb
    have h_ed_18 := h_ed_17.below hb
    have h_e_18 := h_e_17.later hb
    have h_fn_18 := h_fn_17.below hb
    have h_fd_18 := h_fd_17.below hb
    have h_f_18 := h_f_17.later hb
    clear hb B17 h_xn_17 h_xd_17 h_yn_17 h_yd_17 h_x_17 h_y_17 h_en_17 h_ed_17 h_e_17 h_fn_17 h_fd_17 h_f_17
    clear h_e_18 h_en_18 h_ed_18 h_f_18 h_fn_18 h_fd_18
    have k_x_0 := h_x_18.cell 0 _ rfl
    have k_x_1 := h_x_18.cell 1 _ rfl
    have k_x_2 := h_x_18.cell 2 _ rfl
    have k_y_0 := h_y_18.cell 0 _ rfl
    have k_y_1 := h_y_18.cell 1 _ rfl
    have k_y_2 := h_y_18.cell 2 _ rfl
    go_wp2_with fail
    clear k_x_0 k_x_1 k_x_2 k_y_0 k_y_1 k_y_2
    have c := ratSub_any w18 (g1 := (x).neg) (g2 := (y).neg) h_xn_18 h_xd_18 h_yn_18 h_yd_18
    rw [show (⟨(x).neg, (x).num, (x).den⟩ : QV) = x from rfl] at c
    rw [show (⟨(y).neg, (y).num, (y).den⟩ : QV) = y from rfl] at c
    rw [F9.out] at c
    refine c.mono ?_
    rintro e w19 ⟨a_h, n_h, c_h, b_h, m_h, d_h, rfl, h_hn_19, h_hd_19, hb⟩
    clear c
    have B19 := B18.trans (hb.mono B18.size)
    have h_xn_19 := h_xn_18.below hb
    have h_xd_19 := h_xd_18.below hb
    have h_yn_19 := h_yn_18.below hb
    have h_yd_19 := h_yd_18.below hb
    have h_x_19 := h_x_18.later hb
    have h_y_19 := h_y_18.later hb
    clear hb B18 h_xn_18 h_xd_18 h_yn_18 h_yd_18 h_x_18 h_y_18
    have hb := below_al w19 (.cells #[.bool (l).neg, .slice a_h n_h c_h, .slice b_h m_h d_h] 24)
    have B20 := B19.trans (hb.mono B19.size)
    have h_xn_20 := h_xn_19.below hb
    have h_xd_20 := h_xd_19.below hb
    have h_yn_20 := h_yn_19.below hb
    have h_yd_20 := h_yd_19.below hb
    have h_x_20 := h_x_19.later hb
    have h_y_20 := h_y_19.later hb
    have h_hn_20 := h_hn_19.below hb
    have h_hd_20 := h_hd_19.below hb
    clear hb B19 h_xn_19 h_xd_19 h_yn_19 h_yd_19 h_x_19 h_y_19 h_hn_19 h_hd_19
    have h_h_20 := Has.new w19 #[.bool (l).neg, .slice a_h n_h c_h, .slice b_h m_h d_h] 24
    go_wp2_with first | refine wpList_store_new rfl 24 _ _ rfl atRat _ _ _ rfl rfl rfl rfl (rat_one _ _ _ _ _ _ _) ?_
    generalize (w19.alloc (.cells #[.bool (l).neg, .slice a_h n_h c_h, .slice b_h m_h d_h] 24)) = w20 at *
    have hb := (Below.refl w20.heap.size w20).drew
    have B21 := B20.trans (hb.mono B20.size)
    have h_xn_21 := h_xn_20.below hb
    have h_xd_21 := h_xd_20.below hb
    have h_yn_21 := h_yn_20.below hb
    have h_yd_21 := h_yd_20.below hb
    have h_x_21 := h_x_20.later hb
    have h_y_21 := h_y_20.later hb
    have h_hn_21 := h_hn_20.below hb
    have h_hd_21 := h_hd_20.below hb
    have h_h_21 := h_h_20.later hb
    clear hb B20 h_xn_20 h_xd_20 h_yn_20 h_yd_20 h_x_20 h_y_20 h_hn_20 h_hd_20 h_h_20
    refine wp_region_held_drew (S := (fun w' => w'.cell? ⟨w19.heap.size, 0, none⟩ = some (.bool (l).neg) ∧ w'.cell? ⟨w19.heap.size, 1, none⟩ = some (.slice a_h n_h c_h) ∧ w'.cell? ⟨w19.heap.size, 2, none⟩ = some (.slice b_h m_h d_h) ∧ True)) (by kernel_rfl) ?_ (fun hHeld => ?_)
    · exact ⟨h_h_21.cell 0 _ rfl, h_h_21.cell 1 _ rfl, h_h_21.cell 2 _ rfl, trivial⟩
    generalize w20.drew = w21 at *
    refine wpAnyH_take (i := 0) (oi := ?oir41_0) (v := ?vr41_0) ?hir41_0 (by kernel_rfl) (by kernel_rfl) (by kernel_rfl) ?hqr41_0 ?hyr41_0 (by assumption) ?restr41_0
    case hir41_0 => simp only [List.getElem?_toArray, List.getElem?_cons_succ, List.getElem?_cons_zero]; rfl
    case hqr41_0 => exact fun _ _ _ h => h
    case hyr41_0 => (refine Or.inl ⟨by rfl, ?_⟩; intro w hSw; (try dsimp only at hSw); go_simp; all_goals with_reducible rfl)
    try simp only [Act.put, List.setIfInBounds_toArray, List.set_cons_zero, List.set_cons_succ]
    refine wpAnyH_ready (rs := [1]) (by kernel_rfl) (by simp) ?_
    refine AllReadyH.cons (o := ?or42_1) ?hor42_1 (fun K hK => ?kr42_1) AllReadyH.nil
    case hor42_1 => simp only [List.getElem?_toArray, List.getElem?_cons_succ, List.getElem?_cons_zero]; rfl
    go_simp
    have c := whole_any w21 0 (by decide) (by decide)
    refine c.mono ?_
    rintro e w22 ⟨a_o, n_o, c_o, b_o, m_o, d_o, rfl, h_on_22, h_od_22, hb⟩
    clear c
    have B22 := B21.trans (hb.mono B21.size)
    have h_xn_22 := h_xn_21.below hb
    have h_xd_22 := h_xd_21.below hb
    have h_yn_22 := h_yn_21.below hb
    have h_yd_22 := h_yd_21.below hb
    have h_x_22 := h_x_21.later hb
    have h_y_22 := h_y_21.later hb
    have h_hn_22 := h_hn_21.below hb
    have h_hd_22 := h_hd_21.below hb
    have h_h_22 := h_h_21.later hb
    clear hb B21 h_xn_21 h_xd_21 h_yn_21 h_yd_21 h_x_21 h_y_21 h_hn_21 h_hd_21 h_h_21
    go_wp2_with fail
    clear hHeld
    refine hK.out _ _ ?_ (fun hHeld => ?_)
    · exact ⟨h_h_22.cell 0 _ rfl, h_h_22.cell 1 _ rfl, h_h_22.cell 2 _ rfl, trivial⟩
    clear hK K
    try simp only [Act.put, List.setIfInBounds_toArray, List.set_cons_zero, List.set_cons_succ]
    refine wpAnyH_ready (rs := [2]) (by kernel_rfl) (by simp) ?_
    refine AllReadyH.cons (o := ?or43_2) ?hor43_2 (fun K hK => ?kr43_2) AllReadyH.nil
    case hor43_2 => simp only [List.getElem?_toArray, List.getElem?_cons_succ, List.getElem?_cons_zero]; rfl
    go_simp
    have c := ratCmp_any w22 (g1 := (l).neg) (g2 := ((ofC 0 1).1).neg) h_hn_22 h_hd_22 h_on_22 h_od_22
    rw [show (⟨(l).neg, (l).num, (l).den⟩ : QV) = l from rfl] at c
    rw [show (⟨((ofC 0 1).1).neg, ((ofC 0 1).1).num, ((ofC 0 1).1).den⟩ : QV) = (ofC 0 1).1 from rfl] at c
    rw [F10.out] at c
    refine c.mono ?_
    rintro e w23 ⟨rfl, hb⟩
    clear c
    have B23 := B22.trans (hb.mono B22.size)
    have h_xn_23 := h_xn_22.below hb
    have h_xd_23 := h_xd_22.below hb
    have h_yn_23 := h_yn_22.below hb
    have h_yd_23 := h_yd_22.below hb
    have h_x_23 := h_x_22.later hb
    have h_y_23 := h_y_22.later hb
    have h_hn_23 := h_hn_22.below hb
    have h_hd_23 := h_hd_22.below hb
    have h_h_23 := h_h_22.later hb
    clear hb B22 h_xn_22 h_xd_22 h_yn_22 h_yd_22 h_x_22 h_y_22 h_hn_22 h_hd_22 h_h_22 h_on_22 h_od_22
    go_wp2_with fail
    clear hHeld
    refine hK.out _ _ ?_ (fun hHeld => ?_)
    · exact ⟨h_h_23.cell 0 _ rfl, h_h_23.cell 1 _ rfl, h_h_23.cell 2 _ rfl, trivial⟩
    clear hK K
    try simp only [Act.put, List.setIfInBounds_toArray, List.set_cons_zero, List.set_cons_succ]
    refine wpAnyH_take (i := 3) (oi := ?oir44_3) (v := ?vr44_3) ?hir44_3 (by kernel_rfl) (by kernel_rfl) (by kernel_rfl) ?hqr44_3 ?hyr44_3 (by assumption) ?restr44_3
    case hir44_3 => simp only [List.getElem?_toArray, List.getElem?_cons_succ, List.getElem?_cons_zero]; rfl
    case hqr44_3 => exact fun _ _ _ h => h
    case hyr44_3 => (refine Or.inl ⟨by rfl, ?_⟩; intro w hSw; (try dsimp only at hSw); go_simp; all_goals with_reducible rfl)
    try simp only [Act.put, List.setIfInBounds_toArray, List.set_cons_zero, List.set_cons_succ]
    refine wpAnyH_take (i := 4) (oi := ?oir44_4) (v := ?vr44_4) ?hir44_4 (by kernel_rfl) (by kernel_rfl) (by kernel_rfl) ?hqr44_4 ?hyr44_4 (by assumption) ?restr44_4
    case hir44_4 => simp only [List.getElem?_toArray, List.getElem?_cons_succ, List.getElem?_cons_zero]; rfl
    case hqr44_4 => exact fun _ _ _ h => h
    case hyr44_4 => (refine Or.inl ⟨by rfl, ?_⟩; intro w hSw; (try dsimp only at hSw); go_simp; all_goals with_reducible rfl)
    try simp only [Act.put, List.setIfInBounds_toArray, List.set_cons_zero, List.set_cons_succ]
    refine wpAnyH_take (i := 5) (oi := ?oir44_5) (v := ?vr44_5) ?hir44_5 (by kernel_rfl) (by kernel_rfl) (by kernel_rfl) ?hqr44_5 ?hyr44_5 (by assumption) ?restr44_5
    case hir44_5 => simp only [List.getElem?_toArray, List.getElem?_cons_succ, List.getElem?_cons_zero]; rfl
    case hqr44_5 => exact fun _ _ _ h => h
    case hyr44_5 => (refine Or.inl ⟨by rfl, ?_⟩; intro w hSw; (try dsimp only at hSw); go_simp; all_goals with_reducible rfl)
    try simp only [Act.put, List.setIfInBounds_toArray, List.set_cons_zero, List.set_cons_succ]
    refine wpAnyH_take (i := 6) (oi := ?oir44_6) (v := ?vr44_6) ?hir44_6 (by kernel_rfl) (by kernel_rfl) (by kernel_rfl) ?hqr44_6 ?hyr44_6 (by assumption) ?restr44_6
    case hir44_6 => simp only [List.getElem?_toArray, List.getElem?_cons_succ, List.getElem?_cons_zero]; rfl
    case hqr44_6 => exact fun _ _ _ h => h
    case hyr44_6 => (refine Or.inl ⟨by rfl, ?_⟩; intro w hSw; (try dsimp only at hSw); go_simp; all_goals with_reducible rfl)
    try simp only [Act.put, List.setIfInBounds_toArray, List.set_cons_zero, List.set_cons_succ]
    refine wpAnyH_take (i := 7) (oi := ?oir44_7) (v := ?vr44_7) ?hir44_7 (by kernel_rfl) (by kernel_rfl) (by kernel_rfl) ?hqr44_7 ?hyr44_7 (by assumption) ?restr44_7
    case hir44_7 => simp only [List.getElem?_toArray, List.getElem?_cons_succ, List.getElem?_cons_zero]; rfl
    case hqr44_7 => exact fun _ _ _ h => h
    case hyr44_7 => (refine Or.inl ⟨by rfl, ?_⟩; intro w hSw; (try dsimp only at hSw); go_simp; all_goals with_reducible rfl)
    try simp only [Act.put, List.setIfInBounds_toArray, List.set_cons_zero, List.set_cons_succ]
    refine wpAnyH_done (by kernel_rfl) ?_ _
    clear hHeld
    go_wp2_with fail
    have c := wakes_any w23
    refine c.mono ?_
    rintro e w24 ⟨rfl, hb⟩
    clear c
    have B24 := B23.trans (hb.mono B23.size)
    have h_xn_24 := h_xn_23.below hb
    have h_xd_24 := h_xd_23.below hb
    have h_yn_24 := h_yn_23.below hb
    have h_yd_24 := h_yd_23.below hb
    have h_x_24 := h_x_23.later hb
    have h_y_24 := h_y_23.later hb
    have h_hn_24 := h_hn_23.below hb
    have h_hd_24 := h_hd_23.below hb
    have h_h_24 := h_h_23.later hb
    clear hb B23 h_xn_23 h_xd_23 h_yn_23 h_yd_23 h_x_23 h_y_23 h_hn_23 h_hd_23 h_h_23
    go_wp2_with fail
    go_ret
    exact ⟨rfl, B24⟩

end Go.Proofs.YtdaajeklnhbhjaaGreatDoor
