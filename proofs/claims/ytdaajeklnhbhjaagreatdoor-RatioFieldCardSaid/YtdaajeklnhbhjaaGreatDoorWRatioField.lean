/- The walk of the law RatioField: it returns true and turns nothing that was there. No condition. Printed by gen_ratlaws.py. -/
import Derived.Test.YtdaajeklnhbhjaaGreatDoorRatW
import Derived.Test.YtdaajeklnhbhjaaGreatDoorRatV
import Derived.Test.YtdaajeklnhbhjaaGreatDoorRatY
import Derived.BigQuiet
import Derived.Deep.CutRange
namespace Go.Proofs.YtdaajeklnhbhjaaGreatDoor
open Go.RowKit Go.Suf
set_option linter.unusedVariables false
set_option linter.unusedSimpArgs false

set_option maxRecDepth 100000 in
set_option maxHeartbeats 8000000 in
theorem ratioField_walk (w : World) {g_x : Bool} {a_x b_x : Option Addr} {n_x c_x m_x d_x : Nat} {xn xd : List Nat} (h_xn : Rd .u32 w a_x n_x c_x xn) (h_xd : Rd .u32 w b_x m_x d_x xd) {g_y : Bool} {a_y b_y : Option Addr} {n_y c_y m_y d_y : Nat} {yn yd : List Nat} (h_yn : Rd .u32 w a_y n_y c_y yn) (h_yd : Rd .u32 w b_y m_y d_y yd) {g_z : Bool} {a_z b_z : Option Addr} {n_z c_z m_z d_z : Nat} {zn zd : List Nat} (h_zn : Rd .u32 w a_z n_z c_z zn) (h_zd : Rd .u32 w b_z m_z d_z zd) :
    Calls Tryz.prog 6 #[ratV g_x a_x n_x c_x b_x m_x d_x, ratV g_y a_y n_y c_y b_y m_y d_y, ratV g_z a_z n_z c_z b_z m_z d_z] w fun e w' => e = .returned (.bool true) ∧ Below w.heap.size w w' := by
  obtain ⟨x, rfl, rfl, rfl⟩ : ∃ x : QV, g_x = x.neg ∧ xn = x.num ∧ xd = x.den := ⟨⟨g_x, xn, xd⟩, rfl, rfl, rfl⟩
  obtain ⟨y, rfl, rfl, rfl⟩ : ∃ y : QV, g_y = y.neg ∧ yn = y.num ∧ yd = y.den := ⟨⟨g_y, yn, yd⟩, rfl, rfl, rfl⟩
  obtain ⟨z, rfl, rfl, rfl⟩ : ∃ z : QV, g_z = z.neg ∧ zn = z.num ∧ zd = z.den := ⟨⟨g_z, zn, zd⟩, rfl, rfl, rfl⟩
  have B0 : Below w.heap.size w w := Below.refl _ _
  have h_xn_0 := h_xn
  have h_xd_0 := h_xd
  have h_yn_0 := h_yn
  have h_yd_0 := h_yd
  have h_zn_0 := h_zn
  have h_zd_0 := h_zd
  by_cases ok : okV x ∧ okV y ∧ okV z
  case neg =>
    have RT := Lib.hid (show (decide (okV x) && decide (okV y) && decide (okV z)) = false from by rw [Bool.eq_false_iff]; intro h; simp only [Bool.and_eq_true, decide_eq_true_eq] at h; exact ok ⟨h.1.1, h.1.2, h.2⟩)
    clear ok
    go_enter Tryz.func6, Tryz.ntmps6
    have hb := below_al w (.cells #[.bool (x).neg, .slice a_x n_x c_x, .slice b_x m_x d_x] 24)
    have B1 := B0.trans (hb.mono B0.size)
    have h_xn_1 := h_xn_0.below hb
    have h_xd_1 := h_xd_0.below hb
    have h_yn_1 := h_yn_0.below hb
    have h_yd_1 := h_yd_0.below hb
    have h_zn_1 := h_zn_0.below hb
    have h_zd_1 := h_zd_0.below hb
    clear hb B0 h_xn_0 h_xd_0 h_yn_0 h_yd_0 h_zn_0 h_zd_0
    have h_x_1 := Has.new w #[.bool (x).neg, .slice a_x n_x c_x, .slice b_x m_x d_x] 24
    have hb := below_al (w.alloc (.cells #[.bool (x).neg, .slice a_x n_x c_x, .slice b_x m_x d_x] 24)) (.cells #[.bool (y).neg, .slice a_y n_y c_y, .slice b_y m_y d_y] 24)
    have B2 := B1.trans (hb.mono B1.size)
    have h_xn_2 := h_xn_1.below hb
    have h_xd_2 := h_xd_1.below hb
    have h_yn_2 := h_yn_1.below hb
    have h_yd_2 := h_yd_1.below hb
    have h_zn_2 := h_zn_1.below hb
    have h_zd_2 := h_zd_1.below hb
    have h_x_2 := h_x_1.later hb
    clear hb B1 h_xn_1 h_xd_1 h_yn_1 h_yd_1 h_zn_1 h_zd_1 h_x_1
    have h_y_2 := Has.new (w.alloc (.cells #[.bool (x).neg, .slice a_x n_x c_x, .slice b_x m_x d_x] 24)) #[.bool (y).neg, .slice a_y n_y c_y, .slice b_y m_y d_y] 24
    simp only [World.size_alloc] at h_y_2
    have hb := below_al ((w.alloc (.cells #[.bool (x).neg, .slice a_x n_x c_x, .slice b_x m_x d_x] 24)).alloc (.cells #[.bool (y).neg, .slice a_y n_y c_y, .slice b_y m_y d_y] 24)) (.cells #[.bool (z).neg, .slice a_z n_z c_z, .slice b_z m_z d_z] 24)
    have B3 := B2.trans (hb.mono B2.size)
    have h_xn_3 := h_xn_2.below hb
    have h_xd_3 := h_xd_2.below hb
    have h_yn_3 := h_yn_2.below hb
    have h_yd_3 := h_yd_2.below hb
    have h_zn_3 := h_zn_2.below hb
    have h_zd_3 := h_zd_2.below hb
    have h_x_3 := h_x_2.later hb
    have h_y_3 := h_y_2.later hb
    clear hb B2 h_xn_2 h_xd_2 h_yn_2 h_yd_2 h_zn_2 h_zd_2 h_x_2 h_y_2
    have h_z_3 := Has.new ((w.alloc (.cells #[.bool (x).neg, .slice a_x n_x c_x, .slice b_x m_x d_x] 24)).alloc (.cells #[.bool (y).neg, .slice a_y n_y c_y, .slice b_y m_y d_y] 24)) #[.bool (z).neg, .slice a_z n_z c_z, .slice b_z m_z d_z] 24
    simp only [World.size_alloc] at h_z_3
    have k_x_0 := h_x_3.cell 0 _ rfl
    have k_x_1 := h_x_3.cell 1 _ rfl
    have k_x_2 := h_x_3.cell 2 _ rfl
    have k_y_0 := h_y_3.cell 0 _ rfl
    have k_y_1 := h_y_3.cell 1 _ rfl
    have k_y_2 := h_y_3.cell 2 _ rfl
    have k_z_0 := h_z_3.cell 0 _ rfl
    have k_z_1 := h_z_3.cell 1 _ rfl
    have k_z_2 := h_z_3.cell 2 _ rfl
    have hb := below_al (((w.alloc (.cells #[.bool (x).neg, .slice a_x n_x c_x, .slice b_x m_x d_x] 24)).alloc (.cells #[.bool (y).neg, .slice a_y n_y c_y, .slice b_y m_y d_y] 24)).alloc (.cells #[.bool (z).neg, .slice a_z n_z c_z, .slice b_z m_z d_z] 24)) (.cells #[.bool (x).neg, .slice a_x n_x c_x, .slice b_x m_x d_x, .bool (y).neg, .slice a_y n_y c_y, .slice b_y m_y d_y, .bool (z).neg, .slice a_z n_z c_z, .slice b_z m_z d_z] 24)
    have B4 := B3.trans (hb.mono B3.size)
    have h_xn_4 := h_xn_3.below hb
    have h_xd_4 := h_xd_3.below hb
    have h_yn_4 := h_yn_3.below hb
    have h_yd_4 := h_yd_3.below hb
    have h_zn_4 := h_zn_3.below hb
    have h_zd_4 := h_zd_3.below hb
    have h_x_4 := h_x_3.later hb
    have h_y_4 := h_y_3.later hb
    have h_z_4 := h_z_3.later hb
    clear hb B3 h_xn_3 h_xd_3 h_yn_3 h_yd_3 h_zn_3 h_zd_3 h_x_3 h_y_3 h_z_3
    have h_l_4 := Has.new (((w.alloc (.cells #[.bool (x).neg, .slice a_x n_x c_x, .slice b_x m_x d_x] 24)).alloc (.cells #[.bool (y).neg, .slice a_y n_y c_y, .slice b_y m_y d_y] 24)).alloc (.cells #[.bool (z).neg, .slice a_z n_z c_z, .slice b_z m_z d_z] 24)) #[.bool (x).neg, .slice a_x n_x c_x, .slice b_x m_x d_x, .bool (y).neg, .slice a_y n_y c_y, .slice b_y m_y d_y, .bool (z).neg, .slice a_z n_z c_z, .slice b_z m_z d_z] 24
    simp only [World.size_alloc] at h_l_4
    go_wp2_with fail
    clear k_x_0 k_x_1 k_x_2 k_y_0 k_y_1 k_y_2 k_z_0 k_z_1 k_z_2
    generalize ((((w.alloc (.cells #[.bool (x).neg, .slice a_x n_x c_x, .slice b_x m_x d_x] 24)).alloc (.cells #[.bool (y).neg, .slice a_y n_y c_y, .slice b_y m_y d_y] 24)).alloc (.cells #[.bool (z).neg, .slice a_z n_z c_z, .slice b_z m_z d_z] 24)).alloc (.cells #[.bool (x).neg, .slice a_x n_x c_x, .slice b_x m_x d_x, .bool (y).neg, .slice a_y n_y c_y, .slice b_y m_y d_y, .bool (z).neg, .slice a_z n_z c_z, .slice b_z m_z d_z] 24)) = w4 at *
    have c := right3_any w4 (g_x := (x).neg) (g_y := (y).neg) (g_z := (z).neg) h_xn_4 h_xd_4 h_yn_4 h_yd_4 h_zn_4 h_zd_4 h_l_4
    rw [show (⟨(x).neg, (x).num, (x).den⟩ : QV) = x from rfl] at c
    rw [show (⟨(y).neg, (y).num, (y).den⟩ : QV) = y from rfl] at c
    rw [show (⟨(z).neg, (z).num, (z).den⟩ : QV) = z from rfl] at c
    rw [RT.out] at c
    refine c.mono ?_
    rintro e w5 ⟨rfl, hb⟩
    clear c
    have B5 := B4.trans (hb.mono B4.size)
    have h_xn_5 := h_xn_4.below hb
    have h_xd_5 := h_xd_4.below hb
    have h_yn_5 := h_yn_4.below hb
    have h_yd_5 := h_yd_4.below hb
    have h_zn_5 := h_zn_4.below hb
    have h_zd_5 := h_zd_4.below hb
    have h_x_5 := h_x_4.later hb
    have h_y_5 := h_y_4.later hb
    have h_z_5 := h_z_4.later hb
    clear hb B4 h_xn_4 h_xd_4 h_yn_4 h_yd_4 h_zn_4 h_zd_4 h_x_4 h_y_4 h_z_4 h_l_4
    go_wp2_with fail
    have c := wakes_any w5
    refine c.mono ?_
    rintro e w6 ⟨rfl, hb⟩
    clear c
    have B6 := B5.trans (hb.mono B5.size)
    have h_xn_6 := h_xn_5.below hb
    have h_xd_6 := h_xd_5.below hb
    have h_yn_6 := h_yn_5.below hb
    have h_yd_6 := h_yd_5.below hb
    have h_zn_6 := h_zn_5.below hb
    have h_zd_6 := h_zd_5.below hb
    have h_x_6 := h_x_5.later hb
    have h_y_6 := h_y_5.later hb
    have h_z_6 := h_z_5.later hb
    clear hb B5 h_xn_5 h_xd_5 h_yn_5 h_yd_5 h_zn_5 h_zd_5 h_x_5 h_y_5 h_z_5
    go_wp2_with fail
    go_ret
    exact ⟨rfl, B6⟩
  have RT := Lib.hid (show (decide (okV x) && decide (okV y) && decide (okV z)) = true from by simp only [Bool.and_eq_true, decide_eq_true_eq]; exact ⟨⟨ok.1, ok.2.1⟩, ok.2.2⟩)
  obtain ⟨s, t, a, q, r, cq, u, v, f0, f1, f2, f3, f4, f5, f6, f7, f8, f9, f10, f11, f12, f13⟩ := field_law ⟨h_xn_0.bd, h_xd_0.bd⟩ ⟨h_yn_0.bd, h_yd_0.bd⟩ ⟨h_zn_0.bd, h_zd_0.bd⟩ ok.1 ok.2.1 ok.2.2
  have F0 := Lib.hid f0
  have F1 := Lib.hid f1
  have F2 := Lib.hid f2
  have F3 := Lib.hid f3
  have F4 := Lib.hid f4
  have F5 := Lib.hid f5
  have F6 := Lib.hid f6
  have F7 := Lib.hid f7
  have F8 := Lib.hid f8
  have F9 := Lib.hid f9
  have F10 := Lib.hid f10
  have F11 := Lib.hid f11
  have F12 := Lib.hid f12
  have F13 := Lib.hid f13
  clear f0 f1 f2 f3 f4 f5 f6 f7 f8 f9 f10 f11 f12 f13 ok
  go_enter Tryz.func6, Tryz.ntmps6
  have hb := below_al w (.cells #[.bool (x).neg, .slice a_x n_x c_x, .slice b_x m_x d_x] 24)
  have B1 := B0.trans (hb.mono B0.size)
  have h_xn_1 := h_xn_0.below hb
  have h_xd_1 := h_xd_0.below hb
  have h_yn_1 := h_yn_0.below hb
  have h_yd_1 := h_yd_0.below hb
  have h_zn_1 := h_zn_0.below hb
  have h_zd_1 := h_zd_0.below hb
  clear hb B0 h_xn_0 h_xd_0 h_yn_0 h_yd_0 h_zn_0 h_zd_0
  have h_x_1 := Has.new w #[.bool (x).neg, .slice a_x n_x c_x, .slice b_x m_x d_x] 24
  have hb := below_al (w.alloc (.cells #[.bool (x).neg, .slice a_x n_x c_x, .slice b_x m_x d_x] 24)) (.cells #[.bool (y).neg, .slice a_y n_y c_y, .slice b_y m_y d_y] 24)
  have B2 := B1.trans (hb.mono B1.size)
  have h_xn_2 := h_xn_1.below hb
  have h_xd_2 := h_xd_1.below hb
  have h_yn_2 := h_yn_1.below hb
  have h_yd_2 := h_yd_1.below hb
  have h_zn_2 := h_zn_1.below hb
  have h_zd_2 := h_zd_1.below hb
  have h_x_2 := h_x_1.later hb
  clear hb B1 h_xn_1 h_xd_1 h_yn_1 h_yd_1 h_zn_1 h_zd_1 h_x_1
  have h_y_2 := Has.new (w.alloc (.cells #[.bool (x).neg, .slice a_x n_x c_x, .slice b_x m_x d_x] 24)) #[.bool (y).neg, .slice a_y n_y c_y, .slice b_y m_y d_y] 24
  simp only [World.size_alloc] at h_y_2
  have hb := below_al ((w.alloc (.cells #[.bool (x).neg, .slice a_x n_x c_x, .slice b_x m_x d_x] 24)).alloc (.cells #[.bool (y).neg, .slice a_y n_y c_y, .slice b_y m_y d_y] 24)) (.cells #[.bool (z).neg, .slice a_z n_z c_z, .slice b_z m_z d_z] 24)
  have B3 := B2.trans (hb.mono B2.size)
  have h_xn_3 := h_xn_2.below hb
  have h_xd_3 := h_xd_2.below hb
  have h_yn_3 := h_yn_2.below hb
  have h_yd_3 := h_yd_2.below hb
  have h_zn_3 := h_zn_2.below hb
  have h_zd_3 := h_zd_2.below hb
  have h_x_3 := h_x_2.later hb
  have h_y_3 := h_y_2.later hb
  clear hb B2 h_xn_2 h_xd_2 h_yn_2 h_yd_2 h_zn_2 h_zd_2 h_x_2 h_y_2
  have h_z_3 := Has.new ((w.alloc (.cells #[.bool (x).neg, .slice a_x n_x c_x, .slice b_x m_x d_x] 24)).alloc (.cells #[.bool (y).neg, .slice a_y n_y c_y, .slice b_y m_y d_y] 24)) #[.bool (z).neg, .slice a_z n_z c_z, .slice b_z m_z d_z] 24
  simp only [World.size_alloc] at h_z_3
  have k_x_0 := h_x_3.cell 0 _ rfl
  have k_x_1 := h_x_3.cell 1 _ rfl
  have k_x_2 := h_x_3.cell 2 _ rfl
  have k_y_0 := h_y_3.cell 0 _ rfl
  have k_y_1 := h_y_3.cell 1 _ rfl
  have k_y_2 := h_y_3.cell 2 _ rfl
  have k_z_0 := h_z_3.cell 0 _ rfl
  have k_z_1 := h_z_3.cell 1 _ rfl
  have k_z_2 := h_z_3.cell 2 _ rfl
  have hb := below_al (((w.alloc (.cells #[.bool (x).neg, .slice a_x n_x c_x, .slice b_x m_x d_x] 24)).alloc (.cells #[.bool (y).neg, .slice a_y n_y c_y, .slice b_y m_y d_y] 24)).alloc (.cells #[.bool (z).neg, .slice a_z n_z c_z, .slice b_z m_z d_z] 24)) (.cells #[.bool (x).neg, .slice a_x n_x c_x, .slice b_x m_x d_x, .bool (y).neg, .slice a_y n_y c_y, .slice b_y m_y d_y, .bool (z).neg, .slice a_z n_z c_z, .slice b_z m_z d_z] 24)
  have B4 := B3.trans (hb.mono B3.size)
  have h_xn_4 := h_xn_3.below hb
  have h_xd_4 := h_xd_3.below hb
  have h_yn_4 := h_yn_3.below hb
  have h_yd_4 := h_yd_3.below hb
  have h_zn_4 := h_zn_3.below hb
  have h_zd_4 := h_zd_3.below hb
  have h_x_4 := h_x_3.later hb
  have h_y_4 := h_y_3.later hb
  have h_z_4 := h_z_3.later hb
  clear hb B3 h_xn_3 h_xd_3 h_yn_3 h_yd_3 h_zn_3 h_zd_3 h_x_3 h_y_3 h_z_3
  have h_l_4 := Has.new (((w.alloc (.cells #[.bool (x).neg, .slice a_x n_x c_x, .slice b_x m_x d_x] 24)).alloc (.cells #[.bool (y).neg, .slice a_y n_y c_y, .slice b_y m_y d_y] 24)).alloc (.cells #[.bool (z).neg, .slice a_z n_z c_z, .slice b_z m_z d_z] 24)) #[.bool (x).neg, .slice a_x n_x c_x, .slice b_x m_x d_x, .bool (y).neg, .slice a_y n_y c_y, .slice b_y m_y d_y, .bool (z).neg, .slice a_z n_z c_z, .slice b_z m_z d_z] 24
  simp only [World.size_alloc] at h_l_4
  go_wp2_with fail
  clear k_x_0 k_x_1 k_x_2 k_y_0 k_y_1 k_y_2 k_z_0 k_z_1 k_z_2
  generalize ((((w.alloc (.cells #[.bool (x).neg, .slice a_x n_x c_x, .slice b_x m_x d_x] 24)).alloc (.cells #[.bool (y).neg, .slice a_y n_y c_y, .slice b_y m_y d_y] 24)).alloc (.cells #[.bool (z).neg, .slice a_z n_z c_z, .slice b_z m_z d_z] 24)).alloc (.cells #[.bool (x).neg, .slice a_x n_x c_x, .slice b_x m_x d_x, .bool (y).neg, .slice a_y n_y c_y, .slice b_y m_y d_y, .bool (z).neg, .slice a_z n_z c_z, .slice b_z m_z d_z] 24)) = w4 at *
  have c := right3_any w4 (g_x := (x).neg) (g_y := (y).neg) (g_z := (z).neg) h_xn_4 h_xd_4 h_yn_4 h_yd_4 h_zn_4 h_zd_4 h_l_4
  rw [show (⟨(x).neg, (x).num, (x).den⟩ : QV) = x from rfl] at c
  rw [show (⟨(y).neg, (y).num, (y).den⟩ : QV) = y from rfl] at c
  rw [show (⟨(z).neg, (z).num, (z).den⟩ : QV) = z from rfl] at c
  rw [RT.out] at c
  refine c.mono ?_
  rintro e w5 ⟨rfl, hb⟩
  clear c
  have B5 := B4.trans (hb.mono B4.size)
  have h_xn_5 := h_xn_4.below hb
  have h_xd_5 := h_xd_4.below hb
  have h_yn_5 := h_yn_4.below hb
  have h_yd_5 := h_yd_4.below hb
  have h_zn_5 := h_zn_4.below hb
  have h_zd_5 := h_zd_4.below hb
  have h_x_5 := h_x_4.later hb
  have h_y_5 := h_y_4.later hb
  have h_z_5 := h_z_4.later hb
  clear hb B4 h_xn_4 h_xd_4 h_yn_4 h_yd_4 h_zn_4 h_zd_4 h_x_4 h_y_4 h_z_4 h_l_4
  have k_x_0 := h_x_5.cell 0 _ rfl
  have k_x_1 := h_x_5.cell 1 _ rfl
  have k_x_2 := h_x_5.cell 2 _ rfl
  have k_y_0 := h_y_5.cell 0 _ rfl
  have k_y_1 := h_y_5.cell 1 _ rfl
  have k_y_2 := h_y_5.cell 2 _ rfl
  go_wp2_with fail
  clear k_x_0 k_x_1 k_x_2 k_y_0 k_y_1 k_y_2
  have c := ratAdd_any w5 (g1 := (x).neg) (g2 := (y).neg) h_xn_5 h_xd_5 h_yn_5 h_yd_5
  rw [show (⟨(x).neg, (x).num, (x).den⟩ : QV) = x from rfl] at c
  rw [show (⟨(y).neg, (y).num, (y).den⟩ : QV) = y from rfl] at c
  rw [F0.out] at c
  refine c.mono ?_
  rintro e w6 ⟨a_e, n_e, c_e, b_e, m_e, d_e, rfl, h_en_6, h_ed_6, hb⟩
  clear c
  have B6 := B5.trans (hb.mono B5.size)
  have h_xn_6 := h_xn_5.below hb
  have h_xd_6 := h_xd_5.below hb
  have h_yn_6 := h_yn_5.below hb
  have h_yd_6 := h_yd_5.below hb
  have h_zn_6 := h_zn_5.below hb
  have h_zd_6 := h_zd_5.below hb
  have h_x_6 := h_x_5.later hb
  have h_y_6 := h_y_5.later hb
  have h_z_6 := h_z_5.later hb
  clear hb B5 h_xn_5 h_xd_5 h_yn_5 h_yd_5 h_zn_5 h_zd_5 h_x_5 h_y_5 h_z_5
  have hb := below_al w6 (.cells #[.bool (s).neg, .slice a_e n_e c_e, .slice b_e m_e d_e] 24)
  have B7 := B6.trans (hb.mono B6.size)
  have h_xn_7 := h_xn_6.below hb
  have h_xd_7 := h_xd_6.below hb
  have h_yn_7 := h_yn_6.below hb
  have h_yd_7 := h_yd_6.below hb
  have h_zn_7 := h_zn_6.below hb
  have h_zd_7 := h_zd_6.below hb
  have h_x_7 := h_x_6.later hb
  have h_y_7 := h_y_6.later hb
  have h_z_7 := h_z_6.later hb
  have h_en_7 := h_en_6.below hb
  have h_ed_7 := h_ed_6.below hb
  clear hb B6 h_xn_6 h_xd_6 h_yn_6 h_yd_6 h_zn_6 h_zd_6 h_x_6 h_y_6 h_z_6 h_en_6 h_ed_6
  have h_e_7 := Has.new w6 #[.bool (s).neg, .slice a_e n_e c_e, .slice b_e m_e d_e] 24
  have k_y_0 := h_y_7.cell 0 _ rfl
  have k_y_1 := h_y_7.cell 1 _ rfl
  have k_y_2 := h_y_7.cell 2 _ rfl
  have k_x_0 := h_x_7.cell 0 _ rfl
  have k_x_1 := h_x_7.cell 1 _ rfl
  have k_x_2 := h_x_7.cell 2 _ rfl
  go_wp2_with first | refine wpList_store_new rfl 24 _ _ rfl atRat _ _ _ rfl rfl rfl rfl (rat_one _ _ _ _ _ _ _) ?_
  clear k_y_0 k_y_1 k_y_2 k_x_0 k_x_1 k_x_2
  generalize (w6.alloc (.cells #[.bool (s).neg, .slice a_e n_e c_e, .slice b_e m_e d_e] 24)) = w7 at *
  have c := ratAdd_any w7 (g1 := (y).neg) (g2 := (x).neg) h_yn_7 h_yd_7 h_xn_7 h_xd_7
  rw [show (⟨(y).neg, (y).num, (y).den⟩ : QV) = y from rfl] at c
  rw [show (⟨(x).neg, (x).num, (x).den⟩ : QV) = x from rfl] at c
  rw [F1.out] at c
  refine c.mono ?_
  rintro e w8 ⟨a_f, n_f, c_f, b_f, m_f, d_f, rfl, h_fn_8, h_fd_8, hb⟩
  clear c
  have B8 := B7.trans (hb.mono B7.size)
  have h_xn_8 := h_xn_7.below hb
  have h_xd_8 := h_xd_7.below hb
  have h_yn_8 := h_yn_7.below hb
  have h_yd_8 := h_yd_7.below hb
  have h_zn_8 := h_zn_7.below hb
  have h_zd_8 := h_zd_7.below hb
  have h_x_8 := h_x_7.later hb
  have h_y_8 := h_y_7.later hb
  have h_z_8 := h_z_7.later hb
  have h_en_8 := h_en_7.below hb
  have h_ed_8 := h_ed_7.below hb
  have h_e_8 := h_e_7.later hb
  clear hb B7 h_xn_7 h_xd_7 h_yn_7 h_yd_7 h_zn_7 h_zd_7 h_x_7 h_y_7 h_z_7 h_en_7 h_ed_7 h_e_7
  have hb := below_al w8 (.cells #[.bool (s).neg, .slice a_f n_f c_f, .slice b_f m_f d_f] 24)
  have B9 := B8.trans (hb.mono B8.size)
  have h_xn_9 := h_xn_8.below hb
  have h_xd_9 := h_xd_8.below hb
  have h_yn_9 := h_yn_8.below hb
  have h_yd_9 := h_yd_8.below hb
  have h_zn_9 := h_zn_8.below hb
  have h_zd_9 := h_zd_8.below hb
  have h_x_9 := h_x_8.later hb
  have h_y_9 := h_y_8.later hb
  have h_z_9 := h_z_8.later hb
  have h_en_9 := h_en_8.below hb
  have h_ed_9 := h_ed_8.below hb
  have h_e_9 := h_e_8.later hb
  have h_fn_9 := h_fn_8.below hb
  have h_fd_9 := h_fd_8.below hb
  clear hb B8 h_xn_8 h_xd_8 h_yn_8 h_yd_8 h_zn_8 h_zd_8 h_x_8 h_y_8 h_z_8 h_en_8 h_ed_8 h_e_8 h_fn_8 h_fd_8
  have h_f_9 := Has.new w8 #[.bool (s).neg, .slice a_f n_f c_f, .slice b_f m_f d_f] 24
  have k_y_0 := h_y_9.cell 0 _ rfl
  have k_y_1 := h_y_9.cell 1 _ rfl
  have k_y_2 := h_y_9.cell 2 _ rfl
  have k_z_0 := h_z_9.cell 0 _ rfl
  have k_z_1 := h_z_9.cell 1 _ rfl
  have k_z_2 := h_z_9.cell 2 _ rfl
  go_wp2_with first | refine wpList_store_new rfl 24 _ _ rfl atRat _ _ _ rfl rfl rfl rfl (rat_one _ _ _ _ _ _ _) ?_
  clear k_y_0 k_y_1 k_y_2 k_z_0 k_z_1 k_z_2
  generalize (w8.alloc (.cells #[.bool (s).neg, .slice a_f n_f c_f, .slice b_f m_f d_f] 24)) = w9 at *
  have c := ratAdd_any w9 (g1 := (y).neg) (g2 := (z).neg) h_yn_9 h_yd_9 h_zn_9 h_zd_9
  rw [show (⟨(y).neg, (y).num, (y).den⟩ : QV) = y from rfl] at c
  rw [show (⟨(z).neg, (z).num, (z).den⟩ : QV) = z from rfl] at c
  rw [F2.out] at c
  refine c.mono ?_
  rintro e w10 ⟨a_h, n_h, c_h, b_h, m_h, d_h, rfl, h_hn_10, h_hd_10, hb⟩
  clear c
  have B10 := B9.trans (hb.mono B9.size)
  have h_xn_10 := h_xn_9.below hb
  have h_xd_10 := h_xd_9.below hb
  have h_yn_10 := h_yn_9.below hb
  have h_yd_10 := h_yd_9.below hb
  have h_zn_10 := h_zn_9.below hb
  have h_zd_10 := h_zd_9.below hb
  have h_x_10 := h_x_9.later hb
  have h_y_10 := h_y_9.later hb
  have h_z_10 := h_z_9.later hb
  have h_en_10 := h_en_9.below hb
  have h_ed_10 := h_ed_9.below hb
  have h_e_10 := h_e_9.later hb
  have h_fn_10 := h_fn_9.below hb
  have h_fd_10 := h_fd_9.below hb
  have h_f_10 := h_f_9.later hb
  clear hb B9 h_xn_9 h_xd_9 h_yn_9 h_yd_9 h_zn_9 h_zd_9 h_x_9 h_y_9 h_z_9 h_en_9 h_ed_9 h_e_9 h_fn_9 h_fd_9 h_f_9
  have hb := below_al w10 (.cells #[.bool (t).neg, .slice a_h n_h c_h, .slice b_h m_h d_h] 24)
  have B11 := B10.trans (hb.mono B10.size)
  have h_xn_11 := h_xn_10.below hb
  have h_xd_11 := h_xd_10.below hb
  have h_yn_11 := h_yn_10.below hb
  have h_yd_11 := h_yd_10.below hb
  have h_zn_11 := h_zn_10.below hb
  have h_zd_11 := h_zd_10.below hb
  have h_x_11 := h_x_10.later hb
  have h_y_11 := h_y_10.later hb
  have h_z_11 := h_z_10.later hb
  have h_en_11 := h_en_10.below hb
  have h_ed_11 := h_ed_10.below hb
  have h_e_11 := h_e_10.later hb
  have h_fn_11 := h_fn_10.below hb
  have h_fd_11 := h_fd_10.below hb
  have h_f_11 := h_f_10.later hb
  have h_hn_11 := h_hn_10.below hb
  have h_hd_11 := h_hd_10.below hb
  clear hb B10 h_xn_10 h_xd_10 h_yn_10 h_yd_10 h_zn_10 h_zd_10 h_x_10 h_y_10 h_z_10 h_en_10 h_ed_10 h_e_10 h_fn_10 h_fd_10 h_f_10 h_hn_10 h_hd_10
  have h_h_11 := Has.new w10 #[.bool (t).neg, .slice a_h n_h c_h, .slice b_h m_h d_h] 24
  have k_e_0 := h_e_11.cell 0 _ rfl
  have k_e_1 := h_e_11.cell 1 _ rfl
  have k_e_2 := h_e_11.cell 2 _ rfl
  have k_z_0 := h_z_11.cell 0 _ rfl
  have k_z_1 := h_z_11.cell 1 _ rfl
  have k_z_2 := h_z_11.cell 2 _ rfl
  go_wp2_with first | refine wpList_store_new rfl 24 _ _ rfl atRat _ _ _ rfl rfl rfl rfl (rat_one _ _ _ _ _ _ _) ?_
  clear k_e_0 k_e_1 k_e_2 k_z_0 k_z_1 k_z_2
  generalize (w10.alloc (.cells #[.bool (t).neg, .slice a_h n_h c_h, .slice b_h m_h d_h] 24)) = w11 at *
  have c := ratAdd_any w11 (g1 := (s).neg) (g2 := (z).neg) h_en_11 h_ed_11 h_zn_11 h_zd_11
  rw [show (⟨(s).neg, (s).num, (s).den⟩ : QV) = s from rfl] at c
  rw [show (⟨(z).neg, (z).num, (z).den⟩ : QV) = z from rfl] at c
  rw [F3.out] at c
  refine c.mono ?_
  rintro e w12 ⟨a_i, n_i, c_i, b_i, m_i, d_i, rfl, h_in_12, h_id_12, hb⟩
  clear c
  have B12 := B11.trans (hb.mono B11.size)
  have h_xn_12 := h_xn_11.below hb
  have h_xd_12 := h_xd_11.below hb
  have h_yn_12 := h_yn_11.below hb
  have h_yd_12 := h_yd_11.below hb
  have h_zn_12 := h_zn_11.below hb
  have h_zd_12 := h_zd_11.below hb
  have h_x_12 := h_x_11.later hb
  have h_y_12 := h_y_11.later hb
  have h_z_12 := h_z_11.later hb
  have h_en_12 := h_en_11.below hb
  have h_ed_12 := h_ed_11.below hb
  have h_e_12 := h_e_11.later hb
  have h_fn_12 := h_fn_11.below hb
  have h_fd_12 := h_fd_11.below hb
  have h_f_12 := h_f_11.later hb
  have h_hn_12 := h_hn_11.below hb
  have h_hd_12 := h_hd_11.below hb
  have h_h_12 := h_h_11.later hb
  clear hb B11 h_xn_11 h_xd_11 h_yn_11 h_yd_11 h_zn_11 h_zd_11 h_x_11 h_y_11 h_z_11 h_en_11 h_ed_11 h_e_11 h_fn_11 h_fd_11 h_f_11 h_hn_11 h_hd_11 h_h_11
  have hb := below_al w12 (.cells #[.bool (a).neg, .slice a_i n_i c_i, .slice b_i m_i d_i] 24)
  have B13 := B12.trans (hb.mono B12.size)
  have h_xn_13 := h_xn_12.below hb
  have h_xd_13 := h_xd_12.below hb
  have h_yn_13 := h_yn_12.below hb
  have h_yd_13 := h_yd_12.below hb
  have h_zn_13 := h_zn_12.below hb
  have h_zd_13 := h_zd_12.below hb
  have h_x_13 := h_x_12.later hb
  have h_y_13 := h_y_12.later hb
  have h_z_13 := h_z_12.later hb
  have h_en_13 := h_en_12.below hb
  have h_ed_13 := h_ed_12.below hb
  have h_e_13 := h_e_12.later hb
  have h_fn_13 := h_fn_12.below hb
  have h_fd_13 := h_fd_12.below hb
  have h_f_13 := h_f_12.later hb
  have h_hn_13 := h_hn_12.below hb
  have h_hd_13 := h_hd_12.below hb
  have h_h_13 := h_h_12.later hb
  have h_in_13 := h_in_12.below hb
  have h_id_13 := h_id_12.below hb
  clear hb B12 h_xn_12 h_xd_12 h_yn_12 h_yd_12 h_zn_12 h_zd_12 h_x_12 h_y_12 h_z_12 h_en_12 h_ed_12 h_e_12 h_fn_12 h_fd_12 h_f_12 h_hn_12 h_hd_12 h_h_12 h_in_12 h_id_12
  have h_i_13 := Has.new w12 #[.bool (a).neg, .slice a_i n_i c_i, .slice b_i m_i d_i] 24
  have k_x_0 := h_x_13.cell 0 _ rfl
  have k_x_1 := h_x_13.cell 1 _ rfl
  have k_x_2 := h_x_13.cell 2 _ rfl
  have k_h_0 := h_h_13.cell 0 _ rfl
  have k_h_1 := h_h_13.cell 1 _ rfl
  have k_h_2 := h_h_13.cell 2 _ rfl
  go_wp2_with first | refine wpList_store_new rfl 24 _ _ rfl atRat _ _ _ rfl rfl rfl rfl (rat_one _ _ _ _ _ _ _) ?_
  clear k_x_0 k_x_1 k_x_2 k_h_0 k_h_1 k_h_2
  generalize (w12.alloc (.cells #[.bool (a).neg, .slice a_i n_i c_i, .slice b_i m_i d_i] 24)) = w13 at *
  have c := ratAdd_any w13 (g1 := (x).neg) (g2 := (t).neg) h_xn_13 h_xd_13 h_hn_13 h_hd_13
  rw [show (⟨(x).neg, (x).num, (x).den⟩ : QV) = x from rfl] at c
  rw [show (⟨(t).neg, (t).num, (t).den⟩ : QV) = t from rfl] at c
  rw [F4.out] at c
  refine c.mono ?_
  rintro e w14 ⟨a_j, n_j, c_j, b_j, m_j, d_j, rfl, h_jn_14, h_jd_14, hb⟩
  clear c
  have B14 := B13.trans (hb.mono B13.size)
  have h_xn_14 := h_xn_13.below hb
  have h_xd_14 := h_xd_13.below hb
  have h_yn_14 := h_yn_13.below hb
  have h_yd_14 := h_yd_13.below hb
  have h_zn_14 := h_zn_13.below hb
  have h_zd_14 := h_zd_13.below hb
  have h_x_14 := h_x_13.later hb
  have h_y_14 := h_y_13.later hb
  have h_z_14 := h_z_13.later hb
  have h_en_14 := h_en_13.below hb
  have h_ed_14 := h_ed_13.below hb
  have h_e_14 := h_e_13.later hb
  have h_fn_14 := h_fn_13.below hb
  have h_fd_14 := h_fd_13.below hb
  have h_f_14 := h_f_13.later hb
  have h_hn_14 := h_hn_13.below hb
  have h_hd_14 := h_hd_13.below hb
  have h_h_14 := h_h_13.later hb
  have h_in_14 := h_in_13.below hb
  have h_id_14 := h_id_13.below hb
  have h_i_14 := h_i_13.later hb
  clear hb B13 h_xn_13 h_xd_13 h_yn_13 h_yd_13 h_zn_13 h_zd_13 h_x_13 h_y_13 h_z_13 h_en_13 h_ed_13 h_e_13 h_fn_13 h_fd_13 h_f_13 h_hn_13 h_hd_13 h_h_13 h_in_13 h_id_13 h_i_13
  have hb := below_al w14 (.cells #[.bool (a).neg, .slice a_j n_j c_j, .slice b_j m_j d_j] 24)
  have B15 := B14.trans (hb.mono B14.size)
  have h_xn_15 := h_xn_14.below hb
  have h_xd_15 := h_xd_14.below hb
  have h_yn_15 := h_yn_14.below hb
  have h_yd_15 := h_yd_14.below hb
  have h_zn_15 := h_zn_14.below hb
  have h_zd_15 := h_zd_14.below hb
  have h_x_15 := h_x_14.later hb
  have h_y_15 := h_y_14.later hb
  have h_z_15 := h_z_14.later hb
  have h_en_15 := h_en_14.below hb
  have h_ed_15 := h_ed_14.below hb
  have h_e_15 := h_e_14.later hb
  have h_fn_15 := h_fn_14.below hb
  have h_fd_15 := h_fd_14.below hb
  have h_f_15 := h_f_14.later hb
  have h_hn_15 := h_hn_14.below hb
  have h_hd_15 := h_hd_14.below hb
  have h_h_15 := h_h_14.later hb
  have h_in_15 := h_in_14.below hb
  have h_id_15 := h_id_14.below hb
  have h_i_15 := h_i_14.later hb
  have h_jn_15 := h_jn_14.below hb
  have h_jd_15 := h_jd_14.below hb
  clear hb B14 h_xn_14 h_xd_14 h_yn_14 h_yd_14 h_zn_14 h_zd_14 h_x_14 h_y_14 h_z_14 h_en_14 h_ed_14 h_e_14 h_fn_14 h_fd_14 h_f_14 h_hn_14 h_hd_14 h_h_14 h_in_14 h_id_14 h_i_14 h_jn_14 h_jd_14
  have h_j_15 := Has.new w14 #[.bool (a).neg, .slice a_j n_j c_j, .slice b_j m_j d_j] 24
  have k_e_0 := h_e_15.cell 0 _ rfl
  have k_e_1 := h_e_15.cell 1 _ rfl
  have k_e_2 := h_e_15.cell 2 _ rfl
  have k_f_0 := h_f_15.cell 0 _ rfl
  have k_f_1 := h_f_15.cell 1 _ rfl
  have k_f_2 := h_f_15.cell 2 _ rfl
  go_wp2_with first | refine wpList_store_new rfl 24 _ _ rfl atRat _ _ _ rfl rfl rfl rfl (rat_one _ _ _ _ _ _ _) ?_
  clear k_e_0 k_e_1 k_e_2 k_f_0 k_f_1 k_f_2
  generalize (w14.alloc (.cells #[.bool (a).neg, .slice a_j n_j c_j, .slice b_j m_j d_j] 24)) = w15 at *
  have c := refRatSame_any w15 (g1 := (s).neg) (g2 := (s).neg) h_en_15 h_ed_15 h_fn_15 h_fd_15
  rw [show (⟨(s).neg, (s).num, (s).den⟩ : QV) = s from rfl] at c
  rw [sameV_self] at c
  refine c.mono ?_
  rintro e w16 ⟨rfl, hb⟩
  clear c
  have B16 := B15.trans (hb.mono B15.size)
  have h_xn_16 := h_xn_15.below hb
  have h_xd_16 := h_xd_15.below hb
  have h_yn_16 := h_yn_15.below hb
  have h_yd_16 := h_yd_15.below hb
  have h_zn_16 := h_zn_15.below hb
  have h_zd_16 := h_zd_15.below hb
  have h_x_16 := h_x_15.later hb
  have h_y_16 := h_y_15.later hb
  have h_z_16 := h_z_15.later hb
  have h_en_16 := h_en_15.below hb
  have h_ed_16 := h_ed_15.below hb
  have h_e_16 := h_e_15.later hb
  have h_fn_16 := h_fn_15.below hb
  have h_fd_16 := h_fd_15.below hb
  have h_f_16 := h_f_15.later hb
  have h_hn_16 := h_hn_15.below hb
  have h_hd_16 := h_hd_15.below hb
  have h_h_16 := h_h_15.later hb
  have h_in_16 := h_in_15.below hb
  have h_id_16 := h_id_15.below hb
  have h_i_16 := h_i_15.later hb
  have h_jn_16 := h_jn_15.below hb
  have h_jd_16 := h_jd_15.below hb
  have h_j_16 := h_j_15.later hb
  clear hb B15 h_xn_15 h_xd_15 h_yn_15 h_yd_15 h_zn_15 h_zd_15 h_x_15 h_y_15 h_z_15 h_en_15 h_ed_15 h_e_15 h_fn_15 h_fd_15 h_f_15 h_hn_15 h_hd_15 h_h_15 h_in_15 h_id_15 h_i_15 h_jn_15 h_jd_15 h_j_15
  clear h_f_16 h_fn_16 h_fd_16 h_h_16 h_hn_16 h_hd_16
  have k_i_0 := h_i_16.cell 0 _ rfl
  have k_i_1 := h_i_16.cell 1 _ rfl
  have k_i_2 := h_i_16.cell 2 _ rfl
  have k_j_0 := h_j_16.cell 0 _ rfl
  have k_j_1 := h_j_16.cell 1 _ rfl
  have k_j_2 := h_j_16.cell 2 _ rfl
  go_wp2_with fail
  clear k_i_0 k_i_1 k_i_2 k_j_0 k_j_1 k_j_2
  have c := refRatSame_any w16 (g1 := (a).neg) (g2 := (a).neg) h_in_16 h_id_16 h_jn_16 h_jd_16
  rw [show (⟨(a).neg, (a).num, (a).den⟩ : QV) = a from rfl] at c
  rw [sameV_self] at c
  refine c.mono ?_
  rintro e w17 ⟨rfl, hb⟩
  clear c
  have B17 := B16.trans (hb.mono B16.size)
  have h_xn_17 := h_xn_16.below hb
  have h_xd_17 := h_xd_16.below hb
  have h_yn_17 := h_yn_16.below hb
  have h_yd_17 := h_yd_16.below hb
  have h_zn_17 := h_zn_16.below hb
  have h_zd_17 := h_zd_16.below hb
  have h_x_17 := h_x_16.later hb
  have h_y_17 := h_y_16.later hb
  have h_z_17 := h_z_16.later hb
  have h_en_17 := h_en_16.below hb
  have h_ed_17 := h_ed_16.below hb
  have h_e_17 := h_e_16.later hb
  have h_in_17 := h_in_16.below hb
  have h_id_17 := h_id_16.below hb
  have h_i_17 := h_i_16.later hb
  have h_jn_17 := h_jn_16.below hb
  have h_jd_17 := h_jd_16.below hb
  have h_j_17 := h_j_16.later hb
  clear hb B16 h_xn_16 h_xd_16 h_yn_16 h_yd_16 h_zn_16 h_zd_16 h_x_16 h_y_16 h_z_16 h_en_16 h_ed_16 h_e_16 h_in_16 h_id_16 h_i_16 h_jn_16 h_jd_16 h_j_16
  clear h_i_17 h_in_17 h_id_17 h_j_17 h_jn_17 h_jd_17
  have k_x_0 := h_x_17.cell 0 _ rfl
  have k_x_1 := h_x_17.cell 1 _ rfl
  have k_x_2 := h_x_17.cell 2 _ rfl
  have k_y_0 := h_y_17.cell 0 _ rfl
  have k_y_1 := h_y_17.cell 1 _ rfl
  have k_y_2 := h_y_17.cell 2 _ rfl
  go_wp2_with fail
  clear k_x_0 k_x_1 k_x_2 k_y_0 k_y_1 k_y_2
  have c := ratMul_any w17 (g1 := (x).neg) (g2 := (y).neg) h_xn_17 h_xd_17 h_yn_17 h_yd_17
  rw [show (⟨(x).neg, (x).num, (x).den⟩ : QV) = x from rfl] at c
  rw [show (⟨(y).neg, (y).num, (y).den⟩ : QV) = y from rfl] at c
  rw [F5.out] at c
  refine c.mono ?_
  rintro e w18 ⟨a_k, n_k, c_k, b_k, m_k, d_k, rfl, h_kn_18, h_kd_18, hb⟩
  clear c
  have B18 := B17.trans (hb.mono B17.size)
  have h_xn_18 := h_xn_17.below hb
  have h_xd_18 := h_xd_17.below hb
  have h_yn_18 := h_yn_17.below hb
  have h_yd_18 := h_yd_17.below hb
  have h_zn_18 := h_zn_17.below hb
  have h_zd_18 := h_zd_17.below hb
  have h_x_18 := h_x_17.later hb
  have h_y_18 := h_y_17.later hb
  have h_z_18 := h_z_17.later hb
  have h_en_18 := h_en_17.below hb
  have h_ed_18 := h_ed_17.below hb
  have h_e_18 := h_e_17.later hb
  clear hb B17 h_xn_17 h_xd_17 h_yn_17 h_yd_17 h_zn_17 h_zd_17 h_x_17 h_y_17 h_z_17 h_en_17 h_ed_17 h_e_17
  have hb := below_al w18 (.cells #[.bool (q).neg, .slice a_k n_k c_k, .slice b_k m_k d_k] 24)
  have B19 := B18.trans (hb.mono B18.size)
  have h_xn_19 := h_xn_18.below hb
  have h_xd_19 := h_xd_18.below hb
  have h_yn_19 := h_yn_18.below hb
  have h_yd_19 := h_yd_18.below hb
  have h_zn_19 := h_zn_18.below hb
  have h_zd_19 := h_zd_18.below hb
  have h_x_19 := h_x_18.later hb
  have h_y_19 := h_y_18.later hb
  have h_z_19 := h_z_18.later hb
  have h_en_19 := h_en_18.below hb
  have h_ed_19 := h_ed_18.below hb
  have h_e_19 := h_e_18.later hb
  have h_kn_19 := h_kn_18.below hb
  have h_kd_19 := h_kd_18.below hb
  clear hb B18 h_xn_18 h_xd_18 h_yn_18 h_yd_18 h_zn_18 h_zd_18 h_x_18 h_y_18 h_z_18 h_en_18 h_ed_18 h_e_18 h_kn_18 h_kd_18
  have h_k_19 := Has.new w18 #[.bool (q).neg, .slice a_k n_k c_k, .slice b_k m_k d_k] 24
  have k_y_0 := h_y_19.cell 0 _ rfl
  have k_y_1 := h_y_19.cell 1 _ rfl
  have k_y_2 := h_y_19.cell 2 _ rfl
  have k_x_0 := h_x_19.cell 0 _ rfl
  have k_x_1 := h_x_19.cell 1 _ rfl
  have k_x_2 := h_x_19.cell 2 _ rfl
  go_wp2_with first | refine wpList_store_new rfl 24 _ _ rfl atRat _ _ _ rfl rfl rfl rfl (rat_one _ _ _ _ _ _ _) ?_
  clear k_y_0 k_y_1 k_y_2 k_x_0 k_x_1 k_x_2
  generalize (w18.alloc (.cells #[.bool (q).neg, .slice a_k n_k c_k, .slice b_k m_k d_k] 24)) = w19 at *
  have c := ratMul_any w19 (g1 := (y).neg) (g2 := (x).neg) h_yn_19 h_yd_19 h_xn_19 h_xd_19
  rw [show (⟨(y).neg, (y).num, (y).den⟩ : QV) = y from rfl] at c
  rw [show (⟨(x).neg, (x).num, (x).den⟩ : QV) = x from rfl] at c
  rw [F6.out] at c
  refine c.mono ?_
  rintro e w20 ⟨a_f, n_f, c_f, b_f, m_f, d_f, rfl, h_fn_20, h_fd_20, hb⟩
  clear c
  have B20 := B19.trans (hb.mono B19.size)
  have h_xn_20 := h_xn_19.below hb
  have h_xd_20 := h_xd_19.below hb
  have h_yn_20 := h_yn_19.below hb
  have h_yd_20 := h_yd_19.below hb
  have h_zn_20 := h_zn_19.below hb
  have h_zd_20 := h_zd_19.below hb
  have h_x_20 := h_x_19.later hb
  have h_y_20 := h_y_19.later hb
  have h_z_20 := h_z_19.later hb
  have h_en_20 := h_en_19.below hb
  have h_ed_20 := h_ed_19.below hb
  have h_e_20 := h_e_19.later hb
  have h_kn_20 := h_kn_19.below hb
  have h_kd_20 := h_kd_19.below hb
  have h_k_20 := h_k_19.later hb
  clear hb B19 h_xn_19 h_xd_19 h_yn_19 h_yd_19 h_zn_19 h_zd_19 h_x_19 h_y_19 h_z_19 h_en_19 h_ed_19 h_e_19 h_kn_19 h_kd_19 h_k_19
  have hb := below_al w20 (.cells #[.bool (q).neg, .slice a_f n_f c_f, .slice b_f m_f d_f] 24)
  have B21 := B20.trans (hb.mono B20.size)
  have h_xn_21 := h_xn_20.below hb
  have h_xd_21 := h_xd_20.below hb
  have h_yn_21 := h_yn_20.below hb
  have h_yd_21 := h_yd_20.below hb
  have h_zn_21 := h_zn_20.below hb
  have h_zd_21 := h_zd_20.below hb
  have h_x_21 := h_x_20.later hb
  have h_y_21 := h_y_20.later hb
  have h_z_21 := h_z_20.later hb
  have h_en_21 := h_en_20.below hb
  have h_ed_21 := h_ed_20.below hb
  have h_e_21 := h_e_20.later hb
  have h_kn_21 := h_kn_20.below hb
  have h_kd_21 := h_kd_20.below hb
  have h_k_21 := h_k_20.later hb
  have h_fn_21 := h_fn_20.below hb
  have h_fd_21 := h_fd_20.below hb
  clear hb B20 h_xn_20 h_xd_20 h_yn_20 h_yd_20 h_zn_20 h_zd_20 h_x_20 h_y_20 h_z_20 h_en_20 h_ed_20 h_e_20 h_kn_20 h_kd_20 h_k_20 h_fn_20 h_fd_20
  have h_f_21 := Has.new w20 #[.bool (q).neg, .slice a_f n_f c_f, .slice b_f m_f d_f] 24
  have k_y_0 := h_y_21.cell 0 _ rfl
  have k_y_1 := h_y_21.cell 1 _ rfl
  have k_y_2 := h_y_21.cell 2 _ rfl
  have k_z_0 := h_z_21.cell 0 _ rfl
  have k_z_1 := h_z_21.cell 1 _ rfl
  have k_z_2 := h_z_21.cell 2 _ rfl
  go_wp2_with first | refine wpList_store_new rfl 24 _ _ rfl atRat _ _ _ rfl rfl rfl rfl (rat_one _ _ _ _ _ _ _) ?_
  clear k_y_0 k_y_1 k_y_2 k_z_0 k_z_1 k_z_2
  generalize (w20.alloc (.cells #[.bool (q).neg, .slice a_f n_f c_f, .slice b_f m_f d_f] 24)) = w21 at *
  have c := ratMul_any w21 (g1 := (y).neg) (g2 := (z).neg) h_yn_21 h_yd_21 h_zn_21 h_zd_21
  rw [show (⟨(y).neg, (y).num, (y).den⟩ : QV) = y from rfl] at c
  rw [show (⟨(z).neg, (z).num, (z).den⟩ : QV) = z from rfl] at c
  rw [F7.out] at c
  refine c.mono ?_
  rintro e w22 ⟨a_h, n_h, c_h, b_h, m_h, d_h, rfl, h_hn_22, h_hd_22, hb⟩
  clear c
  have B22 := B21.trans (hb.mono B21.size)
  have h_xn_22 := h_xn_21.below hb
  have h_xd_22 := h_xd_21.below hb
  have h_yn_22 := h_yn_21.below hb
  have h_yd_22 := h_yd_21.below hb
  have h_zn_22 := h_zn_21.below hb
  have h_zd_22 := h_zd_21.below hb
  have h_x_22 := h_x_21.later hb
  have h_y_22 := h_y_21.later hb
  have h_z_22 := h_z_21.later hb
  have h_en_22 := h_en_21.below hb
  have h_ed_22 := h_ed_21.below hb
  have h_e_22 := h_e_21.later hb
  have h_kn_22 := h_kn_21.below hb
  have h_kd_22 := h_kd_21.below hb
  have h_k_22 := h_k_21.later hb
  have h_fn_22 := h_fn_21.below hb
  have h_fd_22 := h_fd_21.below hb
  have h_f_22 := h_f_21.later hb
  clear hb B21 h_xn_21 h_xd_21 h_yn_21 h_yd_21 h_zn_21 h_zd_21 h_x_21 h_y_21 h_z_21 h_en_21 h_ed_21 h_e_21 h_kn_21 h_kd_21 h_k_21 h_fn_21 h_fd_21 h_f_21
  have hb := below_al w22 (.cells #[.bool (r).neg, .slice a_h n_h c_h, .slice b_h m_h d_h] 24)
  have B23 := B22.trans (hb.mono B22.size)
  have h_xn_23 := h_xn_22.below hb
  have h_xd_23 := h_xd_22.below hb
  have h_yn_23 := h_yn_22.below hb
  have h_yd_23 := h_yd_22.below hb
  have h_zn_23 := h_zn_22.below hb
  have h_zd_23 := h_zd_22.below hb
  have h_x_23 := h_x_22.later hb
  have h_y_23 := h_y_22.later hb
  have h_z_23 := h_z_22.later hb
  have h_en_23 := h_en_22.below hb
  have h_ed_23 := h_ed_22.below hb
  have h_e_23 := h_e_22.later hb
  have h_kn_23 := h_kn_22.below hb
  have h_kd_23 := h_kd_22.below hb
  have h_k_23 := h_k_22.later hb
  have h_fn_23 := h_fn_22.below hb
  have h_fd_23 := h_fd_22.below hb
  have h_f_23 := h_f_22.later hb
  have h_hn_23 := h_hn_22.below hb
  have h_hd_23 := h_hd_22.below hb
  clear hb B22 h_xn_22 h_xd_22 h_yn_22 h_yd_22 h_zn_22 h_zd_22 h_x_22 h_y_22 h_z_22 h_en_22 h_ed_22 h_e_22 h_kn_22 h_kd_22 h_k_22 h_fn_22 h_fd_22 h_f_22 h_hn_22 h_hd_22
  have h_h_23 := Has.new w22 #[.bool (r).neg, .slice a_h n_h c_h, .slice b_h m_h d_h] 24
  have k_k_0 := h_k_23.cell 0 _ rfl
  have k_k_1 := h_k_23.cell 1 _ rfl
  have k_k_2 := h_k_23.cell 2 _ rfl
  have k_z_0 := h_z_23.cell 0 _ rfl
  have k_z_1 := h_z_23.cell 1 _ rfl
  have k_z_2 := h_z_23.cell 2 _ rfl
  go_wp2_with first | refine wpList_store_new rfl 24 _ _ rfl atRat _ _ _ rfl rfl rfl rfl (rat_one _ _ _ _ _ _ _) ?_
  clear k_k_0 k_k_1 k_k_2 k_z_0 k_z_1 k_z_2
  generalize (w22.alloc (.cells #[.bool (r).neg, .slice a_h n_h c_h, .slice b_h m_h d_h] 24)) = w23 at *
  have c := ratMul_any w23 (g1 := (q).neg) (g2 := (z).neg) h_kn_23 h_kd_23 h_zn_23 h_zd_23
  rw [show (⟨(q).neg, (q).num, (q).den⟩ : QV) = q from rfl] at c
  rw [show (⟨(z).neg, (z).num, (z).den⟩ : QV) = z from rfl] at c
  rw [F8.out] at c
  refine c.mono ?_
  rintro e w24 ⟨a_i, n_i, c_i, b_i, m_i, d_i, rfl, h_in_24, h_id_24, hb⟩
  clear c
  have B24 := B23.trans (hb.mono B23.size)
  have h_xn_24 := h_xn_23.below hb
  have h_xd_24 := h_xd_23.below hb
  have h_yn_24 := h_yn_23.below hb
  have h_yd_24 := h_yd_23.below hb
  have h_zn_24 := h_zn_23.below hb
  have h_zd_24 := h_zd_23.below hb
  have h_x_24 := h_x_23.later hb
  have h_y_24 := h_y_23.later hb
  have h_z_24 := h_z_23.later hb
  have h_en_24 := h_en_23.below hb
  have h_ed_24 := h_ed_23.below hb
  have h_e_24 := h_e_23.later hb
  have h_kn_24 := h_kn_23.below hb
  have h_kd_24 := h_kd_23.below hb
  have h_k_24 := h_k_23.later hb
  have h_fn_24 := h_fn_23.below hb
  have h_fd_24 := h_fd_23.below hb
  have h_f_24 := h_f_23.later hb
  have h_hn_24 := h_hn_23.below hb
  have h_hd_24 := h_hd_23.below hb
  have h_h_24 := h_h_23.later hb
  clear hb B23 h_xn_23 h_xd_23 h_yn_23 h_yd_23 h_zn_23 h_zd_23 h_x_23 h_y_23 h_z_23 h_en_23 h_ed_23 h_e_23 h_kn_23 h_kd_23 h_k_23 h_fn_23 h_fd_23 h_f_23 h_hn_23 h_hd_23 h_h_23
  have hb := below_al w24 (.cells #[.bool (cq).neg, .slice a_i n_i c_i, .slice b_i m_i d_i] 24)
  have B25 := B24.trans (hb.mono B24.size)
  have h_xn_25 := h_xn_24.below hb
  have h_xd_25 := h_xd_24.below hb
  have h_yn_25 := h_yn_24.below hb
  have h_yd_25 := h_yd_24.below hb
  have h_zn_25 := h_zn_24.below hb
  have h_zd_25 := h_zd_24.below hb
  have h_x_25 := h_x_24.later hb
  have h_y_25 := h_y_24.later hb
  have h_z_25 := h_z_24.later hb
  have h_en_25 := h_en_24.below hb
  have h_ed_25 := h_ed_24.below hb
  have h_e_25 := h_e_24.later hb
  have h_kn_25 := h_kn_24.below hb
  have h_kd_25 := h_kd_24.below hb
  have h_k_25 := h_k_24.later hb
  have h_fn_25 := h_fn_24.below hb
  have h_fd_25 := h_fd_24.below hb
  have h_f_25 := h_f_24.later hb
  have h_hn_25 := h_hn_24.below hb
  have h_hd_25 := h_hd_24.below hb
  have h_h_25 := h_h_24.later hb
  have h_in_25 := h_in_24.below hb
  have h_id_25 := h_id_24.below hb
  clear hb B24 h_xn_24 h_xd_24 h_yn_24 h_yd_24 h_zn_24 h_zd_24 h_x_24 h_y_24 h_z_24 h_en_24 h_ed_24 h_e_24 h_kn_24 h_kd_24 h_k_24 h_fn_24 h_fd_24 h_f_24 h_hn_24 h_hd_24 h_h_24 h_in_24 h_id_24
  have h_i_25 := Has.new w24 #[.bool (cq).neg, .slice a_i n_i c_i, .slice b_i m_i d_i] 24
  have k_x_0 := h_x_25.cell 0 _ rfl
  have k_x_1 := h_x_25.cell 1 _ rfl
  have k_x_2 := h_x_25.cell 2 _ rfl
  have k_h_0 := h_h_25.cell 0 _ rfl
  have k_h_1 := h_h_25.cell 1 _ rfl
  have k_h_2 := h_h_25.cell 2 _ rfl
  go_wp2_with first | refine wpList_store_new rfl 24 _ _ rfl atRat _ _ _ rfl rfl rfl rfl (rat_one _ _ _ _ _ _ _) ?_
  clear k_x_0 k_x_1 k_x_2 k_h_0 k_h_1 k_h_2
  generalize (w24.alloc (.cells #[.bool (cq).neg, .slice a_i n_i c_i, .slice b_i m_i d_i] 24)) = w25 at *
  have c := ratMul_any w25 (g1 := (x).neg) (g2 := (r).neg) h_xn_25 h_xd_25 h_hn_25 h_hd_25
  rw [show (⟨(x).neg, (x).num, (x).den⟩ : QV) = x from rfl] at c
  rw [show (⟨(r).neg, (r).num, (r).den⟩ : QV) = r from rfl] at c
  rw [F9.out] at c
  refine c.mono ?_
  rintro e w26 ⟨a_j, n_j, c_j, b_j, m_j, d_j, rfl, h_jn_26, h_jd_26, hb⟩
  clear c
  have B26 := B25.trans (hb.mono B25.size)
  have h_xn_26 := h_xn_25.below hb
  have h_xd_26 := h_xd_25.below hb
  have h_yn_26 := h_yn_25.below hb
  have h_yd_26 := h_yd_25.below hb
  have h_zn_26 := h_zn_25.below hb
  have h_zd_26 := h_zd_25.below hb
  have h_x_26 := h_x_25.later hb
  have h_y_26 := h_y_25.later hb
  have h_z_26 := h_z_25.later hb
  have h_en_26 := h_en_25.below hb
  have h_ed_26 := h_ed_25.below hb
  have h_e_26 := h_e_25.later hb
  have h_kn_26 := h_kn_25.below hb
  have h_kd_26 := h_kd_25.below hb
  have h_k_26 := h_k_25.later hb
  have h_fn_26 := h_fn_25.below hb
  have h_fd_26 := h_fd_25.below hb
  have h_f_26 := h_f_25.later hb
  have h_hn_26 := h_hn_25.below hb
  have h_hd_26 := h_hd_25.below hb
  have h_h_26 := h_h_25.later hb
  have h_in_26 := h_in_25.below hb
  have h_id_26 := h_id_25.below hb
  have h_i_26 := h_i_25.later hb
  clear hb B25 h_xn_25 h_xd_25 h_yn_25 h_yd_25 h_zn_25 h_zd_25 h_x_25 h_y_25 h_z_25 h_en_25 h_ed_25 h_e_25 h_kn_25 h_kd_25 h_k_25 h_fn_25 h_fd_25 h_f_25 h_hn_25 h_hd_25 h_h_25 h_in_25 h_id_25 h_i_25
  have hb := below_al w26 (.cells #[.bool (cq).neg, .slice a_j n_j c_j, .slice b_j m_j d_j] 24)
  have B27 := B26.trans (hb.mono B26.size)
  have h_xn_27 := h_xn_26.below hb
  have h_xd_27 := h_xd_26.below hb
  have h_yn_27 := h_yn_26.below hb
  have h_yd_27 := h_yd_26.below hb
  have h_zn_27 := h_zn_26.below hb
  have h_zd_27 := h_zd_26.below hb
  have h_x_27 := h_x_26.later hb
  have h_y_27 := h_y_26.later hb
  have h_z_27 := h_z_26.later hb
  have h_en_27 := h_en_26.below hb
  have h_ed_27 := h_ed_26.below hb
  have h_e_27 := h_e_26.later hb
  have h_kn_27 := h_kn_26.below hb
  have h_kd_27 := h_kd_26.below hb
  have h_k_27 := h_k_26.later hb
  have h_fn_27 := h_fn_26.below hb
  have h_fd_27 := h_fd_26.below hb
  have h_f_27 := h_f_26.later hb
  have h_hn_27 := h_hn_26.below hb
  have h_hd_27 := h_hd_26.below hb
  have h_h_27 := h_h_26.later hb
  have h_in_27 := h_in_26.below hb
  have h_id_27 := h_id_26.below hb
  have h_i_27 := h_i_26.later hb
  have h_jn_27 := h_jn_26.below hb
  have h_jd_27 := h_jd_26.below hb
  clear hb B26 h_xn_26 h_xd_26 h_yn_26 h_yd_26 h_zn_26 h_zd_26 h_x_26 h_y_26 h_z_26 h_en_26 h_ed_26 h_e_26 h_kn_26 h_kd_26 h_k_26 h_fn_26 h_fd_26 h_f_26 h_hn_26 h_hd_26 h_h_26 h_in_26 h_id_26 h_i_26 h_jn_26 h_jd_26
  have h_j_27 := Has.new w26 #[.bool (cq).neg, .slice a_j n_j c_j, .slice b_j m_j d_j] 24
  have k_k_0 := h_k_27.cell 0 _ rfl
  have k_k_1 := h_k_27.cell 1 _ rfl
  have k_k_2 := h_k_27.cell 2 _ rfl
  have k_f_0 := h_f_27.cell 0 _ rfl
  have k_f_1 := h_f_27.cell 1 _ rfl
  have k_f_2 := h_f_27.cell 2 _ rfl
  go_wp2_with first | refine wpList_store_new rfl 24 _ _ rfl atRat _ _ _ rfl rfl rfl rfl (rat_one _ _ _ _ _ _ _) ?_
  clear k_k_0 k_k_1 k_k_2 k_f_0 k_f_1 k_f_2
  generalize (w26.alloc (.cells #[.bool (cq).neg, .slice a_j n_j c_j, .slice b_j m_j d_j] 24)) = w27 at *
  have c := refRatSame_any w27 (g1 := (q).neg) (g2 := (q).neg) h_kn_27 h_kd_27 h_fn_27 h_fd_27
  rw [show (⟨(q).neg, (q).num, (q).den⟩ : QV) = q from rfl] at c
  rw [sameV_self] at c
  refine c.mono ?_
  rintro e w28 ⟨rfl, hb⟩
  clear c
  have B28 := B27.trans (hb.mono B27.size)
  have h_xn_28 := h_xn_27.below hb
  have h_xd_28 := h_xd_27.below hb
  have h_yn_28 := h_yn_27.below hb
  have h_yd_28 := h_yd_27.below hb
  have h_zn_28 := h_zn_27.below hb
  have h_zd_28 := h_zd_27.below hb
  have h_x_28 := h_x_27.later hb
  have h_y_28 := h_y_27.later hb
  have h_z_28 := h_z_27.later hb
  have h_en_28 := h_en_27.below hb
  have h_ed_28 := h_ed_27.below hb
  have h_e_28 := h_e_27.later hb
  have h_kn_28 := h_kn_27.below hb
  have h_kd_28 := h_kd_27.below hb
  have h_k_28 := h_k_27.later hb
  have h_fn_28 := h_fn_27.below hb
  have h_fd_28 := h_fd_27.below hb
  have h_f_28 := h_f_27.later hb
  have h_hn_28 := h_hn_27.below hb
  have h_hd_28 := h_hd_27.below hb
  have h_h_28 := h_h_27.later hb
  have h_in_28 := h_in_27.below hb
  have h_id_28 := h_id_27.below hb
  have h_i_28 := h_i_27.later hb
  have h_jn_28 := h_jn_27.below hb
  have h_jd_28 := h_jd_27.below hb
  have h_j_28 := h_j_27.later hb
  clear hb B27 h_xn_27 h_xd_27 h_yn_27 h_yd_27 h_zn_27 h_zd_27 h_x_27 h_y_27 h_z_27 h_en_27 h_ed_27 h_e_27 h_kn_27 h_kd_27 h_k_27 h_fn_27 h_fd_27 h_f_27 h_hn_27 h_hd_27 h_h_27 h_in_27 h_id_27 h_i_27 h_jn_27 h_jd_27 h_j_27
  clear h_k_28 h_kn_28 h_kd_28 h_f_28 h_fn_28 h_fd_28
  have k_i_0 := h_i_28.cell 0 _ rfl
  have k_i_1 := h_i_28.cell 1 _ rfl
  have k_i_2 := h_i_28.cell 2 _ rfl
  have k_j_0 := h_j_28.cell 0 _ rfl
  have k_j_1 := h_j_28.cell 1 _ rfl
  have k_j_2 := h_j_28.cell 2 _ rfl
  go_wp2_with fail
  clear k_i_0 k_i_1 k_i_2 k_j_0 k_j_1 k_j_2
  have c := refRatSame_any w28 (g1 := (cq).neg) (g2 := (cq).neg) h_in_28 h_id_28 h_jn_28 h_jd_28
  rw [show (⟨(cq).neg, (cq).num, (cq).den⟩ : QV) = cq from rfl] at c
  rw [sameV_self] at c
  refine c.mono ?_
  rintro e w29 ⟨rfl, hb⟩
  clear c
  have B29 := B28.trans (hb.mono B28.size)
  have h_xn_29 := h_xn_28.below hb
  have h_xd_29 := h_xd_28.below hb
  have h_yn_29 := h_yn_28.below hb
  have h_yd_29 := h_yd_28.below hb
  have h_zn_29 := h_zn_28.below hb
  have h_zd_29 := h_zd_28.below hb
  have h_x_29 := h_x_28.later hb
  have h_y_29 := h_y_28.later hb
  have h_z_29 := h_z_28.later hb
  have h_en_29 := h_en_28.below hb
  have h_ed_29 := h_ed_28.below hb
  have h_e_29 := h_e_28.later hb
  have h_hn_29 := h_hn_28.below hb
  have h_hd_29 := h_hd_28.below hb
  have h_h_29 := h_h_28.later hb
  have h_in_29 := h_in_28.below hb
  have h_id_29 := h_id_28.below hb
  have h_i_29 := h_i_28.later hb
  have h_jn_29 := h_jn_28.below hb
  have h_jd_29 := h_jd_28.below hb
  have h_j_29 := h_j_28.later hb
  clear hb B28 h_xn_28 h_xd_28 h_yn_28 h_yd_28 h_zn_28 h_zd_28 h_x_28 h_y_28 h_z_28 h_en_28 h_ed_28 h_e_28 h_hn_28 h_hd_28 h_h_28 h_in_28 h_id_28 h_i_28 h_jn_28 h_jd_28 h_j_28
  clear h_i_29 h_in_29 h_id_29 h_j_29 h_jn_29 h_jd_29
  have k_e_0 := h_e_29.cell 0 _ rfl
  have k_e_1 := h_e_29.cell 1 _ rfl
  have k_e_2 := h_e_29.cell 2 _ rfl
  have k_z_0 := h_z_29.cell 0 _ rfl
  have k_z_1 := h_z_29.cell 1 _ rfl
  have k_z_2 := h_z_29.cell 2 _ rfl
  go_wp2_with fail
  clear k_e_0 k_e_1 k_e_2 k_z_0 k_z_1 k_z_2
  have c := ratMul_any w29 (g1 := (s).neg) (g2 := (z).neg) h_en_29 h_ed_29 h_zn_29 h_zd_29
  rw [show (⟨(s).neg, (s).num, (s).den⟩ : QV) = s from rfl] at c
  rw [show (⟨(z).neg, (z).num, (z).den⟩ : QV) = z from rfl] at c
  rw [F10.out] at c
  refine c.mono ?_
  rintro e w30 ⟨a_k, n_k, c_k, b_k, m_k, d_k, rfl, h_kn_30, h_kd_30, hb⟩
  clear c
  have B30 := B29.trans (hb.mono B29.size)
  have h_xn_30 := h_xn_29.below hb
  have h_xd_30 := h_xd_29.below hb
  have h_yn_30 := h_yn_29.below hb
  have h_yd_30 := h_yd_29.below hb
  have h_zn_30 := h_zn_29.below hb
  have h_zd_30 := h_zd_29.below hb
  have h_x_30 := h_x_29.later hb
  have h_y_30 := h_y_29.later hb
  have h_z_30 := h_z_29.later hb
  have h_en_30 := h_en_29.below hb
  have h_ed_30 := h_ed_29.below hb
  have h_e_30 := h_e_29.later hb
  have h_hn_30 := h_hn_29.below hb
  have h_hd_30 := h_hd_29.below hb
  have h_h_30 := h_h_29.later hb
  clear hb B29 h_xn_29 h_xd_29 h_yn_29 h_yd_29 h_zn_29 h_zd_29 h_x_29 h_y_29 h_z_29 h_en_29 h_ed_29 h_e_29 h_hn_29 h_hd_29 h_h_29
  have hb := below_al w30 (.cells #[.bool (u).neg, .slice a_k n_k c_k, .slice b_k m_k d_k] 24)
  have B31 := B30.trans (hb.mono B30.size)
  have h_xn_31 := h_xn_30.below hb
  have h_xd_31 := h_xd_30.below hb
  have h_yn_31 := h_yn_30.below hb
  have h_yd_31 := h_yd_30.below hb
  have h_zn_31 := h_zn_30.below hb
  have h_zd_31 := h_zd_30.below hb
  have h_x_31 := h_x_30.later hb
  have h_y_31 := h_y_30.later hb
  have h_z_31 := h_z_30.later hb
  have h_en_31 := h_en_30.below hb
  have h_ed_31 := h_ed_30.below hb
  have h_e_31 := h_e_30.later hb
  have h_hn_31 := h_hn_30.below hb
  have h_hd_31 := h_hd_30.below hb
  have h_h_31 := h_h_30.later hb
  have h_kn_31 := h_kn_30.below hb
  have h_kd_31 := h_kd_30.below hb
  clear hb B30 h_xn_30 h_xd_30 h_yn_30 h_yd_30 h_zn_30 h_zd_30 h_x_30 h_y_30 h_z_30 h_en_30 h_ed_30 h_e_30 h_hn_30 h_hd_30 h_h_30 h_kn_30 h_kd_30
  have h_k_31 := Has.new w30 #[.bool (u).neg, .slice a_k n_k c_k, .slice b_k m_k d_k] 24
  have k_x_0 := h_x_31.cell 0 _ rfl
  have k_x_1 := h_x_31.cell 1 _ rfl
  have k_x_2 := h_x_31.cell 2 _ rfl
  have k_z_0 := h_z_31.cell 0 _ rfl
  have k_z_1 := h_z_31.cell 1 _ rfl
  have k_z_2 := h_z_31.cell 2 _ rfl
  go_wp2_with first | refine wpList_store_new rfl 24 _ _ rfl atRat _ _ _ rfl rfl rfl rfl (rat_one _ _ _ _ _ _ _) ?_
  clear k_x_0 k_x_1 k_x_2 k_z_0 k_z_1 k_z_2
  generalize (w30.alloc (.cells #[.bool (u).neg, .slice a_k n_k c_k, .slice b_k m_k d_k] 24)) = w31 at *
  have c := ratMul_any w31 (g1 := (x).neg) (g2 := (z).neg) h_xn_31 h_xd_31 h_zn_31 h_zd_31
  rw [show (⟨(x).neg, (x).num, (x).den⟩ : QV) = x from rfl] at c
  rw [show (⟨(z).neg, (z).num, (z).den⟩ : QV) = z from rfl] at c
  rw [F11.out] at c
  refine c.mono ?_
  rintro e w32 ⟨a_f, n_f, c_f, b_f, m_f, d_f, rfl, h_fn_32, h_fd_32, hb⟩
  clear c
  have B32 := B31.trans (hb.mono B31.size)
  have h_xn_32 := h_xn_31.below hb
  have h_xd_32 := h_xd_31.below hb
  have h_yn_32 := h_yn_31.below hb
  have h_yd_32 := h_yd_31.below hb
  have h_zn_32 := h_zn_31.below hb
  have h_zd_32 := h_zd_31.below hb
  have h_x_32 := h_x_31.later hb
  have h_y_32 := h_y_31.later hb
  have h_z_32 := h_z_31.later hb
  have h_en_32 := h_en_31.below hb
  have h_ed_32 := h_ed_31.below hb
  have h_e_32 := h_e_31.later hb
  have h_hn_32 := h_hn_31.below hb
  have h_hd_32 := h_hd_31.below hb
  have h_h_32 := h_h_31.later hb
  have h_kn_32 := h_kn_31.below hb
  have h_kd_32 := h_kd_31.below hb
  have h_k_32 := h_k_31.later hb
  clear hb B31 h_xn_31 h_xd_31 h_yn_31 h_yd_31 h_zn_31 h_zd_31 h_x_31 h_y_31 h_z_31 h_en_31 h_ed_31 h_e_31 h_hn_31 h_hd_31 h_h_31 h_kn_31 h_kd_31 h_k_31
  have hb := below_al w32 (.cells #[.bool (v).neg, .slice a_f n_f c_f, .slice b_f m_f d_f] 24)
  have B33 := B32.trans (hb.mono B32.size)
  have h_xn_33 := h_xn_32.below hb
  have h_xd_33 := h_xd_32.below hb
  have h_yn_33 := h_yn_32.below hb
  have h_yd_33 := h_yd_32.below hb
  have h_zn_33 := h_zn_32.below hb
  have h_zd_33 := h_zd_32.below hb
  have h_x_33 := h_x_32.later hb
  have h_y_33 := h_y_32.later hb
  have h_z_33 := h_z_32.later hb
  have h_en_33 := h_en_32.below hb
  have h_ed_33 := h_ed_32.below hb
  have h_e_33 := h_e_32.later hb
  have h_hn_33 := h_hn_32.below hb
  have h_hd_33 := h_hd_32.below hb
  have h_h_33 := h_h_32.later hb
  have h_kn_33 := h_kn_32.below hb
  have h_kd_33 := h_kd_32.below hb
  have h_k_33 := h_k_32.later hb
  have h_fn_33 := h_fn_32.below hb
  have h_fd_33 := h_fd_32.below hb
  clear hb B32 h_xn_32 h_xd_32 h_yn_32 h_yd_32 h_zn_32 h_zd_32 h_x_32 h_y_32 h_z_32 h_en_32 h_ed_32 h_e_32 h_hn_32 h_hd_32 h_h_32 h_kn_32 h_kd_32 h_k_32 h_fn_32 h_fd_32
  have h_f_33 := Has.new w32 #[.bool (v).neg, .slice a_f n_f c_f, .slice b_f m_f d_f] 24
  have k_f_0 := h_f_33.cell 0 _ rfl
  have k_f_1 := h_f_33.cell 1 _ rfl
  have k_f_2 := h_f_33.cell 2 _ rfl
  have k_h_0 := h_h_33.cell 0 _ rfl
  have k_h_1 := h_h_33.cell 1 _ rfl
  have k_h_2 := h_h_33.cell 2 _ rfl
  go_wp2_with first | refine wpList_store_new rfl 24 _ _ rfl atRat _ _ _ rfl rfl rfl rfl (rat_one _ _ _ _ _ _ _) ?_
  clear k_f_0 k_f_1 k_f_2 k_h_0 k_h_1 k_h_2
  generalize (w32.alloc (.cells #[.bool (v).neg, .slice a_f n_f c_f, .slice b_f m_f d_f] 24)) = w33 at *
  have c := ratAdd_any w33 (g1 := (v).neg) (g2 := (r).neg) h_fn_33 h_fd_33 h_hn_33 h_hd_33
  rw [show (⟨(v).neg, (v).num, (v).den⟩ : QV) = v from rfl] at c
  rw [show (⟨(r).neg, (r).num, (r).den⟩ : QV) = r from rfl] at c
  rw [F12.out] at c
  refine c.mono ?_
  rintro e w34 ⟨a_i, n_i, c_i, b_i, m_i, d_i, rfl, h_in_34, h_id_34, hb⟩
  clear c
  have B34 := B33.trans (hb.mono B33.size)
  have h_xn_34 := h_xn_33.below hb
  have h_xd_34 := h_xd_33.below hb
  have h_yn_34 := h_yn_33.below hb
  have h_yd_34 := h_yd_33.below hb
  have h_zn_34 := h_zn_33.below hb
  have h_zd_34 := h_zd_33.below hb
  have h_x_34 := h_x_33.later hb
  have h_y_34 := h_y_33.later hb
  have h_z_34 := h_z_33.later hb
  have h_en_34 := h_en_33.below hb
  have h_ed_34 := h_ed_33.below hb
  have h_e_34 := h_e_33.later hb
  have h_hn_34 := h_hn_33.below hb
  have h_hd_34 := h_hd_33.below hb
  have h_h_34 := h_h_33.later hb
  have h_kn_34 := h_kn_33.below hb
  have h_kd_34 := h_kd_33.below hb
  have h_k_34 := h_k_33.later hb
  have h_fn_34 := h_fn_33.below hb
  have h_fd_34 := h_fd_33.below hb
  have h_f_34 := h_f_33.later hb
  clear hb B33 h_xn_33 h_xd_33 h_yn_33 h_yd_33 h_zn_33 h_zd_33 h_x_33 h_y_33 h_z_33 h_en_33 h_ed_33 h_e_33 h_hn_33 h_hd_33 h_h_33 h_kn_33 h_kd_33 h_k_33 h_fn_33 h_fd_33 h_f_33
  have hb := below_al w34 (.cells #[.bool (u).neg, .slice a_i n_i c_i, .slice b_i m_i d_i] 24)
  have B35 := B34.trans (hb.mono B34.size)
  have h_xn_35 := h_xn_34.below hb
  have h_xd_35 := h_xd_34.below hb
  have h_yn_35 := h_yn_34.below hb
  have h_yd_35 := h_yd_34.below hb
  have h_zn_35 := h_zn_34.below hb
  have h_zd_35 := h_zd_34.below hb
  have h_x_35 := h_x_34.later hb
  have h_y_35 := h_y_34.later hb
  have h_z_35 := h_z_34.later hb
  have h_en_35 := h_en_34.below hb
  have h_ed_35 := h_ed_34.below hb
  have h_e_35 := h_e_34.later hb
  have h_hn_35 := h_hn_34.below hb
  have h_hd_35 := h_hd_34.below hb
  have h_h_35 := h_h_34.later hb
  have h_kn_35 := h_kn_34.below hb
  have h_kd_35 := h_kd_34.below hb
  have h_k_35 := h_k_34.later hb
  have h_fn_35 := h_fn_34.below hb
  have h_fd_35 := h_fd_34.below hb
  have h_f_35 := h_f_34.later hb
  have h_in_35 := h_in_34.below hb
  have h_id_35 := h_id_34.below hb
  clear hb B34 h_xn_34 h_xd_34 h_yn_34 h_yd_34 h_zn_34 h_zd_34 h_x_34 h_y_34 h_z_34 h_en_34 h_ed_34 h_e_34 h_hn_34 h_hd_34 h_h_34 h_kn_34 h_kd_34 h_k_34 h_fn_34 h_fd_34 h_f_34 h_in_34 h_id_34
  have h_i_35 := Has.new w34 #[.bool (u).neg, .slice a_i n_i c_i, .slice b_i m_i d_i] 24
  have k_k_0 := h_k_35.cell 0 _ rfl
  have k_k_1 := h_k_35.cell 1 _ rfl
  have k_k_2 := h_k_35.cell 2 _ rfl
  have k_i_0 := h_i_35.cell 0 _ rfl
  have k_i_1 := h_i_35.cell 1 _ rfl
  have k_i_2 := h_i_35.cell 2 _ rfl
  go_wp2_with first | refine wpList_store_new rfl 24 _ _ rfl atRat _ _ _ rfl rfl rfl rfl (rat_one _ _ _ _ _ _ _) ?_
  clear k_k_0 k_k_1 k_k_2 k_i_0 k_i_1 k_i_2
  generalize (w34.alloc (.cells #[.bool (u).neg, .slice a_i n_i c_i, .slice b_i m_i d_i] 24)) = w35 at *
  have c := refRatSame_any w35 (g1 := (u).neg) (g2 := (u).neg) h_kn_35 h_kd_35 h_in_35 h_id_35
  rw [show (⟨(u).neg, (u).num, (u).den⟩ : QV) = u from rfl] at c
  rw [sameV_self] at c
  refine c.mono ?_
  rintro e w36 ⟨rfl, hb⟩
  clear c
  have B36 := B35.trans (hb.mono B35.size)
  have h_xn_36 := h_xn_35.below hb
  have h_xd_36 := h_xd_35.below hb
  have h_yn_36 := h_yn_35.below hb
  have h_yd_36 := h_yd_35.below hb
  have h_zn_36 := h_zn_35.below hb
  have h_zd_36 := h_zd_35.below hb
  have h_x_36 := h_x_35.later hb
  have h_y_36 := h_y_35.later hb
  have h_z_36 := h_z_35.later hb
  have h_en_36 := h_en_35.below hb
  have h_ed_36 := h_ed_35.below hb
  have h_e_36 := h_e_35.later hb
  have h_hn_36 := h_hn_35.below hb
  have h_hd_36 := h_hd_35.below hb
  have h_h_36 := h_h_35.later hb
  have h_kn_36 := h_kn_35.below hb
  have h_kd_36 := h_kd_35.below hb
  have h_k_36 := h_k_35.later hb
  have h_fn_36 := h_fn_35.below hb
  have h_fd_36 := h_fd_35.below hb
  have h_f_36 := h_f_35.later hb
  have h_in_36 := h_in_35.below hb
  have h_id_36 := h_id_35.below hb
  have h_i_36 := h_i_35.later hb
  clear hb B35 h_xn_35 h_xd_35 h_yn_35 h_yd_35 h_zn_35 h_zd_35 h_x_35 h_y_35 h_z_35 h_en_35 h_ed_35 h_e_35 h_hn_35 h_hd_35 h_h_35 h_kn_35 h_kd_35 h_k_35 h_fn_35 h_fd_35 h_f_35 h_in_35 h_id_35 h_i_35
  have k_k_0 := h_k_36.cell 0 _ rfl
  have k_k_1 := h_k_36.cell 1 _ rfl
  have k_k_2 := h_k_36.cell 2 _ rfl
  go_wp2_with fail
  clear k_k_0 k_k_1 k_k_2
  have c := ratCheck_any w36 (neg := (u).neg) h_kn_36 h_kd_36
  rw [show (⟨(u).neg, (u).num, (u).den⟩ : QV) = u from rfl] at c
  rw [F13.out] at c
  refine c.mono ?_
  rintro e w37 ⟨rfl, hb⟩
  clear c
  have B37 := B36.trans (hb.mono B36.size)
  have h_xn_37 := h_xn_36.below hb
  have h_xd_37 := h_xd_36.below hb
  have h_yn_37 := h_yn_36.below hb
  have h_yd_37 := h_yd_36.below hb
  have h_zn_37 := h_zn_36.below hb
  have h_zd_37 := h_zd_36.below hb
  have h_x_37 := h_x_36.later hb
  have h_y_37 := h_y_36.later hb
  have h_z_37 := h_z_36.later hb
  have h_en_37 := h_en_36.below hb
  have h_ed_37 := h_ed_36.below hb
  have h_e_37 := h_e_36.later hb
  have h_hn_37 := h_hn_36.below hb
  have h_hd_37 := h_hd_36.below hb
  have h_h_37 := h_h_36.later hb
  have h_kn_37 := h_kn_36.below hb
  have h_kd_37 := h_kd_36.below hb
  have h_k_37 := h_k_36.later hb
  have h_fn_37 := h_fn_36.below hb
  have h_fd_37 := h_fd_36.below hb
  have h_f_37 := h_f_36.later hb
  have h_in_37 := h_in_36.below hb
  have h_id_37 := h_id_36.below hb
  have h_i_37 := h_i_36.later hb
  clear hb B36 h_xn_36 h_xd_36 h_yn_36 h_yd_36 h_zn_36 h_zd_36 h_x_36 h_y_36 h_z_36 h_en_36 h_ed_36 h_e_36 h_hn_36 h_hd_36 h_h_36 h_kn_36 h_kd_36 h_k_36 h_fn_36 h_fd_36 h_f_36 h_in_36 h_id_36 h_i_36
  go_wp2_with fail
  have c := wakes_any w37
  refine c.mono ?_
  rintro e w38 ⟨rfl, hb⟩
  clear c
  have B38 := B37.trans (hb.mono B37.size)
  have h_xn_38 := h_xn_37.below hb
  have h_xd_38 := h_xd_37.below hb
  have h_yn_38 := h_yn_37.below hb
  have h_yd_38 := h_yd_37.below hb
  have h_zn_38 := h_zn_37.below hb
  have h_zd_38 := h_zd_37.below hb
  have h_x_38 := h_x_37.later hb
  have h_y_38 := h_y_37.later hb
  have h_z_38 := h_z_37.later hb
  have h_en_38 := h_en_37.below hb
  have h_ed_38 := h_ed_37.below hb
  have h_e_38 := h_e_37.later hb
  have h_hn_38 := h_hn_37.below hb
  have h_hd_38 := h_hd_37.below hb
  have h_h_38 := h_h_37.later hb
  have h_kn_38 := h_kn_37.below hb
  have h_kd_38 := h_kd_37.below hb
  have h_k_38 := h_k_37.later hb
  have h_fn_38 := h_fn_37.below hb
  have h_fd_38 := h_fd_37.below hb
  have h_f_38 := h_f_37.later hb
  have h_in_38 := h_in_37.below hb
  have h_id_38 := h_id_37.below hb
  have h_i_38 := h_i_37.later hb
  clear hb B37 h_xn_37 h_xd_37 h_yn_37 h_yd_37 h_zn_37 h_zd_37 h_x_37 h_y_37 h_z_37 h_en_37 h_ed_37 h_e_37 h_hn_37 h_hd_37 h_h_37 h_kn_37 h_kd_37 h_k_37 h_fn_37 h_fd_37 h_f_37 h_in_37 h_id_37 h_i_37
  go_wp2_with fail
  go_ret
  exact ⟨rfl, B38⟩

end Go.Proofs.YtdaajeklnhbhjaaGreatDoor
