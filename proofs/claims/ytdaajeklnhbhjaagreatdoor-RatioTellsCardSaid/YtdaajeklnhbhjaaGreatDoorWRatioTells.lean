/- The walk of the law RatioTells: it returns true and turns nothing that was there. No condition. Printed by gen_ratlaws.py. -/
import Derived.Test.YtdaajeklnhbhjaaGreatDoorRatW
import Derived.Test.YtdaajeklnhbhjaaGreatDoorRatV
import Derived.Test.YtdaajeklnhbhjaaGreatDoorRatY
import Derived.BigQuiet
import Derived.Deep.CutRange
namespace Go.Proofs.YtdaajeklnhbhjaaGreatDoor
open Go.RowKit Go.Suf
set_option linter.unusedVariables false
set_option linter.unusedSimpArgs false

theorem long_short {x : QV} (h : longV x = false) : x.num.length ≤ 200 ∧ x.den.length ≤ 200 := by
  unfold longV at h
  simp only [Bool.or_eq_false_iff, decide_eq_false_iff_not] at h
  omega

set_option maxRecDepth 100000 in
set_option maxHeartbeats 8000000 in
theorem ratioTells_walk (w : World) {g_x : Bool} {a_x b_x : Option Addr} {n_x c_x m_x d_x : Nat} {xn xd : List Nat} (h_xn : Rd .u32 w a_x n_x c_x xn) (h_xd : Rd .u32 w b_x m_x d_x xd) {g_y : Bool} {a_y b_y : Option Addr} {n_y c_y m_y d_y : Nat} {yn yd : List Nat} (h_yn : Rd .u32 w a_y n_y c_y yn) (h_yd : Rd .u32 w b_y m_y d_y yd) (n : Int) (h_n1 : -9223372036854775808 ≤ n) (h_n2 : n ≤ 9223372036854775807) (d : Int) (h_d1 : -9223372036854775808 ≤ d) (h_d2 : d ≤ 9223372036854775807) :
    Calls Tryz.prog 3 #[ratV g_x a_x n_x c_x b_x m_x d_x, ratV g_y a_y n_y c_y b_y m_y d_y, .int .i64 n, .int .i64 d] w fun e w' => e = .returned (.bool true) ∧ Below w.heap.size w w' := by
  obtain ⟨x, rfl, rfl, rfl⟩ : ∃ x : QV, g_x = x.neg ∧ xn = x.num ∧ xd = x.den := ⟨⟨g_x, xn, xd⟩, rfl, rfl, rfl⟩
  obtain ⟨y, rfl, rfl, rfl⟩ : ∃ y : QV, g_y = y.neg ∧ yn = y.num ∧ yd = y.den := ⟨⟨g_y, yn, yd⟩, rfl, rfl, rfl⟩
  have l_n : n < 9223372036854775808 := by omega
  have l_d : d < 9223372036854775808 := by omega
  have B0 : Below w.heap.size w w := Below.refl _ _
  have h_xn_0 := h_xn
  have h_xd_0 := h_xd
  have h_yn_0 := h_yn
  have h_yd_0 := h_yd
  cases L_x : longV x
  case true =>
    have LT_x := Lib.hid L_x
    clear L_x
    go_enter Tryz.func3, Tryz.ntmps3
    have hb := below_al w (.cells #[.bool (x).neg, .slice a_x n_x c_x, .slice b_x m_x d_x] 24)
    have B1 := B0.trans (hb.mono B0.size)
    have h_xn_1 := h_xn_0.below hb
    have h_xd_1 := h_xd_0.below hb
    have h_yn_1 := h_yn_0.below hb
    have h_yd_1 := h_yd_0.below hb
    clear hb B0 h_xn_0 h_xd_0 h_yn_0 h_yd_0
    have h_x_1 := Has.new w #[.bool (x).neg, .slice a_x n_x c_x, .slice b_x m_x d_x] 24
    have hb := below_al (w.alloc (.cells #[.bool (x).neg, .slice a_x n_x c_x, .slice b_x m_x d_x] 24)) (.cells #[.bool (y).neg, .slice a_y n_y c_y, .slice b_y m_y d_y] 24)
    have B2 := B1.trans (hb.mono B1.size)
    have h_xn_2 := h_xn_1.below hb
    have h_xd_2 := h_xd_1.below hb
    have h_yn_2 := h_yn_1.below hb
    have h_yd_2 := h_yd_1.below hb
    have h_x_2 := h_x_1.later hb
    clear hb B1 h_xn_1 h_xd_1 h_yn_1 h_yd_1 h_x_1
    have h_y_2 := Has.new (w.alloc (.cells #[.bool (x).neg, .slice a_x n_x c_x, .slice b_x m_x d_x] 24)) #[.bool (y).neg, .slice a_y n_y c_y, .slice b_y m_y d_y] 24
    simp only [World.size_alloc] at h_y_2
    have k_x_0 := h_x_2.cell 0 _ rfl
    have k_x_1 := h_x_2.cell 1 _ rfl
    have k_x_2 := h_x_2.cell 2 _ rfl
    go_wp2_with fail
    clear k_x_0 k_x_1 k_x_2
    generalize ((w.alloc (.cells #[.bool (x).neg, .slice a_x n_x c_x, .slice b_x m_x d_x] 24)).alloc (.cells #[.bool (y).neg, .slice a_y n_y c_y, .slice b_y m_y d_y] 24)) = w2 at *
    have c := qlong_any w2 (neg := (x).neg) h_xn_2 h_xd_2
    rw [show (⟨(x).neg, (x).num, (x).den⟩ : QV) = x from rfl] at c
    rw [LT_x.out] at c
    refine c.mono ?_
    rintro e w3 ⟨rfl, hb⟩
    clear c
    have B3 := B2.trans (hb.mono B2.size)
    have h_xn_3 := h_xn_2.below hb
    have h_xd_3 := h_xd_2.below hb
    have h_yn_3 := h_yn_2.below hb
    have h_yd_3 := h_yd_2.below hb
    have h_x_3 := h_x_2.later hb
    have h_y_3 := h_y_2.later hb
    clear hb B2 h_xn_2 h_xd_2 h_yn_2 h_yd_2 h_x_2 h_y_2
    go_wp2_with fail
    have c := wakes_any w3
    refine c.mono ?_
    rintro e w4 ⟨rfl, hb⟩
    clear c
    have B4 := B3.trans (hb.mono B3.size)
    have h_xn_4 := h_xn_3.below hb
    have h_xd_4 := h_xd_3.below hb
    have h_yn_4 := h_yn_3.below hb
    have h_yd_4 := h_yd_3.below hb
    have h_x_4 := h_x_3.later hb
    have h_y_4 := h_y_3.later hb
    clear hb B3 h_xn_3 h_xd_3 h_yn_3 h_yd_3 h_x_3 h_y_3
    go_wp2_with fail
    go_ret
    exact ⟨rfl, B4⟩
  case false =>
    have LT_x := Lib.hid L_x
    clear L_x
    cases L_y : longV y
    case true =>
      have LT_y := Lib.hid L_y
      clear L_y
      go_enter Tryz.func3, Tryz.ntmps3
      have hb := below_al w (.cells #[.bool (x).neg, .slice a_x n_x c_x, .slice b_x m_x d_x] 24)
      have B1 := B0.trans (hb.mono B0.size)
      have h_xn_1 := h_xn_0.below hb
      have h_xd_1 := h_xd_0.below hb
      have h_yn_1 := h_yn_0.below hb
      have h_yd_1 := h_yd_0.below hb
      clear hb B0 h_xn_0 h_xd_0 h_yn_0 h_yd_0
      have h_x_1 := Has.new w #[.bool (x).neg, .slice a_x n_x c_x, .slice b_x m_x d_x] 24
      have hb := below_al (w.alloc (.cells #[.bool (x).neg, .slice a_x n_x c_x, .slice b_x m_x d_x] 24)) (.cells #[.bool (y).neg, .slice a_y n_y c_y, .slice b_y m_y d_y] 24)
      have B2 := B1.trans (hb.mono B1.size)
      have h_xn_2 := h_xn_1.below hb
      have h_xd_2 := h_xd_1.below hb
      have h_yn_2 := h_yn_1.below hb
      have h_yd_2 := h_yd_1.below hb
      have h_x_2 := h_x_1.later hb
      clear hb B1 h_xn_1 h_xd_1 h_yn_1 h_yd_1 h_x_1
      have h_y_2 := Has.new (w.alloc (.cells #[.bool (x).neg, .slice a_x n_x c_x, .slice b_x m_x d_x] 24)) #[.bool (y).neg, .slice a_y n_y c_y, .slice b_y m_y d_y] 24
      simp only [World.size_alloc] at h_y_2
      have k_x_0 := h_x_2.cell 0 _ rfl
      have k_x_1 := h_x_2.cell 1 _ rfl
      have k_x_2 := h_x_2.cell 2 _ rfl
      go_wp2_with fail
      clear k_x_0 k_x_1 k_x_2
      generalize ((w.alloc (.cells #[.bool (x).neg, .slice a_x n_x c_x, .slice b_x m_x d_x] 24)).alloc (.cells #[.bool (y).neg, .slice a_y n_y c_y, .slice b_y m_y d_y] 24)) = w2 at *
      have c := qlong_any w2 (neg := (x).neg) h_xn_2 h_xd_2
      rw [show (⟨(x).neg, (x).num, (x).den⟩ : QV) = x from rfl] at c
      rw [LT_x.out] at c
      refine c.mono ?_
      rintro e w3 ⟨rfl, hb⟩
      clear c
      have B3 := B2.trans (hb.mono B2.size)
      have h_xn_3 := h_xn_2.below hb
      have h_xd_3 := h_xd_2.below hb
      have h_yn_3 := h_yn_2.below hb
      have h_yd_3 := h_yd_2.below hb
      have h_x_3 := h_x_2.later hb
      have h_y_3 := h_y_2.later hb
      clear hb B2 h_xn_2 h_xd_2 h_yn_2 h_yd_2 h_x_2 h_y_2
      have k_y_0 := h_y_3.cell 0 _ rfl
      have k_y_1 := h_y_3.cell 1 _ rfl
      have k_y_2 := h_y_3.cell 2 _ rfl
      go_wp2_with fail
      clear k_y_0 k_y_1 k_y_2
      have c := qlong_any w3 (neg := (y).neg) h_yn_3 h_yd_3
      rw [show (⟨(y).neg, (y).num, (y).den⟩ : QV) = y from rfl] at c
      rw [LT_y.out] at c
      refine c.mono ?_
      rintro e w4 ⟨rfl, hb⟩
      clear c
      have B4 := B3.trans (hb.mono B3.size)
      have h_xn_4 := h_xn_3.below hb
      have h_xd_4 := h_xd_3.below hb
      have h_yn_4 := h_yn_3.below hb
      have h_yd_4 := h_yd_3.below hb
      have h_x_4 := h_x_3.later hb
      have h_y_4 := h_y_3.later hb
      clear hb B3 h_xn_3 h_xd_3 h_yn_3 h_yd_3 h_x_3 h_y_3
      go_wp2_with fail
      have c := wakes_any w4
      refine c.mono ?_
      rintro e w5 ⟨rfl, hb⟩
      clear c
      have B5 := B4.trans (hb.mono B4.size)
      have h_xn_5 := h_xn_4.below hb
      have h_xd_5 := h_xd_4.below hb
      have h_yn_5 := h_yn_4.below hb
      have h_yd_5 := h_yd_4.below hb
      have h_x_5 := h_x_4.later hb
      have h_y_5 := h_y_4.later hb
      clear hb B4 h_xn_4 h_xd_4 h_yn_4 h_yd_4 h_x_4 h_y_4
      go_wp2_with fail
      go_ret
      exact ⟨rfl, B5⟩
    case false =>
      have LT_y := Lib.hid L_y
      clear L_y
      have TW := Lib.hid (show n_x ≤ 1099511627776 ∧ m_x ≤ 1099511627776 by
        have h := long_short LT_x.out
        have l1 := h_xn_0.len
        have l2 := h_xd_0.len
        omega)
      go_enter Tryz.func3, Tryz.ntmps3
      have hb := below_al w (.cells #[.bool (x).neg, .slice a_x n_x c_x, .slice b_x m_x d_x] 24)
      have B1 := B0.trans (hb.mono B0.size)
      have h_xn_1 := h_xn_0.below hb
      have h_xd_1 := h_xd_0.below hb
      have h_yn_1 := h_yn_0.below hb
      have h_yd_1 := h_yd_0.below hb
      clear hb B0 h_xn_0 h_xd_0 h_yn_0 h_yd_0
      have h_x_1 := Has.new w #[.bool (x).neg, .slice a_x n_x c_x, .slice b_x m_x d_x] 24
      have hb := below_al (w.alloc (.cells #[.bool (x).neg, .slice a_x n_x c_x, .slice b_x m_x d_x] 24)) (.cells #[.bool (y).neg, .slice a_y n_y c_y, .slice b_y m_y d_y] 24)
      have B2 := B1.trans (hb.mono B1.size)
      have h_xn_2 := h_xn_1.below hb
      have h_xd_2 := h_xd_1.below hb
      have h_yn_2 := h_yn_1.below hb
      have h_yd_2 := h_yd_1.below hb
      have h_x_2 := h_x_1.later hb
      clear hb B1 h_xn_1 h_xd_1 h_yn_1 h_yd_1 h_x_1
      have h_y_2 := Has.new (w.alloc (.cells #[.bool (x).neg, .slice a_x n_x c_x, .slice b_x m_x d_x] 24)) #[.bool (y).neg, .slice a_y n_y c_y, .slice b_y m_y d_y] 24
      simp only [World.size_alloc] at h_y_2
      have k_x_0 := h_x_2.cell 0 _ rfl
      have k_x_1 := h_x_2.cell 1 _ rfl
      have k_x_2 := h_x_2.cell 2 _ rfl
      go_wp2_with fail
      clear k_x_0 k_x_1 k_x_2
      generalize ((w.alloc (.cells #[.bool (x).neg, .slice a_x n_x c_x, .slice b_x m_x d_x] 24)).alloc (.cells #[.bool (y).neg, .slice a_y n_y c_y, .slice b_y m_y d_y] 24)) = w2 at *
      have c := qlong_any w2 (neg := (x).neg) h_xn_2 h_xd_2
      rw [show (⟨(x).neg, (x).num, (x).den⟩ : QV) = x from rfl] at c
      rw [LT_x.out] at c
      refine c.mono ?_
      rintro e w3 ⟨rfl, hb⟩
      clear c
      have B3 := B2.trans (hb.mono B2.size)
      have h_xn_3 := h_xn_2.below hb
      have h_xd_3 := h_xd_2.below hb
      have h_yn_3 := h_yn_2.below hb
      have h_yd_3 := h_yd_2.below hb
      have h_x_3 := h_x_2.later hb
      have h_y_3 := h_y_2.later hb
      clear hb B2 h_xn_2 h_xd_2 h_yn_2 h_yd_2 h_x_2 h_y_2
      have k_y_0 := h_y_3.cell 0 _ rfl
      have k_y_1 := h_y_3.cell 1 _ rfl
      have k_y_2 := h_y_3.cell 2 _ rfl
      go_wp2_with fail
      clear k_y_0 k_y_1 k_y_2
      have c := qlong_any w3 (neg := (y).neg) h_yn_3 h_yd_3
      rw [show (⟨(y).neg, (y).num, (y).den⟩ : QV) = y from rfl] at c
      rw [LT_y.out] at c
      refine c.mono ?_
      rintro e w4 ⟨rfl, hb⟩
      clear c
      have B4 := B3.trans (hb.mono B3.size)
      have h_xn_4 := h_xn_3.below hb
      have h_xd_4 := h_xd_3.below hb
      have h_yn_4 := h_yn_3.below hb
      have h_yd_4 := h_yd_3.below hb
      have h_x_4 := h_x_3.later hb
      have h_y_4 := h_y_3.later hb
      clear hb B3 h_xn_3 h_xd_3 h_yn_3 h_yd_3 h_x_3 h_y_3
      go_wp2_with fail
      have c := ratOf_any w4 n d h_n1 l_n h_d1 l_d
      refine c.mono ?_
      rintro e w5 ⟨a_e, n_e, c_e, b_e, m_e, d_e, rfl, h_en_5, h_ed_5, hb⟩
      clear c
      have B5 := B4.trans (hb.mono B4.size)
      have h_xn_5 := h_xn_4.below hb
      have h_xd_5 := h_xd_4.below hb
      have h_yn_5 := h_yn_4.below hb
      have h_yd_5 := h_yd_4.below hb
      have h_x_5 := h_x_4.later hb
      have h_y_5 := h_y_4.later hb
      clear hb B4 h_xn_4 h_xd_4 h_yn_4 h_yd_4 h_x_4 h_y_4
      have hb := below_al w5 (.cells #[.bool ((ofC n d).1).neg, .slice a_e n_e c_e, .slice b_e m_e d_e] 24)
      have B6 := B5.trans (hb.mono B5.size)
      have h_xn_6 := h_xn_5.below hb
      have h_xd_6 := h_xd_5.below hb
      have h_yn_6 := h_yn_5.below hb
      have h_yd_6 := h_yd_5.below hb
      have h_x_6 := h_x_5.later hb
      have h_y_6 := h_y_5.later hb
      have h_en_6 := h_en_5.below hb
      have h_ed_6 := h_ed_5.below hb
      clear hb B5 h_xn_5 h_xd_5 h_yn_5 h_yd_5 h_x_5 h_y_5 h_en_5 h_ed_5
      have h_e_6 := Has.new w5 #[.bool ((ofC n d).1).neg, .slice a_e n_e c_e, .slice b_e m_e d_e] 24
      go_wp2_with first | refine wpList_store_new rfl 24 _ _ rfl atRat _ _ _ rfl rfl rfl rfl (rat_one _ _ _ _ _ _ _) ?_
      generalize (w5.alloc (.cells #[.bool ((ofC n d).1).neg, .slice a_e n_e c_e, .slice b_e m_e d_e] 24)) = w6 at *
      have c := refRatOf_any w6 n d h_n1 l_n h_d1 l_d
      refine c.mono ?_
      rintro e w7 ⟨a_f, n_f, c_f, b_f, m_f, d_f, rfl, h_fn_7, h_fd_7, hb⟩
      clear c
      have B7 := B6.trans (hb.mono B6.size)
      have h_xn_7 := h_xn_6.below hb
      have h_xd_7 := h_xd_6.below hb
      have h_yn_7 := h_yn_6.below hb
      have h_yd_7 := h_yd_6.below hb
      have h_x_7 := h_x_6.later hb
      have h_y_7 := h_y_6.later hb
      have h_en_7 := h_en_6.below hb
      have h_ed_7 := h_ed_6.below hb
      have h_e_7 := h_e_6.later hb
      clear hb B6 h_xn_6 h_xd_6 h_yn_6 h_yd_6 h_x_6 h_y_6 h_en_6 h_ed_6 h_e_6
      have hb := below_al w7 (.cells #[.bool ((ofC n d).1).neg, .slice a_f n_f c_f, .slice b_f m_f d_f] 24)
      have B8 := B7.trans (hb.mono B7.size)
      have h_xn_8 := h_xn_7.below hb
      have h_xd_8 := h_xd_7.below hb
      have h_yn_8 := h_yn_7.below hb
      have h_yd_8 := h_yd_7.below hb
      have h_x_8 := h_x_7.later hb
      have h_y_8 := h_y_7.later hb
      have h_en_8 := h_en_7.below hb
      have h_ed_8 := h_ed_7.below hb
      have h_e_8 := h_e_7.later hb
      have h_fn_8 := h_fn_7.below hb
      have h_fd_8 := h_fd_7.below hb
      clear hb B7 h_xn_7 h_xd_7 h_yn_7 h_yd_7 h_x_7 h_y_7 h_en_7 h_ed_7 h_e_7 h_fn_7 h_fd_7
      have h_f_8 := Has.new w7 #[.bool ((ofC n d).1).neg, .slice a_f n_f c_f, .slice b_f m_f d_f] 24
      have k_x_0 := h_x_8.cell 0 _ rfl
      have k_x_1 := h_x_8.cell 1 _ rfl
      have k_x_2 := h_x_8.cell 2 _ rfl
      go_wp2_with first | refine wpList_store_new rfl 24 _ _ rfl atRat _ _ _ rfl rfl rfl rfl (rat_one _ _ _ _ _ _ _) ?_
      clear k_x_0 k_x_1 k_x_2
      generalize (w7.alloc (.cells #[.bool ((ofC n d).1).neg, .slice a_f n_f c_f, .slice b_f m_f d_f] 24)) = w8 at *
      have c := ratNeg_any w8 (g := (x).neg) h_xn_8 h_xd_8
      rw [show (⟨(x).neg, (x).num, (x).den⟩ : QV) = x from rfl] at c
      refine c.mono ?_
      rintro e w9 ⟨a_h, n_h, c_h, b_h, m_h, d_h, rfl, h_hn_9, h_hd_9, hb⟩
      clear c
      have B9 := B8.trans (hb.mono B8.size)
      have h_xn_9 := h_xn_8.below hb
      have h_xd_9 := h_xd_8.below hb
      have h_yn_9 := h_yn_8.below hb
      have h_yd_9 := h_yd_8.below hb
      have h_x_9 := h_x_8.later hb
      have h_y_9 := h_y_8.later hb
      have h_en_9 := h_en_8.below hb
      have h_ed_9 := h_ed_8.below hb
      have h_e_9 := h_e_8.later hb
      have h_fn_9 := h_fn_8.below hb
      have h_fd_9 := h_fd_8.below hb
      have h_f_9 := h_f_8.later hb
      clear hb B8 h_xn_8 h_xd_8 h_yn_8 h_yd_8 h_x_8 h_y_8 h_en_8 h_ed_8 h_e_8 h_fn_8 h_fd_8 h_f_8
      have hb := below_al w9 (.cells #[.bool ((negC x).1).neg, .slice a_h n_h c_h, .slice b_h m_h d_h] 24)
      have B10 := B9.trans (hb.mono B9.size)
      have h_xn_10 := h_xn_9.below hb
      have h_xd_10 := h_xd_9.below hb
      have h_yn_10 := h_yn_9.below hb
      have h_yd_10 := h_yd_9.below hb
      have h_x_10 := h_x_9.later hb
      have h_y_10 := h_y_9.later hb
      have h_en_10 := h_en_9.below hb
      have h_ed_10 := h_ed_9.below hb
      have h_e_10 := h_e_9.later hb
      have h_fn_10 := h_fn_9.below hb
      have h_fd_10 := h_fd_9.below hb
      have h_f_10 := h_f_9.later hb
      have h_hn_10 := h_hn_9.below hb
      have h_hd_10 := h_hd_9.below hb
      clear hb B9 h_xn_9 h_xd_9 h_yn_9 h_yd_9 h_x_9 h_y_9 h_en_9 h_ed_9 h_e_9 h_fn_9 h_fd_9 h_f_9 h_hn_9 h_hd_9
      have h_h_10 := Has.new w9 #[.bool ((negC x).1).neg, .slice a_h n_h c_h, .slice b_h m_h d_h] 24
      have k_x_0 := h_x_10.cell 0 _ rfl
      have k_x_1 := h_x_10.cell 1 _ rfl
      have k_x_2 := h_x_10.cell 2 _ rfl
      go_wp2_with first | refine wpList_store_new rfl 24 _ _ rfl atRat _ _ _ rfl rfl rfl rfl (rat_one _ _ _ _ _ _ _) ?_
      clear k_x_0 k_x_1 k_x_2
      generalize (w9.alloc (.cells #[.bool ((negC x).1).neg, .slice a_h n_h c_h, .slice b_h m_h d_h] 24)) = w10 at *
      have c := refNeg_any w10 (g := (x).neg) h_xn_10 h_xd_10
      rw [show (⟨(x).neg, (x).num, (x).den⟩ : QV) = x from rfl] at c
      refine c.mono ?_
      rintro e w11 ⟨a_i, n_i, c_i, b_i, m_i, d_i, rfl, h_in_11, h_id_11, hb⟩
      clear c
      have B11 := B10.trans (hb.mono B10.size)
      have h_xn_11 := h_xn_10.below hb
      have h_xd_11 := h_xd_10.below hb
      have h_yn_11 := h_yn_10.below hb
      have h_yd_11 := h_yd_10.below hb
      have h_x_11 := h_x_10.later hb
      have h_y_11 := h_y_10.later hb
      have h_en_11 := h_en_10.below hb
      have h_ed_11 := h_ed_10.below hb
      have h_e_11 := h_e_10.later hb
      have h_fn_11 := h_fn_10.below hb
      have h_fd_11 := h_fd_10.below hb
      have h_f_11 := h_f_10.later hb
      have h_hn_11 := h_hn_10.below hb
      have h_hd_11 := h_hd_10.below hb
      have h_h_11 := h_h_10.later hb
      clear hb B10 h_xn_10 h_xd_10 h_yn_10 h_yd_10 h_x_10 h_y_10 h_en_10 h_ed_10 h_e_10 h_fn_10 h_fd_10 h_f_10 h_hn_10 h_hd_10 h_h_10
      have hb := below_al w11 (.cells #[.bool ((negC x).1).neg, .slice a_i n_i c_i, .slice b_i m_i d_i] 24)
      have B12 := B11.trans (hb.mono B11.size)
      have h_xn_12 := h_xn_11.below hb
      have h_xd_12 := h_xd_11.below hb
      have h_yn_12 := h_yn_11.below hb
      have h_yd_12 := h_yd_11.below hb
      have h_x_12 := h_x_11.later hb
      have h_y_12 := h_y_11.later hb
      have h_en_12 := h_en_11.below hb
      have h_ed_12 := h_ed_11.below hb
      have h_e_12 := h_e_11.later hb
      have h_fn_12 := h_fn_11.below hb
      have h_fd_12 := h_fd_11.below hb
      have h_f_12 := h_f_11.later hb
      have h_hn_12 := h_hn_11.below hb
      have h_hd_12 := h_hd_11.below hb
      have h_h_12 := h_h_11.later hb
      have h_in_12 := h_in_11.below hb
      have h_id_12 := h_id_11.below hb
      clear hb B11 h_xn_11 h_xd_11 h_yn_11 h_yd_11 h_x_11 h_y_11 h_en_11 h_ed_11 h_e_11 h_fn_11 h_fd_11 h_f_11 h_hn_11 h_hd_11 h_h_11 h_in_11 h_id_11
      have h_i_12 := Has.new w11 #[.bool ((negC x).1).neg, .slice a_i n_i c_i, .slice b_i m_i d_i] 24
      have k_x_0 := h_x_12.cell 0 _ rfl
      have k_x_1 := h_x_12.cell 1 _ rfl
      have k_x_2 := h_x_12.cell 2 _ rfl
      have k_y_0 := h_y_12.cell 0 _ rfl
      have k_y_1 := h_y_12.cell 1 _ rfl
      have k_y_2 := h_y_12.cell 2 _ rfl
      go_wp2_with first | refine wpList_store_new rfl 24 _ _ rfl atRat _ _ _ rfl rfl rfl rfl (rat_one _ _ _ _ _ _ _) ?_
      clear k_x_0 k_x_1 k_x_2 k_y_0 k_y_1 k_y_2
      generalize (w11.alloc (.cells #[.bool ((negC x).1).neg, .slice a_i n_i c_i, .slice b_i m_i d_i] 24)) = w12 at *
      have c := ratCmp_any w12 (g1 := (x).neg) (g2 := (y).neg) h_xn_12 h_xd_12 h_yn_12 h_yd_12
      rw [show (⟨(x).neg, (x).num, (x).den⟩ : QV) = x from rfl] at c
      rw [show (⟨(y).neg, (y).num, (y).den⟩ : QV) = y from rfl] at c
      refine c.mono ?_
      rintro e w13 ⟨rfl, hb⟩
      clear c
      have B13 := B12.trans (hb.mono B12.size)
      have h_xn_13 := h_xn_12.below hb
      have h_xd_13 := h_xd_12.below hb
      have h_yn_13 := h_yn_12.below hb
      have h_yd_13 := h_yd_12.below hb
      have h_x_13 := h_x_12.later hb
      have h_y_13 := h_y_12.later hb
      have h_en_13 := h_en_12.below hb
      have h_ed_13 := h_ed_12.below hb
      have h_e_13 := h_e_12.later hb
      have h_fn_13 := h_fn_12.below hb
      have h_fd_13 := h_fd_12.below hb
      have h_f_13 := h_f_12.later hb
      have h_hn_13 := h_hn_12.below hb
      have h_hd_13 := h_hd_12.below hb
      have h_h_13 := h_h_12.later hb
      have h_in_13 := h_in_12.below hb
      have h_id_13 := h_id_12.below hb
      have h_i_13 := h_i_12.later hb
      clear hb B12 h_xn_12 h_xd_12 h_yn_12 h_yd_12 h_x_12 h_y_12 h_en_12 h_ed_12 h_e_12 h_fn_12 h_fd_12 h_f_12 h_hn_12 h_hd_12 h_h_12 h_in_12 h_id_12 h_i_12
      have k_x_0 := h_x_13.cell 0 _ rfl
      have k_x_1 := h_x_13.cell 1 _ rfl
      have k_x_2 := h_x_13.cell 2 _ rfl
      have k_y_0 := h_y_13.cell 0 _ rfl
      have k_y_1 := h_y_13.cell 1 _ rfl
      have k_y_2 := h_y_13.cell 2 _ rfl
      go_wp2_with fail
      clear k_x_0 k_x_1 k_x_2 k_y_0 k_y_1 k_y_2
      have c := refRatCmp_any w13 (g1 := (x).neg) (g2 := (y).neg) h_xn_13 h_xd_13 h_yn_13 h_yd_13
      rw [show (⟨(x).neg, (x).num, (x).den⟩ : QV) = x from rfl] at c
      rw [show (⟨(y).neg, (y).num, (y).den⟩ : QV) = y from rfl] at c
      refine c.mono ?_
      rintro e w14 ⟨rfl, hb⟩
      clear c
      have B14 := B13.trans (hb.mono B13.size)
      have h_xn_14 := h_xn_13.below hb
      have h_xd_14 := h_xd_13.below hb
      have h_yn_14 := h_yn_13.below hb
      have h_yd_14 := h_yd_13.below hb
      have h_x_14 := h_x_13.later hb
      have h_y_14 := h_y_13.later hb
      have h_en_14 := h_en_13.below hb
      have h_ed_14 := h_ed_13.below hb
      have h_e_14 := h_e_13.later hb
      have h_fn_14 := h_fn_13.below hb
      have h_fd_14 := h_fd_13.below hb
      have h_f_14 := h_f_13.later hb
      have h_hn_14 := h_hn_13.below hb
      have h_hd_14 := h_hd_13.below hb
      have h_h_14 := h_h_13.later hb
      have h_in_14 := h_in_13.below hb
      have h_id_14 := h_id_13.below hb
      have h_i_14 := h_i_13.later hb
      clear hb B13 h_xn_13 h_xd_13 h_yn_13 h_yd_13 h_x_13 h_y_13 h_en_13 h_ed_13 h_e_13 h_fn_13 h_fd_13 h_f_13 h_hn_13 h_hd_13 h_h_13 h_in_13 h_id_13 h_i_13
      have k_x_0 := h_x_14.cell 0 _ rfl
      have k_x_1 := h_x_14.cell 1 _ rfl
      have k_x_2 := h_x_14.cell 2 _ rfl
      go_wp2_with fail
      clear k_x_0 k_x_1 k_x_2
      have c := ratFloor_any w14 (g := (x).neg) h_xn_14 h_xd_14
      rw [show (⟨(x).neg, (x).num, (x).den⟩ : QV) = x from rfl] at c
      refine c.mono ?_
      rintro e w15 ⟨rfl, hb⟩
      clear c
      have B15 := B14.trans (hb.mono B14.size)
      have h_xn_15 := h_xn_14.below hb
      have h_xd_15 := h_xd_14.below hb
      have h_yn_15 := h_yn_14.below hb
      have h_yd_15 := h_yd_14.below hb
      have h_x_15 := h_x_14.later hb
      have h_y_15 := h_y_14.later hb
      have h_en_15 := h_en_14.below hb
      have h_ed_15 := h_ed_14.below hb
      have h_e_15 := h_e_14.later hb
      have h_fn_15 := h_fn_14.below hb
      have h_fd_15 := h_fd_14.below hb
      have h_f_15 := h_f_14.later hb
      have h_hn_15 := h_hn_14.below hb
      have h_hd_15 := h_hd_14.below hb
      have h_h_15 := h_h_14.later hb
      have h_in_15 := h_in_14.below hb
      have h_id_15 := h_id_14.below hb
      have h_i_15 := h_i_14.later hb
      clear hb B14 h_xn_14 h_xd_14 h_yn_14 h_yd_14 h_x_14 h_y_14 h_en_14 h_ed_14 h_e_14 h_fn_14 h_fd_14 h_f_14 h_hn_14 h_hd_14 h_h_14 h_in_14 h_id_14 h_i_14
      have k_x_0 := h_x_15.cell 0 _ rfl
      have k_x_1 := h_x_15.cell 1 _ rfl
      have k_x_2 := h_x_15.cell 2 _ rfl
      go_wp2_with fail
      clear k_x_0 k_x_1 k_x_2
      have c := refRatFloor_any w15 (g := (x).neg) h_xn_15 h_xd_15
      rw [show (⟨(x).neg, (x).num, (x).den⟩ : QV) = x from rfl] at c
      refine c.mono ?_
      rintro e w16 ⟨rfl, hb⟩
      clear c
      have B16 := B15.trans (hb.mono B15.size)
      have h_xn_16 := h_xn_15.below hb
      have h_xd_16 := h_xd_15.below hb
      have h_yn_16 := h_yn_15.below hb
      have h_yd_16 := h_yd_15.below hb
      have h_x_16 := h_x_15.later hb
      have h_y_16 := h_y_15.later hb
      have h_en_16 := h_en_15.below hb
      have h_ed_16 := h_ed_15.below hb
      have h_e_16 := h_e_15.later hb
      have h_fn_16 := h_fn_15.below hb
      have h_fd_16 := h_fd_15.below hb
      have h_f_16 := h_f_15.later hb
      have h_hn_16 := h_hn_15.below hb
      have h_hd_16 := h_hd_15.below hb
      have h_h_16 := h_h_15.later hb
      have h_in_16 := h_in_15.below hb
      have h_id_16 := h_id_15.below hb
      have h_i_16 := h_i_15.later hb
      clear hb B15 h_xn_15 h_xd_15 h_yn_15 h_yd_15 h_x_15 h_y_15 h_en_15 h_ed_15 h_e_15 h_fn_15 h_fd_15 h_f_15 h_hn_15 h_hd_15 h_h_15 h_in_15 h_id_15 h_i_15
      have k_e_0 := h_e_16.cell 0 _ rfl
      have k_e_1 := h_e_16.cell 1 _ rfl
      have k_e_2 := h_e_16.cell 2 _ rfl
      have k_f_0 := h_f_16.cell 0 _ rfl
      have k_f_1 := h_f_16.cell 1 _ rfl
      have k_f_2 := h_f_16.cell 2 _ rfl
      go_wp2_with fail
      clear k_e_0 k_e_1 k_e_2 k_f_0 k_f_1 k_f_2
      have c := refRatSame_any w16 (g1 := ((ofC n d).1).neg) (g2 := ((ofC n d).1).neg) h_en_16 h_ed_16 h_fn_16 h_fd_16
      rw [show (⟨((ofC n d).1).neg, ((ofC n d).1).num, ((ofC n d).1).den⟩ : QV) = (ofC n d).1 from rfl] at c
      rw [sameV_self] at c
      refine c.mono ?_
      rintro e w17 ⟨rfl, hb⟩
      clear c
      have B17 := B16.trans (hb.mono B16.size)
      have h_xn_17 := h_xn_16.below hb
      have h_xd_17 := h_xd_16.below hb
      have h_yn_17 := h_yn_16.below hb
      have h_yd_17 := h_yd_16.below hb
      have h_x_17 := h_x_16.later hb
      have h_y_17 := h_y_16.later hb
      have h_en_17 := h_en_16.below hb
      have h_ed_17 := h_ed_16.below hb
      have h_e_17 := h_e_16.later hb
      have h_fn_17 := h_fn_16.below hb
      have h_fd_17 := h_fd_16.below hb
      have h_f_17 := h_f_16.later hb
      have h_hn_17 := h_hn_16.below hb
      have h_hd_17 := h_hd_16.below hb
      have h_h_17 := h_h_16.later hb
      have h_in_17 := h_in_16.below hb
      have h_id_17 := h_id_16.below hb
      have h_i_17 := h_i_16.later hb
      clear hb B16 h_xn_16 h_xd_16 h_yn_16 h_yd_16 h_x_16 h_y_16 h_en_16 h_ed_16 h_e_16 h_fn_16 h_fd_16 h_f_16 h_hn_16 h_hd_16 h_h_16 h_in_16 h_id_16 h_i_16
      have k_h_0 := h_h_17.cell 0 _ rfl
      have k_h_1 := h_h_17.cell 1 _ rfl
      have k_h_2 := h_h_17.cell 2 _ rfl
      have k_i_0 := h_i_17.cell 0 _ rfl
      have k_i_1 := h_i_17.cell 1 _ rfl
      have k_i_2 := h_i_17.cell 2 _ rfl
      go_wp2_with fail
      clear k_h_0 k_h_1 k_h_2 k_i_0 k_i_1 k_i_2
      have c := refRatSame_any w17 (g1 := ((negC x).1).neg) (g2 := ((negC x).1).neg) h_hn_17 h_hd_17 h_in_17 h_id_17
      rw [show (⟨((negC x).1).neg, ((negC x).1).num, ((negC x).1).den⟩ : QV) = (negC x).1 from rfl] at c
      rw [sameV_self] at c
      refine c.mono ?_
      rintro e w18 ⟨rfl, hb⟩
      clear c
      have B18 := B17.trans (hb.mono B17.size)
      have h_xn_18 := h_xn_17.below hb
      have h_xd_18 := h_xd_17.below hb
      have h_yn_18 := h_yn_17.below hb
      have h_yd_18 := h_yd_17.below hb
      have h_x_18 := h_x_17.later hb
      have h_y_18 := h_y_17.later hb
      have h_en_18 := h_en_17.below hb
      have h_ed_18 := h_ed_17.below hb
      have h_e_18 := h_e_17.later hb
      have h_fn_18 := h_fn_17.below hb
      have h_fd_18 := h_fd_17.below hb
      have h_f_18 := h_f_17.later hb
      have h_hn_18 := h_hn_17.below hb
      have h_hd_18 := h_hd_17.below hb
      have h_h_18 := h_h_17.later hb
      have h_in_18 := h_in_17.below hb
      have h_id_18 := h_id_17.below hb
      have h_i_18 := h_i_17.later hb
      clear hb B17 h_xn_17 h_xd_17 h_yn_17 h_yd_17 h_x_17 h_y_17 h_en_17 h_ed_17 h_e_17 h_fn_17 h_fd_17 h_f_17 h_hn_17 h_hd_17 h_h_17 h_in_17 h_id_17 h_i_17
      clear h_e_18 h_en_18 h_ed_18 h_f_18 h_fn_18 h_fd_18 h_h_18 h_hn_18 h_hd_18 h_i_18 h_in_18 h_id_18
      go_wp2_with fail
      have hb := (Below.refl w18.heap.size w18).drew
      have B19 := B18.trans (hb.mono B18.size)
      have h_xn_19 := h_xn_18.below hb
      have h_xd_19 := h_xd_18.below hb
      have h_yn_19 := h_yn_18.below hb
      have h_yd_19 := h_yd_18.below hb
      have h_x_19 := h_x_18.later hb
      have h_y_19 := h_y_18.later hb
      clear hb B18 h_xn_18 h_xd_18 h_yn_18 h_yd_18 h_x_18 h_y_18
      refine wp_region_held_drew (S := (fun w' => w'.cell? ⟨w.heap.size, 0, none⟩ = some (.bool (x).neg) ∧ w'.cell? ⟨w.heap.size, 1, none⟩ = some (.slice a_x n_x c_x) ∧ w'.cell? ⟨w.heap.size, 2, none⟩ = some (.slice b_x m_x d_x) ∧ w'.cell? ⟨w.heap.size + 1, 0, none⟩ = some (.bool (y).neg) ∧ w'.cell? ⟨w.heap.size + 1, 1, none⟩ = some (.slice a_y n_y c_y) ∧ w'.cell? ⟨w.heap.size + 1, 2, none⟩ = some (.slice b_y m_y d_y) ∧ True)) (by kernel_rfl) ?_ (fun hHeld => ?_)
      · exact ⟨h_x_19.cell 0 _ rfl, h_x_19.cell 1 _ rfl, h_x_19.cell 2 _ rfl, h_y_19.cell 0 _ rfl, h_y_19.cell 1 _ rfl, h_y_19.cell 2 _ rfl, trivial⟩
      generalize w18.drew = w19 at *
      as_aux_lemma =>
        refine wpAnyH_take (i := 0) (oi := ?oir62_0) (v := ?vr62_0) ?hir62_0 (by kernel_rfl) (by kernel_rfl) (by kernel_rfl) ?hqr62_0 ?hyr62_0 (by assumption) ?restr62_0
        case hir62_0 => simp only [List.getElem?_toArray, List.getElem?_cons_succ, List.getElem?_cons_zero]; rfl
        case hqr62_0 => exact fun _ _ _ h => h
        case hyr62_0 => (refine Or.inl ⟨by rfl, ?_⟩; intro w hSw; (try dsimp only at hSw); go_simp; all_goals with_reducible rfl)
        try simp only [Act.put, List.setIfInBounds_toArray, List.set_cons_zero, List.set_cons_succ]
        refine wpAnyH_take (i := 2) (oi := ?oir62_2) (v := ?vr62_2) ?hir62_2 (by kernel_rfl) (by kernel_rfl) (by kernel_rfl) ?hqr62_2 ?hyr62_2 (by assumption) ?restr62_2
        case hir62_2 => simp only [List.getElem?_toArray, List.getElem?_cons_succ, List.getElem?_cons_zero]; rfl
        case hqr62_2 => exact fun _ _ _ h => h
        case hyr62_2 => (refine Or.inl ⟨by rfl, ?_⟩; intro w hSw; (try dsimp only at hSw); go_simp; all_goals with_reducible rfl)
        try simp only [Act.put, List.setIfInBounds_toArray, List.set_cons_zero, List.set_cons_succ]
        refine wpAnyH_ready (rs := [1]) (by kernel_rfl) (by simp) ?_
        refine AllReadyH.cons (o := ?or63_1) ?hor63_1 (fun K hK => ?kr63_1) AllReadyH.nil
        case hor63_1 => simp only [List.getElem?_toArray, List.getElem?_cons_succ, List.getElem?_cons_zero]; rfl
        go_simp
        have c := ratCheck_any w19 (neg := (x).neg) h_xn_19 h_xd_19
        rw [show (⟨(x).neg, (x).num, (x).den⟩ : QV) = x from rfl] at c
        refine c.mono ?_
        rintro e w20 ⟨rfl, hb⟩
        clear c
        have B20 := B19.trans (hb.mono B19.size)
        have h_xn_20 := h_xn_19.below hb
        have h_xd_20 := h_xd_19.below hb
        have h_yn_20 := h_yn_19.below hb
        have h_yd_20 := h_yd_19.below hb
        have h_x_20 := h_x_19.later hb
        have h_y_20 := h_y_19.later hb
        clear hb B19 h_xn_19 h_xd_19 h_yn_19 h_yd_19 h_x_19 h_y_19
        go_wp2_with fail
        clear hHeld
        refine hK.out _ _ ?_ (fun hHeld => ?_)
        · exact ⟨h_x_20.cell 0 _ rfl, h_x_20.cell 1 _ rfl, h_x_20.cell 2 _ rfl, h_y_20.cell 0 _ rfl, h_y_20.cell 1 _ rfl, h_y_20.cell 2 _ rfl, trivial⟩
        clear hK K
        try simp only [Act.put, List.setIfInBounds_toArray, List.set_cons_zero, List.set_cons_succ]
        refine wpAnyH_ready (rs := [3]) (by kernel_rfl) (by simp) ?_
        refine AllReadyH.cons (o := ?or64_3) ?hor64_3 (fun K hK => ?kr64_3) AllReadyH.nil
        case hor64_3 => simp only [List.getElem?_toArray, List.getElem?_cons_succ, List.getElem?_cons_zero]; rfl
        go_simp
        have c := refRatCheck_any w20 (neg := (x).neg) h_xn_20 h_xd_20
        rw [show (⟨(x).neg, (x).num, (x).den⟩ : QV) = x from rfl] at c
        refine c.mono ?_
        rintro e w21 ⟨rfl, hb⟩
        clear c
        have B21 := B20.trans (hb.mono B20.size)
        have h_xn_21 := h_xn_20.below hb
        have h_xd_21 := h_xd_20.below hb
        have h_yn_21 := h_yn_20.below hb
        have h_yd_21 := h_yd_20.below hb
        have h_x_21 := h_x_20.later hb
        have h_y_21 := h_y_20.later hb
        clear hb B20 h_xn_20 h_xd_20 h_yn_20 h_yd_20 h_x_20 h_y_20
        go_wp2_with fail
        clear hHeld
        refine hK.out _ _ ?_ (fun hHeld => ?_)
        · exact ⟨h_x_21.cell 0 _ rfl, h_x_21.cell 1 _ rfl, h_x_21.cell 2 _ rfl, h_y_21.cell 0 _ rfl, h_y_21.cell 1 _ rfl, h_y_21.cell 2 _ rfl, trivial⟩
        clear hK K
        try simp only [Act.put, List.setIfInBounds_toArray, List.set_cons_zero, List.set_cons_succ]
        refine wpAnyH_take (i := 4) (oi := ?oir65_4) (v := ?vr65_4) ?hir65_4 (by kernel_rfl) (by kernel_rfl) (by kernel_rfl) ?hqr65_4 ?hyr65_4 (by assumption) ?restr65_4
        case hir65_4 => simp only [List.getElem?_toArray, List.getElem?_cons_succ, List.getElem?_cons_zero]; rfl
        case hqr65_4 => exact fun _ _ _ h => h
        case hyr65_4 => (refine Or.inl ⟨by rfl, ?_⟩; intro w hSw; (try dsimp only at hSw); go_simp; all_goals with_reducible rfl)
        try simp only [Act.put, List.setIfInBounds_toArray, List.set_cons_zero, List.set_cons_succ]
        refine wpAnyH_take (i := 5) (oi := ?oir65_5) (v := ?vr65_5) ?hir65_5 (by kernel_rfl) (by kernel_rfl) (by kernel_rfl) ?hqr65_5 ?hyr65_5 (by assumption) ?restr65_5
        case hir65_5 => simp only [List.getElem?_toArray, List.getElem?_cons_succ, List.getElem?_cons_zero]; rfl
        case hqr65_5 => exact fun _ _ _ h => h
        case hyr65_5 => (refine Or.inl ⟨by rfl, ?_⟩; intro w hSw; (try dsimp only at hSw); go_simp; all_goals with_reducible rfl)
        try simp only [Act.put, List.setIfInBounds_toArray, List.set_cons_zero, List.set_cons_succ]
        refine wpAnyH_take (i := 6) (oi := ?oir65_6) (v := ?vr65_6) ?hir65_6 (by kernel_rfl) (by kernel_rfl) (by kernel_rfl) ?hqr65_6 ?hyr65_6 (by assumption) ?restr65_6
        case hir65_6 => simp only [List.getElem?_toArray, List.getElem?_cons_succ, List.getElem?_cons_zero]; rfl
        case hqr65_6 => exact fun _ _ _ h => h
        case hyr65_6 => (refine Or.inl ⟨by rfl, ?_⟩; intro w hSw; (try dsimp only at hSw); go_simp; all_goals with_reducible rfl)
        try simp only [Act.put, List.setIfInBounds_toArray, List.set_cons_zero, List.set_cons_succ]
        refine wpAnyH_take (i := 8) (oi := ?oir65_8) (v := ?vr65_8) ?hir65_8 (by kernel_rfl) (by kernel_rfl) (by kernel_rfl) ?hqr65_8 ?hyr65_8 (by assumption) ?restr65_8
        case hir65_8 => simp only [List.getElem?_toArray, List.getElem?_cons_succ, List.getElem?_cons_zero]; rfl
        case hqr65_8 => exact fun _ _ _ h => h
        case hyr65_8 => (refine Or.inl ⟨by rfl, ?_⟩; intro w hSw; (try dsimp only at hSw); go_simp; all_goals with_reducible rfl)
        try simp only [Act.put, List.setIfInBounds_toArray, List.set_cons_zero, List.set_cons_succ]
        refine wpAnyH_ready (rs := [7]) (by kernel_rfl) (by simp) ?_
        refine AllReadyH.cons (o := ?or66_7) ?hor66_7 (fun K hK => ?kr66_7) AllReadyH.nil
        case hor66_7 => simp only [List.getElem?_toArray, List.getElem?_cons_succ, List.getElem?_cons_zero]; rfl
        go_simp
        have c := whole_any w21 n h_n1 l_n
        refine c.mono ?_
        rintro e w22 ⟨a_o, n_o, c_o, b_o, m_o, d_o, rfl, h_on_22, h_od_22, hb⟩
        clear c
        have B22 := B21.trans (hb.mono B21.size)
        have h_xn_22 := h_xn_21.below hb
        have h_xd_22 := h_xd_21.below hb
        have h_yn_22 := h_yn_21.below hb
        have h_yd_22 := h_yd_21.below hb
        have h_x_22 := h_x_21.later hb
        have h_y_22 := h_y_21.later hb
        clear hb B21 h_xn_21 h_xd_21 h_yn_21 h_yd_21 h_x_21 h_y_21
        go_wp2_with fail
        clear hHeld
        refine hK.out _ _ ?_ (fun hHeld => ?_)
        · exact ⟨h_x_22.cell 0 _ rfl, h_x_22.cell 1 _ rfl, h_x_22.cell 2 _ rfl, h_y_22.cell 0 _ rfl, h_y_22.cell 1 _ rfl, h_y_22.cell 2 _ rfl, trivial⟩
        clear hK K
        try simp only [Act.put, List.setIfInBounds_toArray, List.set_cons_zero, List.set_cons_succ]
        refine wpAnyH_ready (rs := [9]) (by kernel_rfl) (by simp) ?_
        refine AllReadyH.cons (o := ?or67_9) ?hor67_9 (fun K hK => ?kr67_9) AllReadyH.nil
        case hor67_9 => simp only [List.getElem?_toArray, List.getElem?_cons_succ, List.getElem?_cons_zero]; rfl
        go_simp
        have c := refWhole_any w22 n h_n1 l_n
        refine c.mono ?_
        rintro e w23 ⟨a_q, n_q, c_q, b_q, m_q, d_q, rfl, h_qn_23, h_qd_23, hb⟩
        clear c
        have B23 := B22.trans (hb.mono B22.size)
        have h_xn_23 := h_xn_22.below hb
        have h_xd_23 := h_xd_22.below hb
        have h_yn_23 := h_yn_22.below hb
        have h_yd_23 := h_yd_22.below hb
        have h_x_23 := h_x_22.later hb
        have h_y_23 := h_y_22.later hb
        have h_on_23 := h_on_22.below hb
        have h_od_23 := h_od_22.below hb
        clear hb B22 h_xn_22 h_xd_22 h_yn_22 h_yd_22 h_x_22 h_y_22 h_on_22 h_od_22
        go_wp2_with fail
        clear hHeld
        refine hK.out _ _ ?_ (fun hHeld => ?_)
        · exact ⟨h_x_23.cell 0 _ rfl, h_x_23.cell 1 _ rfl, h_x_23.cell 2 _ rfl, h_y_23.cell 0 _ rfl, h_y_23.cell 1 _ rfl, h_y_23.cell 2 _ rfl, trivial⟩
        clear hK K
        try simp only [Act.put, List.setIfInBounds_toArray, List.set_cons_zero, List.set_cons_succ]
        refine wpAnyH_ready (rs := [10]) (by kernel_rfl) (by simp) ?_
        refine AllReadyH.cons (o := ?or68_10) ?hor68_10 (fun K hK => ?kr68_10) AllReadyH.nil
        case hor68_10 => simp only [List.getElem?_toArray, List.getElem?_cons_succ, List.getElem?_cons_zero]; rfl
        go_simp
        have c := refRatSame_any w23 (g1 := ((ofC n 1).1).neg) (g2 := ((ofC n 1).1).neg) h_on_23 h_od_23 h_qn_23 h_qd_23
        rw [show (⟨((ofC n 1).1).neg, ((ofC n 1).1).num, ((ofC n 1).1).den⟩ : QV) = (ofC n 1).1 from rfl] at c
        rw [sameV_self] at c
        refine c.mono ?_
        rintro e w24 ⟨rfl, hb⟩
        clear c
        have B24 := B23.trans (hb.mono B23.size)
        have h_xn_24 := h_xn_23.below hb
        have h_xd_24 := h_xd_23.below hb
        have h_yn_24 := h_yn_23.below hb
        have h_yd_24 := h_yd_23.below hb
        have h_x_24 := h_x_23.later hb
        have h_y_24 := h_y_23.later hb
        clear hb B23 h_xn_23 h_xd_23 h_yn_23 h_yd_23 h_x_23 h_y_23 h_on_23 h_od_23 h_qn_23 h_qd_23
        go_wp2_with fail
        clear hHeld
        refine hK.out _ _ ?_ (fun hHeld => ?_)
        · exact ⟨h_x_24.cell 0 _ rfl, h_x_24.cell 1 _ rfl, h_x_24.cell 2 _ rfl, h_y_24.cell 0 _ rfl, h_y_24.cell 1 _ rfl, h_y_24.cell 2 _ rfl, trivial⟩
        clear hK K
        try simp only [Act.put, List.setIfInBounds_toArray, List.set_cons_zero, List.set_cons_succ]
        as_aux_lemma =>
          refine wpAnyH_take (i := 11) (oi := ?oir70_11) (v := ?vr70_11) ?hir70_11 (by kernel_rfl) (by kernel_rfl) (by kernel_rfl) ?hqr70_11 ?hyr70_11 (by assumption) ?restr70_11
          case hir70_11 => simp only [List.getElem?_toArray, List.getElem?_cons_succ, List.getElem?_cons_zero]; rfl
          case hqr70_11 => exact fun _ _ _ h => h
          case hyr70_11 => (refine Or.inl ⟨by rfl, ?_⟩; intro w hSw; (try dsimp only at hSw); go_simp; all_goals with_reducible rfl)
          try simp only [Act.put, List.setIfInBounds_toArray, List.set_cons_zero, List.set_cons_succ]
          refine wpAnyH_take (i := 12) (oi := ?oir70_12) (v := ?vr70_12) ?hir70_12 (by kernel_rfl) (by kernel_rfl) (by kernel_rfl) ?hqr70_12 ?hyr70_12 (by assumption) ?restr70_12
          case hir70_12 => simp only [List.getElem?_toArray, List.getElem?_cons_succ, List.getElem?_cons_zero]; rfl
          case hqr70_12 => exact fun _ _ _ h => h
          case hyr70_12 => (refine Or.inl ⟨by rfl, ?_⟩; intro w hSw; (try dsimp only at hSw); go_simp; all_goals with_reducible rfl)
          try simp only [Act.put, List.setIfInBounds_toArray, List.set_cons_zero, List.set_cons_succ]
          refine wpAnyH_take (i := 13) (oi := ?oir70_13) (v := ?vr70_13) ?hir70_13 (by kernel_rfl) (by kernel_rfl) (by kernel_rfl) ?hqr70_13 ?hyr70_13 (by assumption) ?restr70_13
          case hir70_13 => simp only [List.getElem?_toArray, List.getElem?_cons_succ, List.getElem?_cons_zero]; rfl
          case hqr70_13 => exact fun _ _ _ h => h
          case hyr70_13 => (refine Or.inl ⟨by rfl, ?_⟩; intro w hSw; (try dsimp only at hSw); go_simp; all_goals with_reducible rfl)
          try simp only [Act.put, List.setIfInBounds_toArray, List.set_cons_zero, List.set_cons_succ]
          refine wpAnyH_take (i := 14) (oi := ?oir70_14) (v := ?vr70_14) ?hir70_14 (by kernel_rfl) (by kernel_rfl) (by kernel_rfl) ?hqr70_14 ?hyr70_14 (by assumption) ?restr70_14
          case hir70_14 => simp only [List.getElem?_toArray, List.getElem?_cons_succ, List.getElem?_cons_zero]; rfl
          case hqr70_14 => exact fun _ _ _ h => h
          case hyr70_14 => (refine Or.inl ⟨by rfl, ?_⟩; intro w hSw; (try dsimp only at hSw); go_simp; all_goals with_reducible rfl)
          try simp only [Act.put, List.setIfInBounds_toArray, List.set_cons_zero, List.set_cons_succ]
          refine wpAnyH_take (i := 16) (oi := ?oir70_16) (v := ?vr70_16) ?hir70_16 (by kernel_rfl) (by kernel_rfl) (by kernel_rfl) ?hqr70_16 ?hyr70_16 (by assumption) ?restr70_16
          case hir70_16 => simp only [List.getElem?_toArray, List.getElem?_cons_succ, List.getElem?_cons_zero]; rfl
          case hqr70_16 => exact fun _ _ _ h => h
          case hyr70_16 => (refine Or.inl ⟨by rfl, ?_⟩; intro w hSw; (try dsimp only at hSw); go_simp; all_goals with_reducible rfl)
          try simp only [Act.put, List.setIfInBounds_toArray, List.set_cons_zero, List.set_cons_succ]
          refine wpAnyH_take (i := 17) (oi := ?oir70_17) (v := ?vr70_17) ?hir70_17 (by kernel_rfl) (by kernel_rfl) (by kernel_rfl) ?hqr70_17 ?hyr70_17 (by assumption) ?restr70_17
          case hir70_17 => simp only [List.getElem?_toArray, List.getElem?_cons_succ, List.getElem?_cons_zero]; rfl
          case hqr70_17 => exact fun _ _ _ h => h
          case hyr70_17 => (refine Or.inl ⟨by rfl, ?_⟩; intro w hSw; (try dsimp only at hSw); go_simp; all_goals with_reducible rfl)
          try simp only [Act.put, List.setIfInBounds_toArray, List.set_cons_zero, List.set_cons_succ]
          refine wpAnyH_ready (rs := [15]) (by kernel_rfl) (by simp) ?_
          refine AllReadyH.cons (o := ?or71_15) ?hor71_15 (fun K hK => ?kr71_15) AllReadyH.nil
          case hor71_15 => simp only [List.getElem?_toArray, List.getElem?_cons_succ, List.getElem?_cons_zero]; rfl
          go_simp
          have c := ratSame_any w24 (g1 := (x).neg) (g2 := (y).neg) h_xn_24 h_xd_24 h_yn_24 h_yd_24
          rw [show (⟨(x).neg, (x).num, (x).den⟩ : QV) = x from rfl] at c
          rw [show (⟨(y).neg, (y).num, (y).den⟩ : QV) = y from rfl] at c
          refine c.mono ?_
          rintro e w25 ⟨rfl, hb⟩
          clear c
          have B25 := B24.trans (hb.mono B24.size)
          have h_xn_25 := h_xn_24.below hb
          have h_xd_25 := h_xd_24.below hb
          have h_yn_25 := h_yn_24.below hb
          have h_yd_25 := h_yd_24.below hb
          have h_x_25 := h_x_24.later hb
          have h_y_25 := h_y_24.later hb
          clear hb B24 h_xn_24 h_xd_24 h_yn_24 h_yd_24 h_x_24 h_y_24
          go_wp2_with fail
          clear hHeld
          refine hK.out _ _ ?_ (fun hHeld => ?_)
          · exact ⟨h_x_25.cell 0 _ rfl, h_x_25.cell 1 _ rfl, h_x_25.cell 2 _ rfl, h_y_25.cell 0 _ rfl, h_y_25.cell 1 _ rfl, h_y_25.cell 2 _ rfl, trivial⟩
          clear hK K
          try simp only [Act.put, List.setIfInBounds_toArray, List.set_cons_zero, List.set_cons_succ]
          refine wpAnyH_ready (rs := [18]) (by kernel_rfl) (by simp) ?_
          refine AllReadyH.cons (o := ?or72_18) ?hor72_18 (fun K hK => ?kr72_18) AllReadyH.nil
          case hor72_18 => simp only [List.getElem?_toArray, List.getElem?_cons_succ, List.getElem?_cons_zero]; rfl
          go_simp
          have c := refRatSame_any w25 (g1 := (x).neg) (g2 := (y).neg) h_xn_25 h_xd_25 h_yn_25 h_yd_25
          rw [show (⟨(x).neg, (x).num, (x).den⟩ : QV) = x from rfl] at c
          rw [show (⟨(y).neg, (y).num, (y).den⟩ : QV) = y from rfl] at c
          refine c.mono ?_
          rintro e w26 ⟨rfl, hb⟩
          clear c
          have B26 := B25.trans (hb.mono B25.size)
          have h_xn_26 := h_xn_25.below hb
          have h_xd_26 := h_xd_25.below hb
          have h_yn_26 := h_yn_25.below hb
          have h_yd_26 := h_yd_25.below hb
          have h_x_26 := h_x_25.later hb
          have h_y_26 := h_y_25.later hb
          clear hb B25 h_xn_25 h_xd_25 h_yn_25 h_yd_25 h_x_25 h_y_25
          go_wp2_with fail
          clear hHeld
          refine hK.out _ _ ?_ (fun hHeld => ?_)
          · exact ⟨h_x_26.cell 0 _ rfl, h_x_26.cell 1 _ rfl, h_x_26.cell 2 _ rfl, h_y_26.cell 0 _ rfl, h_y_26.cell 1 _ rfl, h_y_26.cell 2 _ rfl, trivial⟩
          clear hK K
          try simp only [Act.put, List.setIfInBounds_toArray, List.set_cons_zero, List.set_cons_succ]
          as_aux_lemma =>
            refine wpAnyH_take (i := 19) (oi := ?oir74_19) (v := ?vr74_19) ?hir74_19 (by kernel_rfl) (by kernel_rfl) (by kernel_rfl) ?hqr74_19 ?hyr74_19 (by assumption) ?restr74_19
            case hir74_19 => simp only [List.getElem?_toArray, List.getElem?_cons_succ, List.getElem?_cons_zero]; rfl
            case hqr74_19 => exact fun _ _ _ h => h
            case hyr74_19 => (refine Or.inl ⟨by rfl, ?_⟩; intro w hSw; (try dsimp only at hSw); go_simp; all_goals with_reducible rfl)
            try simp only [Act.put, List.setIfInBounds_toArray, List.set_cons_zero, List.set_cons_succ]
            refine wpAnyH_take (i := 20) (oi := ?oir74_20) (v := ?vr74_20) ?hir74_20 (by kernel_rfl) (by kernel_rfl) (by kernel_rfl) ?hqr74_20 ?hyr74_20 (by assumption) ?restr74_20
            case hir74_20 => simp only [List.getElem?_toArray, List.getElem?_cons_succ, List.getElem?_cons_zero]; rfl
            case hqr74_20 => exact fun _ _ _ h => h
            case hyr74_20 => (refine Or.inl ⟨by rfl, ?_⟩; intro w hSw; (try dsimp only at hSw); go_simp; all_goals with_reducible rfl)
            try simp only [Act.put, List.setIfInBounds_toArray, List.set_cons_zero, List.set_cons_succ]
            refine wpAnyH_take (i := 21) (oi := ?oir74_21) (v := ?vr74_21) ?hir74_21 (by kernel_rfl) (by kernel_rfl) (by kernel_rfl) ?hqr74_21 ?hyr74_21 (by assumption) ?restr74_21
            case hir74_21 => simp only [List.getElem?_toArray, List.getElem?_cons_succ, List.getElem?_cons_zero]; rfl
            case hqr74_21 => exact fun _ _ _ h => h
            case hyr74_21 => (refine Or.inl ⟨by rfl, ?_⟩; intro w hSw; (try dsimp only at hSw); go_simp; all_goals with_reducible rfl)
            try simp only [Act.put, List.setIfInBounds_toArray, List.set_cons_zero, List.set_cons_succ]
            refine wpAnyH_take (i := 22) (oi := ?oir74_22) (v := ?vr74_22) ?hir74_22 (by kernel_rfl) (by kernel_rfl) (by kernel_rfl) ?hqr74_22 ?hyr74_22 (by assumption) ?restr74_22
            case hir74_22 => simp only [List.getElem?_toArray, List.getElem?_cons_succ, List.getElem?_cons_zero]; rfl
            case hqr74_22 => exact fun _ _ _ h => h
            case hyr74_22 => (refine Or.inl ⟨by rfl, ?_⟩; intro w hSw; (try dsimp only at hSw); go_simp; all_goals with_reducible rfl)
            try simp only [Act.put, List.setIfInBounds_toArray, List.set_cons_zero, List.set_cons_succ]
            refine wpAnyH_take (i := 24) (oi := ?oir74_24) (v := ?vr74_24) ?hir74_24 (by kernel_rfl) (by kernel_rfl) (by kernel_rfl) ?hqr74_24 ?hyr74_24 (by assumption) ?restr74_24
            case hir74_24 => simp only [List.getElem?_toArray, List.getElem?_cons_succ, List.getElem?_cons_zero]; rfl
            case hqr74_24 => exact fun _ _ _ h => h
            case hyr74_24 => (refine Or.inl ⟨by rfl, ?_⟩; intro w hSw; (try dsimp only at hSw); go_simp; all_goals with_reducible rfl)
            try simp only [Act.put, List.setIfInBounds_toArray, List.set_cons_zero, List.set_cons_succ]
            refine wpAnyH_ready (rs := [23]) (by kernel_rfl) (by simp) ?_
            refine AllReadyH.cons (o := ?or75_23) ?hor75_23 (fun K hK => ?kr75_23) AllReadyH.nil
            case hor75_23 => simp only [List.getElem?_toArray, List.getElem?_cons_succ, List.getElem?_cons_zero]; rfl
            go_simp
            have c := ratTwin_any w26 (g := (x).neg) h_xn_26 h_xd_26 TW.out.1 TW.out.2
            rw [show (⟨(x).neg, (x).num, (x).den⟩ : QV) = x from rfl] at c
            refine c.mono ?_
            rintro e w27 ⟨a_o, n_o, c_o, b_o, m_o, d_o, rfl, h_on_27, h_od_27, hb⟩
            clear c
            have B27 := B26.trans (hb.mono B26.size)
            have h_xn_27 := h_xn_26.below hb
            have h_xd_27 := h_xd_26.below hb
            have h_yn_27 := h_yn_26.below hb
            have h_yd_27 := h_yd_26.below hb
            have h_x_27 := h_x_26.later hb
            have h_y_27 := h_y_26.later hb
            clear hb B26 h_xn_26 h_xd_26 h_yn_26 h_yd_26 h_x_26 h_y_26
            go_wp2_with fail
            clear hHeld
            refine hK.out _ _ ?_ (fun hHeld => ?_)
            · exact ⟨h_x_27.cell 0 _ rfl, h_x_27.cell 1 _ rfl, h_x_27.cell 2 _ rfl, h_y_27.cell 0 _ rfl, h_y_27.cell 1 _ rfl, h_y_27.cell 2 _ rfl, trivial⟩
            clear hK K
            try simp only [Act.put, List.setIfInBounds_toArray, List.set_cons_zero, List.set_cons_succ]
            refine wpAnyH_ready (rs := [25]) (by kernel_rfl) (by simp) ?_
            refine AllReadyH.cons (o := ?or76_25) ?hor76_25 (fun K hK => ?kr76_25) AllReadyH.nil
            case hor76_25 => simp only [List.getElem?_toArray, List.getElem?_cons_succ, List.getElem?_cons_zero]; rfl
            go_simp
            have c := refRatSame_any w27 (g1 := (x).neg) (g2 := (x).neg) h_on_27 h_od_27 h_xn_27 h_xd_27
            rw [show (⟨(x).neg, (x).num, (x).den⟩ : QV) = x from rfl] at c
            rw [sameV_self] at c
            refine c.mono ?_
            rintro e w28 ⟨rfl, hb⟩
            clear c
            have B28 := B27.trans (hb.mono B27.size)
            have h_xn_28 := h_xn_27.below hb
            have h_xd_28 := h_xd_27.below hb
            have h_yn_28 := h_yn_27.below hb
            have h_yd_28 := h_yd_27.below hb
            have h_x_28 := h_x_27.later hb
            have h_y_28 := h_y_27.later hb
            clear hb B27 h_xn_27 h_xd_27 h_yn_27 h_yd_27 h_x_27 h_y_27 h_on_27 h_od_27
            go_wp2_with fail
            clear hHeld
            refine hK.out _ _ ?_ (fun hHeld => ?_)
            · exact ⟨h_x_28.cell 0 _ rfl, h_x_28.cell 1 _ rfl, h_x_28.cell 2 _ rfl, h_y_28.cell 0 _ rfl, h_y_28.cell 1 _ rfl, h_y_28.cell 2 _ rfl, trivial⟩
            clear hK K
            try simp only [Act.put, List.setIfInBounds_toArray, List.set_cons_zero, List.set_cons_succ]
            refine wpAnyH_take (i := 26) (oi := ?oir77_26) (v := ?vr77_26) ?hir77_26 (by kernel_rfl) (by kernel_rfl) (by kernel_rfl) ?hqr77_26 ?hyr77_26 (by assumption) ?restr77_26
            case hir77_26 => simp only [List.getElem?_toArray, List.getElem?_cons_succ, List.getElem?_cons_zero]; rfl
            case hqr77_26 => exact fun _ _ _ h => h
            case hyr77_26 => (refine Or.inl ⟨by rfl, ?_⟩; intro w hSw; (try dsimp only at hSw); go_simp; all_goals with_reducible rfl)
            try simp only [Act.put, List.setIfInBounds_toArray, List.set_cons_zero, List.set_cons_succ]
            refine wpAnyH_take (i := 27) (oi := ?oir77_27) (v := ?vr77_27) ?hir77_27 (by kernel_rfl) (by kernel_rfl) (by kernel_rfl) ?hqr77_27 ?hyr77_27 (by assumption) ?restr77_27
            case hir77_27 => simp only [List.getElem?_toArray, List.getElem?_cons_succ, List.getElem?_cons_zero]; rfl
            case hqr77_27 => exact fun _ _ _ h => h
            case hyr77_27 => (refine Or.inl ⟨by rfl, ?_⟩; intro w hSw; (try dsimp only at hSw); go_simp; all_goals with_reducible rfl)
            try simp only [Act.put, List.setIfInBounds_toArray, List.set_cons_zero, List.set_cons_succ]
            refine wpAnyH_ready (rs := [28]) (by kernel_rfl) (by simp) ?_
            refine AllReadyH.cons (o := ?or78_28) ?hor78_28 (fun K hK => ?kr78_28) AllReadyH.nil
            case hor78_28 => simp only [List.getElem?_toArray, List.getElem?_cons_succ, List.getElem?_cons_zero]; rfl
            go_simp
            have c := wakes_any w28
            refine c.mono ?_
            rintro e w29 ⟨rfl, hb⟩
            clear c
            have B29 := B28.trans (hb.mono B28.size)
            have h_xn_29 := h_xn_28.below hb
            have h_xd_29 := h_xd_28.below hb
            have h_yn_29 := h_yn_28.below hb
            have h_yd_29 := h_yd_28.below hb
            have h_x_29 := h_x_28.later hb
            have h_y_29 := h_y_28.later hb
            clear hb B28 h_xn_28 h_xd_28 h_yn_28 h_yd_28 h_x_28 h_y_28
            go_wp2_with fail
            clear hHeld
            refine hK.out _ _ ?_ (fun hHeld => ?_)
            · exact ⟨h_x_29.cell 0 _ rfl, h_x_29.cell 1 _ rfl, h_x_29.cell 2 _ rfl, h_y_29.cell 0 _ rfl, h_y_29.cell 1 _ rfl, h_y_29.cell 2 _ rfl, trivial⟩
            clear hK K
            try simp only [Act.put, List.setIfInBounds_toArray, List.set_cons_zero, List.set_cons_succ]
            refine wpAnyH_take (i := 29) (oi := ?oir79_29) (v := ?vr79_29) ?hir79_29 (by kernel_rfl) (by kernel_rfl) (by kernel_rfl) ?hqr79_29 ?hyr79_29 (by assumption) ?restr79_29
            case hir79_29 => simp only [List.getElem?_toArray, List.getElem?_cons_succ, List.getElem?_cons_zero]; rfl
            case hqr79_29 => exact fun _ _ _ h => h
            case hyr79_29 => (refine Or.inl ⟨by rfl, ?_⟩; intro w hSw; (try dsimp only at hSw); go_simp; all_goals with_reducible rfl)
            try simp only [Act.put, List.setIfInBounds_toArray, List.set_cons_zero, List.set_cons_succ]
            refine wpAnyH_take (i := 30) (oi := ?oir79_30) (v := ?vr79_30) ?hir79_30 (by kernel_rfl) (by kernel_rfl) (by kernel_rfl) ?hqr79_30 ?hyr79_30 (by assumption) ?restr79_30
            case hir79_30 => simp only [List.getElem?_toArray, List.getElem?_cons_succ, List.getElem?_cons_zero]; rfl
            case hqr79_30 => exact fun _ _ _ h => h
            case hyr79_30 => (refine Or.inl ⟨by rfl, ?_⟩; intro w hSw; (try dsimp only at hSw); go_simp; all_goals with_reducible rfl)
            try simp only [Act.put, List.setIfInBounds_toArray, List.set_cons_zero, List.set_cons_succ]
            refine wpAnyH_done (by kernel_rfl) ?_ _
            clear hHeld
            go_wp2_with fail
            go_ret
            exact ⟨rfl, B29⟩

end Go.Proofs.YtdaajeklnhbhjaaGreatDoor
