/- The walk of the law CompareMonotone: it returns true and turns nothing that was there. No condition. Printed by gen_cmplaws.py. -/
import Derived.Test.YtmkcdlhhbnakiaaCmpT
import Derived.BigQuiet
import Derived.Deep.CutRange
namespace Go.Proofs.Ytmkcdlhhbnakiaa
open Go.RowKit Go.Suf
set_option linter.unusedVariables false
set_option linter.unusedSimpArgs false

set_option maxRecDepth 100000 in
set_option maxHeartbeats 8000000 in
theorem compareMonotone_walk (w : World) {p : CV} {a_p b_p : Option Addr} {n_p c_p m_p d_p : Nat} (h_pl : Rd .u32 w a_p n_p c_p p.lev) (h_pb : Rd .u32 w b_p m_p d_p p.best) (pw_p : CW p) {a_v : Option Addr} {n_v c_v : Nat} {v : List Int} (h_v : RdI w a_v n_v c_v v) {g_x : Bool} {a_x b_x : Option Addr} {n_x c_x m_x d_x : Nat} {xn xd : List Nat} (h_xn : Rd .u32 w a_x n_x c_x xn) (h_xd : Rd .u32 w b_x m_x d_x xd) {g_y : Bool} {a_y b_y : Option Addr} {n_y c_y m_y d_y : Nat} {yn yd : List Nat} (h_yn : Rd .u32 w a_y n_y c_y yn) (h_yd : Rd .u32 w b_y m_y d_y yd) :
    Calls Try.prog 8 #[cmV p a_p n_p c_p b_p m_p d_p, .slice a_v n_v c_v, ratV g_x a_x n_x c_x b_x m_x d_x, ratV g_y a_y n_y c_y b_y m_y d_y] w fun e w' => e = .returned (.bool true) ∧ Below w.heap.size w w' := by
  have B0 : Below w.heap.size w w := Below.refl _ _
  have h_pl_0 := h_pl
  have h_pb_0 := h_pb
  have h_v_0 := h_v
  have h_xn_0 := h_xn
  have h_xd_0 := h_xd
  have h_yn_0 := h_yn
  have h_yd_0 := h_yd
  by_cases e1 : greatC p = true
  case pos =>
    go_enter Try.func8, Try.ntmps8
    have hb := below_al w (.cells (cmC p a_p n_p c_p b_p m_p d_p) 25)
    have B1 := B0.trans (hb.mono B0.size)
    have h_pl_1 := h_pl_0.below hb
    have h_pb_1 := h_pb_0.below hb
    have h_v_1 := h_v_0.below hb
    have h_xn_1 := h_xn_0.below hb
    have h_xd_1 := h_xd_0.below hb
    have h_yn_1 := h_yn_0.below hb
    have h_yd_1 := h_yd_0.below hb
    clear hb B0 h_pl_0 h_pb_0 h_v_0 h_xn_0 h_xd_0 h_yn_0 h_yd_0
    have h_p_1 := Has.new w (cmC p a_p n_p c_p b_p m_p d_p) 25
    have hb := below_al (w.alloc (.cells (cmC p a_p n_p c_p b_p m_p d_p) 25)) (.cells #[.bool g_x, .slice a_x n_x c_x, .slice b_x m_x d_x] 34)
    have B2 := B1.trans (hb.mono B1.size)
    have h_pl_2 := h_pl_1.below hb
    have h_pb_2 := h_pb_1.below hb
    have h_v_2 := h_v_1.below hb
    have h_xn_2 := h_xn_1.below hb
    have h_xd_2 := h_xd_1.below hb
    have h_yn_2 := h_yn_1.below hb
    have h_yd_2 := h_yd_1.below hb
    have h_p_2 := h_p_1.later hb
    clear hb B1 h_pl_1 h_pb_1 h_v_1 h_xn_1 h_xd_1 h_yn_1 h_yd_1 h_p_1
    have h_x_2 := Has.new (w.alloc (.cells (cmC p a_p n_p c_p b_p m_p d_p) 25)) #[.bool g_x, .slice a_x n_x c_x, .slice b_x m_x d_x] 34
    simp only [World.size_alloc] at h_x_2
    have hb := below_al ((w.alloc (.cells (cmC p a_p n_p c_p b_p m_p d_p) 25)).alloc (.cells #[.bool g_x, .slice a_x n_x c_x, .slice b_x m_x d_x] 34)) (.cells #[.bool g_y, .slice a_y n_y c_y, .slice b_y m_y d_y] 34)
    have B3 := B2.trans (hb.mono B2.size)
    have h_pl_3 := h_pl_2.below hb
    have h_pb_3 := h_pb_2.below hb
    have h_v_3 := h_v_2.below hb
    have h_xn_3 := h_xn_2.below hb
    have h_xd_3 := h_xd_2.below hb
    have h_yn_3 := h_yn_2.below hb
    have h_yd_3 := h_yd_2.below hb
    have h_p_3 := h_p_2.later hb
    have h_x_3 := h_x_2.later hb
    clear hb B2 h_pl_2 h_pb_2 h_v_2 h_xn_2 h_xd_2 h_yn_2 h_yd_2 h_p_2 h_x_2
    have h_y_3 := Has.new ((w.alloc (.cells (cmC p a_p n_p c_p b_p m_p d_p) 25)).alloc (.cells #[.bool g_x, .slice a_x n_x c_x, .slice b_x m_x d_x] 34)) #[.bool g_y, .slice a_y n_y c_y, .slice b_y m_y d_y] 34
    simp only [World.size_alloc] at h_y_3
    have k_p_0 := h_p_3.cell 0 _ rfl
    have k_p_1 := h_p_3.cell 1 _ rfl
    have k_p_2 := h_p_3.cell 2 _ rfl
    have k_p_3 := h_p_3.cell 3 _ rfl
    have k_p_4 := h_p_3.cell 4 _ rfl
    have k_p_5 := h_p_3.cell 5 _ rfl
    have k_p_6 := h_p_3.cell 6 _ rfl
    have k_p_7 := h_p_3.cell 7 _ rfl
    have k_p_8 := h_p_3.cell 8 _ rfl
    have k_p_9 := h_p_3.cell 9 _ rfl
    go_wp2_with fail
    clear k_p_0 k_p_1 k_p_2 k_p_3 k_p_4 k_p_5 k_p_6 k_p_7 k_p_8 k_p_9
    generalize (((w.alloc (.cells (cmC p a_p n_p c_p b_p m_p d_p) 25)).alloc (.cells #[.bool g_x, .slice a_x n_x c_x, .slice b_x m_x d_x] 34)).alloc (.cells #[.bool g_y, .slice a_y n_y c_y, .slice b_y m_y d_y] 34)) = w3 at *
    have c := cmGreat_any w3 (p := p) h_pl_3 h_pb_3
    rw [e1] at c
    refine c.mono ?_
    rintro e w4 ⟨rfl, hb⟩
    clear c
    have B4 := B3.trans (hb.mono B3.size)
    have h_pl_4 := h_pl_3.below hb
    have h_pb_4 := h_pb_3.below hb
    have h_v_4 := h_v_3.below hb
    have h_xn_4 := h_xn_3.below hb
    have h_xd_4 := h_xd_3.below hb
    have h_yn_4 := h_yn_3.below hb
    have h_yd_4 := h_yd_3.below hb
    have h_p_4 := h_p_3.later hb
    have h_x_4 := h_x_3.later hb
    have h_y_4 := h_y_3.later hb
    clear hb B3 h_pl_3 h_pb_3 h_v_3 h_xn_3 h_xd_3 h_yn_3 h_yd_3 h_p_3 h_x_3 h_y_3
    go_wp2_with fail
    have c := examples_any w4
    refine c.mono ?_
    rintro e w5 ⟨rfl, hb⟩
    clear c
    have B5 := B4.trans (hb.mono B4.size)
    have h_pl_5 := h_pl_4.below hb
    have h_pb_5 := h_pb_4.below hb
    have h_v_5 := h_v_4.below hb
    have h_xn_5 := h_xn_4.below hb
    have h_xd_5 := h_xd_4.below hb
    have h_yn_5 := h_yn_4.below hb
    have h_yd_5 := h_yd_4.below hb
    have h_p_5 := h_p_4.later hb
    have h_x_5 := h_x_4.later hb
    have h_y_5 := h_y_4.later hb
    clear hb B4 h_pl_4 h_pb_4 h_v_4 h_xn_4 h_xd_4 h_yn_4 h_yd_4 h_p_4 h_x_4 h_y_4
    go_wp2_with fail
    go_ret
    exact ⟨rfl, B5⟩
  have E1 := Lib.hid (show greatC p = false by simpa using e1)
  clear e1
  by_cases e2 : chkC p = 0
  case neg =>
    have e2 := (chkC_two p).resolve_left e2
    go_enter Try.func8, Try.ntmps8
    have hb := below_al w (.cells (cmC p a_p n_p c_p b_p m_p d_p) 25)
    have B1 := B0.trans (hb.mono B0.size)
    have h_pl_1 := h_pl_0.below hb
    have h_pb_1 := h_pb_0.below hb
    have h_v_1 := h_v_0.below hb
    have h_xn_1 := h_xn_0.below hb
    have h_xd_1 := h_xd_0.below hb
    have h_yn_1 := h_yn_0.below hb
    have h_yd_1 := h_yd_0.below hb
    clear hb B0 h_pl_0 h_pb_0 h_v_0 h_xn_0 h_xd_0 h_yn_0 h_yd_0
    have h_p_1 := Has.new w (cmC p a_p n_p c_p b_p m_p d_p) 25
    have hb := below_al (w.alloc (.cells (cmC p a_p n_p c_p b_p m_p d_p) 25)) (.cells #[.bool g_x, .slice a_x n_x c_x, .slice b_x m_x d_x] 34)
    have B2 := B1.trans (hb.mono B1.size)
    have h_pl_2 := h_pl_1.below hb
    have h_pb_2 := h_pb_1.below hb
    have h_v_2 := h_v_1.below hb
    have h_xn_2 := h_xn_1.below hb
    have h_xd_2 := h_xd_1.below hb
    have h_yn_2 := h_yn_1.below hb
    have h_yd_2 := h_yd_1.below hb
    have h_p_2 := h_p_1.later hb
    clear hb B1 h_pl_1 h_pb_1 h_v_1 h_xn_1 h_xd_1 h_yn_1 h_yd_1 h_p_1
    have h_x_2 := Has.new (w.alloc (.cells (cmC p a_p n_p c_p b_p m_p d_p) 25)) #[.bool g_x, .slice a_x n_x c_x, .slice b_x m_x d_x] 34
    simp only [World.size_alloc] at h_x_2
    have hb := below_al ((w.alloc (.cells (cmC p a_p n_p c_p b_p m_p d_p) 25)).alloc (.cells #[.bool g_x, .slice a_x n_x c_x, .slice b_x m_x d_x] 34)) (.cells #[.bool g_y, .slice a_y n_y c_y, .slice b_y m_y d_y] 34)
    have B3 := B2.trans (hb.mono B2.size)
    have h_pl_3 := h_pl_2.below hb
    have h_pb_3 := h_pb_2.below hb
    have h_v_3 := h_v_2.below hb
    have h_xn_3 := h_xn_2.below hb
    have h_xd_3 := h_xd_2.below hb
    have h_yn_3 := h_yn_2.below hb
    have h_yd_3 := h_yd_2.below hb
    have h_p_3 := h_p_2.later hb
    have h_x_3 := h_x_2.later hb
    clear hb B2 h_pl_2 h_pb_2 h_v_2 h_xn_2 h_xd_2 h_yn_2 h_yd_2 h_p_2 h_x_2
    have h_y_3 := Has.new ((w.alloc (.cells (cmC p a_p n_p c_p b_p m_p d_p) 25)).alloc (.cells #[.bool g_x, .slice a_x n_x c_x, .slice b_x m_x d_x] 34)) #[.bool g_y, .slice a_y n_y c_y, .slice b_y m_y d_y] 34
    simp only [World.size_alloc] at h_y_3
    have k_p_0 := h_p_3.cell 0 _ rfl
    have k_p_1 := h_p_3.cell 1 _ rfl
    have k_p_2 := h_p_3.cell 2 _ rfl
    have k_p_3 := h_p_3.cell 3 _ rfl
    have k_p_4 := h_p_3.cell 4 _ rfl
    have k_p_5 := h_p_3.cell 5 _ rfl
    have k_p_6 := h_p_3.cell 6 _ rfl
    have k_p_7 := h_p_3.cell 7 _ rfl
    have k_p_8 := h_p_3.cell 8 _ rfl
    have k_p_9 := h_p_3.cell 9 _ rfl
    go_wp2_with fail
    clear k_p_0 k_p_1 k_p_2 k_p_3 k_p_4 k_p_5 k_p_6 k_p_7 k_p_8 k_p_9
    generalize (((w.alloc (.cells (cmC p a_p n_p c_p b_p m_p d_p) 25)).alloc (.cells #[.bool g_x, .slice a_x n_x c_x, .slice b_x m_x d_x] 34)).alloc (.cells #[.bool g_y, .slice a_y n_y c_y, .slice b_y m_y d_y] 34)) = w3 at *
    have c := cmGreat_any w3 (p := p) h_pl_3 h_pb_3
    rw [E1.out] at c
    refine c.mono ?_
    rintro e w4 ⟨rfl, hb⟩
    clear c
    have B4 := B3.trans (hb.mono B3.size)
    have h_pl_4 := h_pl_3.below hb
    have h_pb_4 := h_pb_3.below hb
    have h_v_4 := h_v_3.below hb
    have h_xn_4 := h_xn_3.below hb
    have h_xd_4 := h_xd_3.below hb
    have h_yn_4 := h_yn_3.below hb
    have h_yd_4 := h_yd_3.below hb
    have h_p_4 := h_p_3.later hb
    have h_x_4 := h_x_3.later hb
    have h_y_4 := h_y_3.later hb
    clear hb B3 h_pl_3 h_pb_3 h_v_3 h_xn_3 h_xd_3 h_yn_3 h_yd_3 h_p_3 h_x_3 h_y_3
    have k_p_0 := h_p_4.cell 0 _ rfl
    have k_p_1 := h_p_4.cell 1 _ rfl
    have k_p_2 := h_p_4.cell 2 _ rfl
    have k_p_3 := h_p_4.cell 3 _ rfl
    have k_p_4 := h_p_4.cell 4 _ rfl
    have k_p_5 := h_p_4.cell 5 _ rfl
    have k_p_6 := h_p_4.cell 6 _ rfl
    have k_p_7 := h_p_4.cell 7 _ rfl
    have k_p_8 := h_p_4.cell 8 _ rfl
    have k_p_9 := h_p_4.cell 9 _ rfl
    go_wp2_with fail
    clear k_p_0 k_p_1 k_p_2 k_p_3 k_p_4 k_p_5 k_p_6 k_p_7 k_p_8 k_p_9
    have c := refCmCheck_any w4 (q := p) h_pl_4 h_pb_4 pw_p
    rw [e2] at c
    refine c.mono ?_
    rintro e w5 ⟨rfl, hb⟩
    clear c
    have B5 := B4.trans (hb.mono B4.size)
    have h_pl_5 := h_pl_4.below hb
    have h_pb_5 := h_pb_4.below hb
    have h_v_5 := h_v_4.below hb
    have h_xn_5 := h_xn_4.below hb
    have h_xd_5 := h_xd_4.below hb
    have h_yn_5 := h_yn_4.below hb
    have h_yd_5 := h_yd_4.below hb
    have h_p_5 := h_p_4.later hb
    have h_x_5 := h_x_4.later hb
    have h_y_5 := h_y_4.later hb
    clear hb B4 h_pl_4 h_pb_4 h_v_4 h_xn_4 h_xd_4 h_yn_4 h_yd_4 h_p_4 h_x_4 h_y_4
    go_wp2_with fail
    have c := examples_any w5
    refine c.mono ?_
    rintro e w6 ⟨rfl, hb⟩
    clear c
    have B6 := B5.trans (hb.mono B5.size)
    have h_pl_6 := h_pl_5.below hb
    have h_pb_6 := h_pb_5.below hb
    have h_v_6 := h_v_5.below hb
    have h_xn_6 := h_xn_5.below hb
    have h_xd_6 := h_xd_5.below hb
    have h_yn_6 := h_yn_5.below hb
    have h_yd_6 := h_yd_5.below hb
    have h_p_6 := h_p_5.later hb
    have h_x_6 := h_x_5.later hb
    have h_y_6 := h_y_5.later hb
    clear hb B5 h_pl_5 h_pb_5 h_v_5 h_xn_5 h_xd_5 h_yn_5 h_yd_5 h_p_5 h_x_5 h_y_5
    go_wp2_with fail
    go_ret
    exact ⟨rfl, B6⟩
  have E2 := Lib.hid e2
  clear e2
  by_cases e3 : 100 < n_v
  case pos =>
    have d3 : decide ((100 : Int) < (n_v : Int)) = true := decide_eq_true (by omega)
    clear e3
    go_enter Try.func8, Try.ntmps8
    have hb := below_al w (.cells (cmC p a_p n_p c_p b_p m_p d_p) 25)
    have B1 := B0.trans (hb.mono B0.size)
    have h_pl_1 := h_pl_0.below hb
    have h_pb_1 := h_pb_0.below hb
    have h_v_1 := h_v_0.below hb
    have h_xn_1 := h_xn_0.below hb
    have h_xd_1 := h_xd_0.below hb
    have h_yn_1 := h_yn_0.below hb
    have h_yd_1 := h_yd_0.below hb
    clear hb B0 h_pl_0 h_pb_0 h_v_0 h_xn_0 h_xd_0 h_yn_0 h_yd_0
    have h_p_1 := Has.new w (cmC p a_p n_p c_p b_p m_p d_p) 25
    have hb := below_al (w.alloc (.cells (cmC p a_p n_p c_p b_p m_p d_p) 25)) (.cells #[.bool g_x, .slice a_x n_x c_x, .slice b_x m_x d_x] 34)
    have B2 := B1.trans (hb.mono B1.size)
    have h_pl_2 := h_pl_1.below hb
    have h_pb_2 := h_pb_1.below hb
    have h_v_2 := h_v_1.below hb
    have h_xn_2 := h_xn_1.below hb
    have h_xd_2 := h_xd_1.below hb
    have h_yn_2 := h_yn_1.below hb
    have h_yd_2 := h_yd_1.below hb
    have h_p_2 := h_p_1.later hb
    clear hb B1 h_pl_1 h_pb_1 h_v_1 h_xn_1 h_xd_1 h_yn_1 h_yd_1 h_p_1
    have h_x_2 := Has.new (w.alloc (.cells (cmC p a_p n_p c_p b_p m_p d_p) 25)) #[.bool g_x, .slice a_x n_x c_x, .slice b_x m_x d_x] 34
    simp only [World.size_alloc] at h_x_2
    have hb := below_al ((w.alloc (.cells (cmC p a_p n_p c_p b_p m_p d_p) 25)).alloc (.cells #[.bool g_x, .slice a_x n_x c_x, .slice b_x m_x d_x] 34)) (.cells #[.bool g_y, .slice a_y n_y c_y, .slice b_y m_y d_y] 34)
    have B3 := B2.trans (hb.mono B2.size)
    have h_pl_3 := h_pl_2.below hb
    have h_pb_3 := h_pb_2.below hb
    have h_v_3 := h_v_2.below hb
    have h_xn_3 := h_xn_2.below hb
    have h_xd_3 := h_xd_2.below hb
    have h_yn_3 := h_yn_2.below hb
    have h_yd_3 := h_yd_2.below hb
    have h_p_3 := h_p_2.later hb
    have h_x_3 := h_x_2.later hb
    clear hb B2 h_pl_2 h_pb_2 h_v_2 h_xn_2 h_xd_2 h_yn_2 h_yd_2 h_p_2 h_x_2
    have h_y_3 := Has.new ((w.alloc (.cells (cmC p a_p n_p c_p b_p m_p d_p) 25)).alloc (.cells #[.bool g_x, .slice a_x n_x c_x, .slice b_x m_x d_x] 34)) #[.bool g_y, .slice a_y n_y c_y, .slice b_y m_y d_y] 34
    simp only [World.size_alloc] at h_y_3
    have k_p_0 := h_p_3.cell 0 _ rfl
    have k_p_1 := h_p_3.cell 1 _ rfl
    have k_p_2 := h_p_3.cell 2 _ rfl
    have k_p_3 := h_p_3.cell 3 _ rfl
    have k_p_4 := h_p_3.cell 4 _ rfl
    have k_p_5 := h_p_3.cell 5 _ rfl
    have k_p_6 := h_p_3.cell 6 _ rfl
    have k_p_7 := h_p_3.cell 7 _ rfl
    have k_p_8 := h_p_3.cell 8 _ rfl
    have k_p_9 := h_p_3.cell 9 _ rfl
    go_wp2_with fail
    clear k_p_0 k_p_1 k_p_2 k_p_3 k_p_4 k_p_5 k_p_6 k_p_7 k_p_8 k_p_9
    generalize (((w.alloc (.cells (cmC p a_p n_p c_p b_p m_p d_p) 25)).alloc (.cells #[.bool g_x, .slice a_x n_x c_x, .slice b_x m_x d_x] 34)).alloc (.cells #[.bool g_y, .slice a_y n_y c_y, .slice b_y m_y d_y] 34)) = w3 at *
    have c := cmGreat_any w3 (p := p) h_pl_3 h_pb_3
    rw [E1.out] at c
    refine c.mono ?_
    rintro e w4 ⟨rfl, hb⟩
    clear c
    have B4 := B3.trans (hb.mono B3.size)
    have h_pl_4 := h_pl_3.below hb
    have h_pb_4 := h_pb_3.below hb
    have h_v_4 := h_v_3.below hb
    have h_xn_4 := h_xn_3.below hb
    have h_xd_4 := h_xd_3.below hb
    have h_yn_4 := h_yn_3.below hb
    have h_yd_4 := h_yd_3.below hb
    have h_p_4 := h_p_3.later hb
    have h_x_4 := h_x_3.later hb
    have h_y_4 := h_y_3.later hb
    clear hb B3 h_pl_3 h_pb_3 h_v_3 h_xn_3 h_xd_3 h_yn_3 h_yd_3 h_p_3 h_x_3 h_y_3
    have k_p_0 := h_p_4.cell 0 _ rfl
    have k_p_1 := h_p_4.cell 1 _ rfl
    have k_p_2 := h_p_4.cell 2 _ rfl
    have k_p_3 := h_p_4.cell 3 _ rfl
    have k_p_4 := h_p_4.cell 4 _ rfl
    have k_p_5 := h_p_4.cell 5 _ rfl
    have k_p_6 := h_p_4.cell 6 _ rfl
    have k_p_7 := h_p_4.cell 7 _ rfl
    have k_p_8 := h_p_4.cell 8 _ rfl
    have k_p_9 := h_p_4.cell 9 _ rfl
    go_wp2_with fail
    clear k_p_0 k_p_1 k_p_2 k_p_3 k_p_4 k_p_5 k_p_6 k_p_7 k_p_8 k_p_9
    have c := refCmCheck_any w4 (q := p) h_pl_4 h_pb_4 pw_p
    rw [E2.out] at c
    refine c.mono ?_
    rintro e w5 ⟨rfl, hb⟩
    clear c
    have B5 := B4.trans (hb.mono B4.size)
    have h_pl_5 := h_pl_4.below hb
    have h_pb_5 := h_pb_4.below hb
    have h_v_5 := h_v_4.below hb
    have h_xn_5 := h_xn_4.below hb
    have h_xd_5 := h_xd_4.below hb
    have h_yn_5 := h_yn_4.below hb
    have h_yd_5 := h_yd_4.below hb
    have h_p_5 := h_p_4.later hb
    have h_x_5 := h_x_4.later hb
    have h_y_5 := h_y_4.later hb
    clear hb B4 h_pl_4 h_pb_4 h_v_4 h_xn_4 h_xd_4 h_yn_4 h_yd_4 h_p_4 h_x_4 h_y_4
    go_wp2_with fail
    have c := examples_any w5
    refine c.mono ?_
    rintro e w6 ⟨rfl, hb⟩
    clear c
    have B6 := B5.trans (hb.mono B5.size)
    have h_pl_6 := h_pl_5.below hb
    have h_pb_6 := h_pb_5.below hb
    have h_v_6 := h_v_5.below hb
    have h_xn_6 := h_xn_5.below hb
    have h_xd_6 := h_xd_5.below hb
    have h_yn_6 := h_yn_5.below hb
    have h_yd_6 := h_yd_5.below hb
    have h_p_6 := h_p_5.later hb
    have h_x_6 := h_x_5.later hb
    have h_y_6 := h_y_5.later hb
    clear hb B5 h_pl_5 h_pb_5 h_v_5 h_xn_5 h_xd_5 h_yn_5 h_yd_5 h_p_5 h_x_5 h_y_5
    go_wp2_with fail
    go_ret
    exact ⟨rfl, B6⟩
  have d3 : decide ((100 : Int) < (n_v : Int)) = false := decide_eq_false (by omega)
  clear e3
  by_cases e4 : limC ⟨g_x, xn, xd⟩ = 0
  case neg =>
    obtain ⟨z, hz⟩ : ∃ z, z = limC ⟨g_x, xn, xd⟩ := ⟨_, rfl⟩
    rw [← hz] at e4
    have HZ := Lib.hid hz.symm
    have dz : (z != 0) = true := by rw [bne_iff_ne]; exact e4
    clear hz e4
    go_enter Try.func8, Try.ntmps8
    have hb := below_al w (.cells (cmC p a_p n_p c_p b_p m_p d_p) 25)
    have B1 := B0.trans (hb.mono B0.size)
    have h_pl_1 := h_pl_0.below hb
    have h_pb_1 := h_pb_0.below hb
    have h_v_1 := h_v_0.below hb
    have h_xn_1 := h_xn_0.below hb
    have h_xd_1 := h_xd_0.below hb
    have h_yn_1 := h_yn_0.below hb
    have h_yd_1 := h_yd_0.below hb
    clear hb B0 h_pl_0 h_pb_0 h_v_0 h_xn_0 h_xd_0 h_yn_0 h_yd_0
    have h_p_1 := Has.new w (cmC p a_p n_p c_p b_p m_p d_p) 25
    have hb := below_al (w.alloc (.cells (cmC p a_p n_p c_p b_p m_p d_p) 25)) (.cells #[.bool g_x, .slice a_x n_x c_x, .slice b_x m_x d_x] 34)
    have B2 := B1.trans (hb.mono B1.size)
    have h_pl_2 := h_pl_1.below hb
    have h_pb_2 := h_pb_1.below hb
    have h_v_2 := h_v_1.below hb
    have h_xn_2 := h_xn_1.below hb
    have h_xd_2 := h_xd_1.below hb
    have h_yn_2 := h_yn_1.below hb
    have h_yd_2 := h_yd_1.below hb
    have h_p_2 := h_p_1.later hb
    clear hb B1 h_pl_1 h_pb_1 h_v_1 h_xn_1 h_xd_1 h_yn_1 h_yd_1 h_p_1
    have h_x_2 := Has.new (w.alloc (.cells (cmC p a_p n_p c_p b_p m_p d_p) 25)) #[.bool g_x, .slice a_x n_x c_x, .slice b_x m_x d_x] 34
    simp only [World.size_alloc] at h_x_2
    have hb := below_al ((w.alloc (.cells (cmC p a_p n_p c_p b_p m_p d_p) 25)).alloc (.cells #[.bool g_x, .slice a_x n_x c_x, .slice b_x m_x d_x] 34)) (.cells #[.bool g_y, .slice a_y n_y c_y, .slice b_y m_y d_y] 34)
    have B3 := B2.trans (hb.mono B2.size)
    have h_pl_3 := h_pl_2.below hb
    have h_pb_3 := h_pb_2.below hb
    have h_v_3 := h_v_2.below hb
    have h_xn_3 := h_xn_2.below hb
    have h_xd_3 := h_xd_2.below hb
    have h_yn_3 := h_yn_2.below hb
    have h_yd_3 := h_yd_2.below hb
    have h_p_3 := h_p_2.later hb
    have h_x_3 := h_x_2.later hb
    clear hb B2 h_pl_2 h_pb_2 h_v_2 h_xn_2 h_xd_2 h_yn_2 h_yd_2 h_p_2 h_x_2
    have h_y_3 := Has.new ((w.alloc (.cells (cmC p a_p n_p c_p b_p m_p d_p) 25)).alloc (.cells #[.bool g_x, .slice a_x n_x c_x, .slice b_x m_x d_x] 34)) #[.bool g_y, .slice a_y n_y c_y, .slice b_y m_y d_y] 34
    simp only [World.size_alloc] at h_y_3
    have k_p_0 := h_p_3.cell 0 _ rfl
    have k_p_1 := h_p_3.cell 1 _ rfl
    have k_p_2 := h_p_3.cell 2 _ rfl
    have k_p_3 := h_p_3.cell 3 _ rfl
    have k_p_4 := h_p_3.cell 4 _ rfl
    have k_p_5 := h_p_3.cell 5 _ rfl
    have k_p_6 := h_p_3.cell 6 _ rfl
    have k_p_7 := h_p_3.cell 7 _ rfl
    have k_p_8 := h_p_3.cell 8 _ rfl
    have k_p_9 := h_p_3.cell 9 _ rfl
    go_wp2_with fail
    clear k_p_0 k_p_1 k_p_2 k_p_3 k_p_4 k_p_5 k_p_6 k_p_7 k_p_8 k_p_9
    generalize (((w.alloc (.cells (cmC p a_p n_p c_p b_p m_p d_p) 25)).alloc (.cells #[.bool g_x, .slice a_x n_x c_x, .slice b_x m_x d_x] 34)).alloc (.cells #[.bool g_y, .slice a_y n_y c_y, .slice b_y m_y d_y] 34)) = w3 at *
    have c := cmGreat_any w3 (p := p) h_pl_3 h_pb_3
    rw [E1.out] at c
    refine c.mono ?_
    rintro e w4 ⟨rfl, hb⟩
    clear c
    have B4 := B3.trans (hb.mono B3.size)
    have h_pl_4 := h_pl_3.below hb
    have h_pb_4 := h_pb_3.below hb
    have h_v_4 := h_v_3.below hb
    have h_xn_4 := h_xn_3.below hb
    have h_xd_4 := h_xd_3.below hb
    have h_yn_4 := h_yn_3.below hb
    have h_yd_4 := h_yd_3.below hb
    have h_p_4 := h_p_3.later hb
    have h_x_4 := h_x_3.later hb
    have h_y_4 := h_y_3.later hb
    clear hb B3 h_pl_3 h_pb_3 h_v_3 h_xn_3 h_xd_3 h_yn_3 h_yd_3 h_p_3 h_x_3 h_y_3
    have k_p_0 := h_p_4.cell 0 _ rfl
    have k_p_1 := h_p_4.cell 1 _ rfl
    have k_p_2 := h_p_4.cell 2 _ rfl
    have k_p_3 := h_p_4.cell 3 _ rfl
    have k_p_4 := h_p_4.cell 4 _ rfl
    have k_p_5 := h_p_4.cell 5 _ rfl
    have k_p_6 := h_p_4.cell 6 _ rfl
    have k_p_7 := h_p_4.cell 7 _ rfl
    have k_p_8 := h_p_4.cell 8 _ rfl
    have k_p_9 := h_p_4.cell 9 _ rfl
    go_wp2_with fail
    clear k_p_0 k_p_1 k_p_2 k_p_3 k_p_4 k_p_5 k_p_6 k_p_7 k_p_8 k_p_9
    have c := refCmCheck_any w4 (q := p) h_pl_4 h_pb_4 pw_p
    rw [E2.out] at c
    refine c.mono ?_
    rintro e w5 ⟨rfl, hb⟩
    clear c
    have B5 := B4.trans (hb.mono B4.size)
    have h_pl_5 := h_pl_4.below hb
    have h_pb_5 := h_pb_4.below hb
    have h_v_5 := h_v_4.below hb
    have h_xn_5 := h_xn_4.below hb
    have h_xd_5 := h_xd_4.below hb
    have h_yn_5 := h_yn_4.below hb
    have h_yd_5 := h_yd_4.below hb
    have h_p_5 := h_p_4.later hb
    have h_x_5 := h_x_4.later hb
    have h_y_5 := h_y_4.later hb
    clear hb B4 h_pl_4 h_pb_4 h_v_4 h_xn_4 h_xd_4 h_yn_4 h_yd_4 h_p_4 h_x_4 h_y_4
    have k_x_0 := h_x_5.cell 0 _ rfl
    have k_x_1 := h_x_5.cell 1 _ rfl
    have k_x_2 := h_x_5.cell 2 _ rfl
    go_wp2_with fail
    clear k_x_0 k_x_1 k_x_2
    have c := refCheckLimit_any w5 (g := g_x) h_xn_5 h_xd_5
    rw [HZ.out] at c
    refine c.mono ?_
    rintro e w6 ⟨rfl, hb⟩
    clear c
    have B6 := B5.trans (hb.mono B5.size)
    have h_pl_6 := h_pl_5.below hb
    have h_pb_6 := h_pb_5.below hb
    have h_v_6 := h_v_5.below hb
    have h_xn_6 := h_xn_5.below hb
    have h_xd_6 := h_xd_5.below hb
    have h_yn_6 := h_yn_5.below hb
    have h_yd_6 := h_yd_5.below hb
    have h_p_6 := h_p_5.later hb
    have h_x_6 := h_x_5.later hb
    have h_y_6 := h_y_5.later hb
    clear hb B5 h_pl_5 h_pb_5 h_v_5 h_xn_5 h_xd_5 h_yn_5 h_yd_5 h_p_5 h_x_5 h_y_5
    go_wp2_with fail
    have c := examples_any w6
    refine c.mono ?_
    rintro e w7 ⟨rfl, hb⟩
    clear c
    have B7 := B6.trans (hb.mono B6.size)
    have h_pl_7 := h_pl_6.below hb
    have h_pb_7 := h_pb_6.below hb
    have h_v_7 := h_v_6.below hb
    have h_xn_7 := h_xn_6.below hb
    have h_xd_7 := h_xd_6.below hb
    have h_yn_7 := h_yn_6.below hb
    have h_yd_7 := h_yd_6.below hb
    have h_p_7 := h_p_6.later hb
    have h_x_7 := h_x_6.later hb
    have h_y_7 := h_y_6.later hb
    clear hb B6 h_pl_6 h_pb_6 h_v_6 h_xn_6 h_xd_6 h_yn_6 h_yd_6 h_p_6 h_x_6 h_y_6
    go_wp2_with fail
    go_ret
    exact ⟨rfl, B7⟩
  have E4 := Lib.hid e4
  clear e4
  by_cases e5 : limC ⟨g_y, yn, yd⟩ = 0
  case neg =>
    obtain ⟨z, hz⟩ : ∃ z, z = limC ⟨g_y, yn, yd⟩ := ⟨_, rfl⟩
    rw [← hz] at e5
    have HZ := Lib.hid hz.symm
    have dz : (z != 0) = true := by rw [bne_iff_ne]; exact e5
    clear hz e5
    go_enter Try.func8, Try.ntmps8
    have hb := below_al w (.cells (cmC p a_p n_p c_p b_p m_p d_p) 25)
    have B1 := B0.trans (hb.mono B0.size)
    have h_pl_1 := h_pl_0.below hb
    have h_pb_1 := h_pb_0.below hb
    have h_v_1 := h_v_0.below hb
    have h_xn_1 := h_xn_0.below hb
    have h_xd_1 := h_xd_0.below hb
    have h_yn_1 := h_yn_0.below hb
    have h_yd_1 := h_yd_0.below hb
    clear hb B0 h_pl_0 h_pb_0 h_v_0 h_xn_0 h_xd_0 h_yn_0 h_yd_0
    have h_p_1 := Has.new w (cmC p a_p n_p c_p b_p m_p d_p) 25
    have hb := below_al (w.alloc (.cells (cmC p a_p n_p c_p b_p m_p d_p) 25)) (.cells #[.bool g_x, .slice a_x n_x c_x, .slice b_x m_x d_x] 34)
    have B2 := B1.trans (hb.mono B1.size)
    have h_pl_2 := h_pl_1.below hb
    have h_pb_2 := h_pb_1.below hb
    have h_v_2 := h_v_1.below hb
    have h_xn_2 := h_xn_1.below hb
    have h_xd_2 := h_xd_1.below hb
    have h_yn_2 := h_yn_1.below hb
    have h_yd_2 := h_yd_1.below hb
    have h_p_2 := h_p_1.later hb
    clear hb B1 h_pl_1 h_pb_1 h_v_1 h_xn_1 h_xd_1 h_yn_1 h_yd_1 h_p_1
    have h_x_2 := Has.new (w.alloc (.cells (cmC p a_p n_p c_p b_p m_p d_p) 25)) #[.bool g_x, .slice a_x n_x c_x, .slice b_x m_x d_x] 34
    simp only [World.size_alloc] at h_x_2
    have hb := below_al ((w.alloc (.cells (cmC p a_p n_p c_p b_p m_p d_p) 25)).alloc (.cells #[.bool g_x, .slice a_x n_x c_x, .slice b_x m_x d_x] 34)) (.cells #[.bool g_y, .slice a_y n_y c_y, .slice b_y m_y d_y] 34)
    have B3 := B2.trans (hb.mono B2.size)
    have h_pl_3 := h_pl_2.below hb
    have h_pb_3 := h_pb_2.below hb
    have h_v_3 := h_v_2.below hb
    have h_xn_3 := h_xn_2.below hb
    have h_xd_3 := h_xd_2.below hb
    have h_yn_3 := h_yn_2.below hb
    have h_yd_3 := h_yd_2.below hb
    have h_p_3 := h_p_2.later hb
    have h_x_3 := h_x_2.later hb
    clear hb B2 h_pl_2 h_pb_2 h_v_2 h_xn_2 h_xd_2 h_yn_2 h_yd_2 h_p_2 h_x_2
    have h_y_3 := Has.new ((w.alloc (.cells (cmC p a_p n_p c_p b_p m_p d_p) 25)).alloc (.cells #[.bool g_x, .slice a_x n_x c_x, .slice b_x m_x d_x] 34)) #[.bool g_y, .slice a_y n_y c_y, .slice b_y m_y d_y] 34
    simp only [World.size_alloc] at h_y_3
    have k_p_0 := h_p_3.cell 0 _ rfl
    have k_p_1 := h_p_3.cell 1 _ rfl
    have k_p_2 := h_p_3.cell 2 _ rfl
    have k_p_3 := h_p_3.cell 3 _ rfl
    have k_p_4 := h_p_3.cell 4 _ rfl
    have k_p_5 := h_p_3.cell 5 _ rfl
    have k_p_6 := h_p_3.cell 6 _ rfl
    have k_p_7 := h_p_3.cell 7 _ rfl
    have k_p_8 := h_p_3.cell 8 _ rfl
    have k_p_9 := h_p_3.cell 9 _ rfl
    go_wp2_with fail
    clear k_p_0 k_p_1 k_p_2 k_p_3 k_p_4 k_p_5 k_p_6 k_p_7 k_p_8 k_p_9
    generalize (((w.alloc (.cells (cmC p a_p n_p c_p b_p m_p d_p) 25)).alloc (.cells #[.bool g_x, .slice a_x n_x c_x, .slice b_x m_x d_x] 34)).alloc (.cells #[.bool g_y, .slice a_y n_y c_y, .slice b_y m_y d_y] 34)) = w3 at *
    have c := cmGreat_any w3 (p := p) h_pl_3 h_pb_3
    rw [E1.out] at c
    refine c.mono ?_
    rintro e w4 ⟨rfl, hb⟩
    clear c
    have B4 := B3.trans (hb.mono B3.size)
    have h_pl_4 := h_pl_3.below hb
    have h_pb_4 := h_pb_3.below hb
    have h_v_4 := h_v_3.below hb
    have h_xn_4 := h_xn_3.below hb
    have h_xd_4 := h_xd_3.below hb
    have h_yn_4 := h_yn_3.below hb
    have h_yd_4 := h_yd_3.below hb
    have h_p_4 := h_p_3.later hb
    have h_x_4 := h_x_3.later hb
    have h_y_4 := h_y_3.later hb
    clear hb B3 h_pl_3 h_pb_3 h_v_3 h_xn_3 h_xd_3 h_yn_3 h_yd_3 h_p_3 h_x_3 h_y_3
    have k_p_0 := h_p_4.cell 0 _ rfl
    have k_p_1 := h_p_4.cell 1 _ rfl
    have k_p_2 := h_p_4.cell 2 _ rfl
    have k_p_3 := h_p_4.cell 3 _ rfl
    have k_p_4 := h_p_4.cell 4 _ rfl
    have k_p_5 := h_p_4.cell 5 _ rfl
    have k_p_6 := h_p_4.cell 6 _ rfl
    have k_p_7 := h_p_4.cell 7 _ rfl
    have k_p_8 := h_p_4.cell 8 _ rfl
    have k_p_9 := h_p_4.cell 9 _ rfl
    go_wp2_with fail
    clear k_p_0 k_p_1 k_p_2 k_p_3 k_p_4 k_p_5 k_p_6 k_p_7 k_p_8 k_p_9
    have c := refCmCheck_any w4 (q := p) h_pl_4 h_pb_4 pw_p
    rw [E2.out] at c
    refine c.mono ?_
    rintro e w5 ⟨rfl, hb⟩
    clear c
    have B5 := B4.trans (hb.mono B4.size)
    have h_pl_5 := h_pl_4.below hb
    have h_pb_5 := h_pb_4.below hb
    have h_v_5 := h_v_4.below hb
    have h_xn_5 := h_xn_4.below hb
    have h_xd_5 := h_xd_4.below hb
    have h_yn_5 := h_yn_4.below hb
    have h_yd_5 := h_yd_4.below hb
    have h_p_5 := h_p_4.later hb
    have h_x_5 := h_x_4.later hb
    have h_y_5 := h_y_4.later hb
    clear hb B4 h_pl_4 h_pb_4 h_v_4 h_xn_4 h_xd_4 h_yn_4 h_yd_4 h_p_4 h_x_4 h_y_4
    have k_x_0 := h_x_5.cell 0 _ rfl
    have k_x_1 := h_x_5.cell 1 _ rfl
    have k_x_2 := h_x_5.cell 2 _ rfl
    go_wp2_with fail
    clear k_x_0 k_x_1 k_x_2
    have c := refCheckLimit_any w5 (g := g_x) h_xn_5 h_xd_5
    rw [E4.out] at c
    refine c.mono ?_
    rintro e w6 ⟨rfl, hb⟩
    clear c
    have B6 := B5.trans (hb.mono B5.size)
    have h_pl_6 := h_pl_5.below hb
    have h_pb_6 := h_pb_5.below hb
    have h_v_6 := h_v_5.below hb
    have h_xn_6 := h_xn_5.below hb
    have h_xd_6 := h_xd_5.below hb
    have h_yn_6 := h_yn_5.below hb
    have h_yd_6 := h_yd_5.below hb
    have h_p_6 := h_p_5.later hb
    have h_x_6 := h_x_5.later hb
    have h_y_6 := h_y_5.later hb
    clear hb B5 h_pl_5 h_pb_5 h_v_5 h_xn_5 h_xd_5 h_yn_5 h_yd_5 h_p_5 h_x_5 h_y_5
    have k_y_0 := h_y_6.cell 0 _ rfl
    have k_y_1 := h_y_6.cell 1 _ rfl
    have k_y_2 := h_y_6.cell 2 _ rfl
    go_wp2_with fail
    clear k_y_0 k_y_1 k_y_2
    have c := refCheckLimit_any w6 (g := g_y) h_yn_6 h_yd_6
    rw [HZ.out] at c
    refine c.mono ?_
    rintro e w7 ⟨rfl, hb⟩
    clear c
    have B7 := B6.trans (hb.mono B6.size)
    have h_pl_7 := h_pl_6.below hb
    have h_pb_7 := h_pb_6.below hb
    have h_v_7 := h_v_6.below hb
    have h_xn_7 := h_xn_6.below hb
    have h_xd_7 := h_xd_6.below hb
    have h_yn_7 := h_yn_6.below hb
    have h_yd_7 := h_yd_6.below hb
    have h_p_7 := h_p_6.later hb
    have h_x_7 := h_x_6.later hb
    have h_y_7 := h_y_6.later hb
    clear hb B6 h_pl_6 h_pb_6 h_v_6 h_xn_6 h_xd_6 h_yn_6 h_yd_6 h_p_6 h_x_6 h_y_6
    go_wp2_with fail
    have c := examples_any w7
    refine c.mono ?_
    rintro e w8 ⟨rfl, hb⟩
    clear c
    have B8 := B7.trans (hb.mono B7.size)
    have h_pl_8 := h_pl_7.below hb
    have h_pb_8 := h_pb_7.below hb
    have h_v_8 := h_v_7.below hb
    have h_xn_8 := h_xn_7.below hb
    have h_xd_8 := h_xd_7.below hb
    have h_yn_8 := h_yn_7.below hb
    have h_yd_8 := h_yd_7.below hb
    have h_p_8 := h_p_7.later hb
    have h_x_8 := h_x_7.later hb
    have h_y_8 := h_y_7.later hb
    clear hb B7 h_pl_7 h_pb_7 h_v_7 h_xn_7 h_xd_7 h_yn_7 h_yd_7 h_p_7 h_x_7 h_y_7
    go_wp2_with fail
    go_ret
    exact ⟨rfl, B8⟩
  have E5 := Lib.hid e5
  clear e5
  obtain ⟨La, Wa, vld0⟩ := chkC_get (fun x hx => h_pl.bd x hx) (fun x hx => h_pb.bd x hx) E2.out
  have V0 := Lib.hid vld0
  have ways := obsCC_ways vld0 v
  clear vld0
  rcases ways with ⟨-, ho⟩ | ⟨q, Lb, Wb, -, ho, v1, hB, -, -⟩
  case inl =>
    have HO := Lib.hid ho
    clear ho
    go_enter Try.func8, Try.ntmps8
    have hb := below_al w (.cells (cmC p a_p n_p c_p b_p m_p d_p) 25)
    have B1 := B0.trans (hb.mono B0.size)
    have h_pl_1 := h_pl_0.below hb
    have h_pb_1 := h_pb_0.below hb
    have h_v_1 := h_v_0.below hb
    have h_xn_1 := h_xn_0.below hb
    have h_xd_1 := h_xd_0.below hb
    have h_yn_1 := h_yn_0.below hb
    have h_yd_1 := h_yd_0.below hb
    clear hb B0 h_pl_0 h_pb_0 h_v_0 h_xn_0 h_xd_0 h_yn_0 h_yd_0
    have h_p_1 := Has.new w (cmC p a_p n_p c_p b_p m_p d_p) 25
    have hb := below_al (w.alloc (.cells (cmC p a_p n_p c_p b_p m_p d_p) 25)) (.cells #[.bool g_x, .slice a_x n_x c_x, .slice b_x m_x d_x] 34)
    have B2 := B1.trans (hb.mono B1.size)
    have h_pl_2 := h_pl_1.below hb
    have h_pb_2 := h_pb_1.below hb
    have h_v_2 := h_v_1.below hb
    have h_xn_2 := h_xn_1.below hb
    have h_xd_2 := h_xd_1.below hb
    have h_yn_2 := h_yn_1.below hb
    have h_yd_2 := h_yd_1.below hb
    have h_p_2 := h_p_1.later hb
    clear hb B1 h_pl_1 h_pb_1 h_v_1 h_xn_1 h_xd_1 h_yn_1 h_yd_1 h_p_1
    have h_x_2 := Has.new (w.alloc (.cells (cmC p a_p n_p c_p b_p m_p d_p) 25)) #[.bool g_x, .slice a_x n_x c_x, .slice b_x m_x d_x] 34
    simp only [World.size_alloc] at h_x_2
    have hb := below_al ((w.alloc (.cells (cmC p a_p n_p c_p b_p m_p d_p) 25)).alloc (.cells #[.bool g_x, .slice a_x n_x c_x, .slice b_x m_x d_x] 34)) (.cells #[.bool g_y, .slice a_y n_y c_y, .slice b_y m_y d_y] 34)
    have B3 := B2.trans (hb.mono B2.size)
    have h_pl_3 := h_pl_2.below hb
    have h_pb_3 := h_pb_2.below hb
    have h_v_3 := h_v_2.below hb
    have h_xn_3 := h_xn_2.below hb
    have h_xd_3 := h_xd_2.below hb
    have h_yn_3 := h_yn_2.below hb
    have h_yd_3 := h_yd_2.below hb
    have h_p_3 := h_p_2.later hb
    have h_x_3 := h_x_2.later hb
    clear hb B2 h_pl_2 h_pb_2 h_v_2 h_xn_2 h_xd_2 h_yn_2 h_yd_2 h_p_2 h_x_2
    have h_y_3 := Has.new ((w.alloc (.cells (cmC p a_p n_p c_p b_p m_p d_p) 25)).alloc (.cells #[.bool g_x, .slice a_x n_x c_x, .slice b_x m_x d_x] 34)) #[.bool g_y, .slice a_y n_y c_y, .slice b_y m_y d_y] 34
    simp only [World.size_alloc] at h_y_3
    have k_p_0 := h_p_3.cell 0 _ rfl
    have k_p_1 := h_p_3.cell 1 _ rfl
    have k_p_2 := h_p_3.cell 2 _ rfl
    have k_p_3 := h_p_3.cell 3 _ rfl
    have k_p_4 := h_p_3.cell 4 _ rfl
    have k_p_5 := h_p_3.cell 5 _ rfl
    have k_p_6 := h_p_3.cell 6 _ rfl
    have k_p_7 := h_p_3.cell 7 _ rfl
    have k_p_8 := h_p_3.cell 8 _ rfl
    have k_p_9 := h_p_3.cell 9 _ rfl
    go_wp2_with fail
    clear k_p_0 k_p_1 k_p_2 k_p_3 k_p_4 k_p_5 k_p_6 k_p_7 k_p_8 k_p_9
    generalize (((w.alloc (.cells (cmC p a_p n_p c_p b_p m_p d_p) 25)).alloc (.cells #[.bool g_x, .slice a_x n_x c_x, .slice b_x m_x d_x] 34)).alloc (.cells #[.bool g_y, .slice a_y n_y c_y, .slice b_y m_y d_y] 34)) = w3 at *
    have c := cmGreat_any w3 (p := p) h_pl_3 h_pb_3
    rw [E1.out] at c
    refine c.mono ?_
    rintro e w4 ⟨rfl, hb⟩
    clear c
    have B4 := B3.trans (hb.mono B3.size)
    have h_pl_4 := h_pl_3.below hb
    have h_pb_4 := h_pb_3.below hb
    have h_v_4 := h_v_3.below hb
    have h_xn_4 := h_xn_3.below hb
    have h_xd_4 := h_xd_3.below hb
    have h_yn_4 := h_yn_3.below hb
    have h_yd_4 := h_yd_3.below hb
    have h_p_4 := h_p_3.later hb
    have h_x_4 := h_x_3.later hb
    have h_y_4 := h_y_3.later hb
    clear hb B3 h_pl_3 h_pb_3 h_v_3 h_xn_3 h_xd_3 h_yn_3 h_yd_3 h_p_3 h_x_3 h_y_3
    have k_p_0 := h_p_4.cell 0 _ rfl
    have k_p_1 := h_p_4.cell 1 _ rfl
    have k_p_2 := h_p_4.cell 2 _ rfl
    have k_p_3 := h_p_4.cell 3 _ rfl
    have k_p_4 := h_p_4.cell 4 _ rfl
    have k_p_5 := h_p_4.cell 5 _ rfl
    have k_p_6 := h_p_4.cell 6 _ rfl
    have k_p_7 := h_p_4.cell 7 _ rfl
    have k_p_8 := h_p_4.cell 8 _ rfl
    have k_p_9 := h_p_4.cell 9 _ rfl
    go_wp2_with fail
    clear k_p_0 k_p_1 k_p_2 k_p_3 k_p_4 k_p_5 k_p_6 k_p_7 k_p_8 k_p_9
    have c := refCmCheck_any w4 (q := p) h_pl_4 h_pb_4 pw_p
    rw [E2.out] at c
    refine c.mono ?_
    rintro e w5 ⟨rfl, hb⟩
    clear c
    have B5 := B4.trans (hb.mono B4.size)
    have h_pl_5 := h_pl_4.below hb
    have h_pb_5 := h_pb_4.below hb
    have h_v_5 := h_v_4.below hb
    have h_xn_5 := h_xn_4.below hb
    have h_xd_5 := h_xd_4.below hb
    have h_yn_5 := h_yn_4.below hb
    have h_yd_5 := h_yd_4.below hb
    have h_p_5 := h_p_4.later hb
    have h_x_5 := h_x_4.later hb
    have h_y_5 := h_y_4.later hb
    clear hb B4 h_pl_4 h_pb_4 h_v_4 h_xn_4 h_xd_4 h_yn_4 h_yd_4 h_p_4 h_x_4 h_y_4
    have k_x_0 := h_x_5.cell 0 _ rfl
    have k_x_1 := h_x_5.cell 1 _ rfl
    have k_x_2 := h_x_5.cell 2 _ rfl
    go_wp2_with fail
    clear k_x_0 k_x_1 k_x_2
    have c := refCheckLimit_any w5 (g := g_x) h_xn_5 h_xd_5
    rw [E4.out] at c
    refine c.mono ?_
    rintro e w6 ⟨rfl, hb⟩
    clear c
    have B6 := B5.trans (hb.mono B5.size)
    have h_pl_6 := h_pl_5.below hb
    have h_pb_6 := h_pb_5.below hb
    have h_v_6 := h_v_5.below hb
    have h_xn_6 := h_xn_5.below hb
    have h_xd_6 := h_xd_5.below hb
    have h_yn_6 := h_yn_5.below hb
    have h_yd_6 := h_yd_5.below hb
    have h_p_6 := h_p_5.later hb
    have h_x_6 := h_x_5.later hb
    have h_y_6 := h_y_5.later hb
    clear hb B5 h_pl_5 h_pb_5 h_v_5 h_xn_5 h_xd_5 h_yn_5 h_yd_5 h_p_5 h_x_5 h_y_5
    have k_y_0 := h_y_6.cell 0 _ rfl
    have k_y_1 := h_y_6.cell 1 _ rfl
    have k_y_2 := h_y_6.cell 2 _ rfl
    go_wp2_with fail
    clear k_y_0 k_y_1 k_y_2
    have c := refCheckLimit_any w6 (g := g_y) h_yn_6 h_yd_6
    rw [E5.out] at c
    refine c.mono ?_
    rintro e w7 ⟨rfl, hb⟩
    clear c
    have B7 := B6.trans (hb.mono B6.size)
    have h_pl_7 := h_pl_6.below hb
    have h_pb_7 := h_pb_6.below hb
    have h_v_7 := h_v_6.below hb
    have h_xn_7 := h_xn_6.below hb
    have h_xd_7 := h_xd_6.below hb
    have h_yn_7 := h_yn_6.below hb
    have h_yd_7 := h_yd_6.below hb
    have h_p_7 := h_p_6.later hb
    have h_x_7 := h_x_6.later hb
    have h_y_7 := h_y_6.later hb
    clear hb B6 h_pl_6 h_pb_6 h_v_6 h_xn_6 h_xd_6 h_yn_6 h_yd_6 h_p_6 h_x_6 h_y_6
    have k_p_0 := h_p_7.cell 0 _ rfl
    have k_p_1 := h_p_7.cell 1 _ rfl
    have k_p_2 := h_p_7.cell 2 _ rfl
    have k_p_3 := h_p_7.cell 3 _ rfl
    have k_p_4 := h_p_7.cell 4 _ rfl
    have k_p_5 := h_p_7.cell 5 _ rfl
    have k_p_6 := h_p_7.cell 6 _ rfl
    have k_p_7 := h_p_7.cell 7 _ rfl
    have k_p_8 := h_p_7.cell 8 _ rfl
    have k_p_9 := h_p_7.cell 9 _ rfl
    go_wp2_with fail
    clear k_p_0 k_p_1 k_p_2 k_p_3 k_p_4 k_p_5 k_p_6 k_p_7 k_p_8 k_p_9
    have c := cmObserve_any w7 h_pl_7 h_pb_7 pw_p h_v_7
    rw [HO.out] at c
    refine c.mono ?_
    rintro e w8 ⟨a_o, n_o, c_o, b_o, m_o, d_o, rfl, h_ol_8, h_ob_8, hb⟩
    clear c
    have B8 := B7.trans (hb.mono B7.size)
    have h_pl_8 := h_pl_7.below hb
    have h_pb_8 := h_pb_7.below hb
    have h_v_8 := h_v_7.below hb
    have h_xn_8 := h_xn_7.below hb
    have h_xd_8 := h_xd_7.below hb
    have h_yn_8 := h_yn_7.below hb
    have h_yd_8 := h_yd_7.below hb
    have h_p_8 := h_p_7.later hb
    have h_x_8 := h_x_7.later hb
    have h_y_8 := h_y_7.later hb
    clear hb B7 h_pl_7 h_pb_7 h_v_7 h_xn_7 h_xd_7 h_yn_7 h_yd_7 h_p_7 h_x_7 h_y_7
    have hb := below_al w8 (.cells (cmC zeroCV a_o n_o c_o b_o m_o d_o) 25)
    have B9 := B8.trans (hb.mono B8.size)
    have h_pl_9 := h_pl_8.below hb
    have h_pb_9 := h_pb_8.below hb
    have h_v_9 := h_v_8.below hb
    have h_xn_9 := h_xn_8.below hb
    have h_xd_9 := h_xd_8.below hb
    have h_yn_9 := h_yn_8.below hb
    have h_yd_9 := h_yd_8.below hb
    have h_p_9 := h_p_8.later hb
    have h_x_9 := h_x_8.later hb
    have h_y_9 := h_y_8.later hb
    have h_ol_9 := h_ol_8.below hb
    have h_ob_9 := h_ob_8.below hb
    clear hb B8 h_pl_8 h_pb_8 h_v_8 h_xn_8 h_xd_8 h_yn_8 h_yd_8 h_p_8 h_x_8 h_y_8 h_ol_8 h_ob_8
    have h_o_9 := Has.new w8 (cmC zeroCV a_o n_o c_o b_o m_o d_o) 25
    go_wp2_with first | refine wpList_store_new rfl 25 _ _ rfl atCmp _ _ _ rfl rfl rfl rfl (cm_one zeroCV _ _ _ _ _ _) ?_
    generalize (w8.alloc (.cells (cmC zeroCV a_o n_o c_o b_o m_o d_o) 25)) = w9 at *
    have c := examples_any w9
    refine c.mono ?_
    rintro e w10 ⟨rfl, hb⟩
    clear c
    have B10 := B9.trans (hb.mono B9.size)
    have h_pl_10 := h_pl_9.below hb
    have h_pb_10 := h_pb_9.below hb
    have h_v_10 := h_v_9.below hb
    have h_xn_10 := h_xn_9.below hb
    have h_xd_10 := h_xd_9.below hb
    have h_yn_10 := h_yn_9.below hb
    have h_yd_10 := h_yd_9.below hb
    have h_p_10 := h_p_9.later hb
    have h_x_10 := h_x_9.later hb
    have h_y_10 := h_y_9.later hb
    have h_ol_10 := h_ol_9.below hb
    have h_ob_10 := h_ob_9.below hb
    have h_o_10 := h_o_9.later hb
    clear hb B9 h_pl_9 h_pb_9 h_v_9 h_xn_9 h_xd_9 h_yn_9 h_yd_9 h_p_9 h_x_9 h_y_9 h_ol_9 h_ob_9 h_o_9
    go_wp2_with fail
    go_ret
    exact ⟨rfl, B10⟩
  case inr =>
  have HO := Lib.hid ho
  have V1 := Lib.hid v1
  have BB := Lib.hid hB
  obtain ⟨n1, d1, lx⟩ := limC_get (x := ⟨g_x, xn, xd⟩) h_xn.bd h_xd.bd E4.out
  obtain ⟨n2, d2, ly⟩ := limC_get (x := ⟨g_y, yn, yd⟩) h_yn.bd h_yd.bd E5.out
  have fx := lx.frac E4.out
  have fy := ly.frac E5.out
  obtain ⟨ls, hls, le0, ge0⟩ := cmp_frac fx fy
  obtain ⟨sm, hsm, sm0, _⟩ := cmp_frac (risk_frac v1) fx
  have bz : Wb ≠ 0 := fun h => by
    have one0 : 0 < oneN := by decide
    rw [h] at v1
    exact Nat.not_lt_of_le v1.lo one0
  have sm1 := sm0.trans (risk_le bz)
  obtain ⟨ba, hba⟩ : ∃ t, t = sureN Wa n1 d1 := ⟨_, rfl⟩
  obtain ⟨bb, hbb⟩ : ∃ t, t = sureN Wb n1 d1 := ⟨_, rfl⟩
  obtain ⟨bc, hbc⟩ : ∃ t, t = sureN Wb n2 d2 := ⟨_, rfl⟩
  have CA := Lib.hid (show confCC p ⟨g_x, xn, xd⟩ = (ba, 0) by rw [confCC_ok E2.out E4.out, V0.out.best, lx.sure V0.out.hi, hba])
  have CB := Lib.hid (show confCC q ⟨g_x, xn, xd⟩ = (bb, 0) by rw [confCC_ok v1.chk E4.out, v1.best, lx.sure v1.hi, hbb])
  have CC := Lib.hid (show confCC q ⟨g_y, yn, yd⟩ = (bc, 0) by rw [confCC_ok v1.chk E5.out, v1.best, ly.sure v1.hi, hbc])
  have RK := Lib.hid (riskCC_ok v1)
  have CL := Lib.hid hls
  have CS := Lib.hid hsm
  have dx : 0 < d1 := Nat.lt_of_lt_of_le lx.pos lx.le
  have dy : 0 < d2 := Nat.lt_of_lt_of_le ly.pos ly.le
  have i1 : ba = true → bb = true := fun h => by rw [hbb]; exact sure_more hB (hba.symm.trans h)
  have i2 : ls ≤ 0 → bb = true → bc = true := fun h h2 => by rw [hbc]; exact sure_up dx (le0.1 h) (hbb.symm.trans h2)
  have i3 : 0 ≤ ls → bc = true → bb = true := fun h h2 => by rw [hbb]; exact sure_up dy (ge0.1 h) (hbc.symm.trans h2)
  have dsm : decide (sm ≤ 0) = bb := by
    rw [hbb]
    unfold sureN
    rw [decide_eq_decide]
    exact sm1
  have TB := Lib.hid (show leC p.best q.best = true by rw [V0.out.best, v1.best, leC_ok V0.out.pw.2 v1.pw.2]; exact decide_eq_true hB)
  have TL := Lib.hid (show leC q.lev q.best = true by rw [v1.lev, v1.best, leC_ok v1.pw.1 v1.pw.2]; exact decide_eq_true v1.le)
  have K1 := Lib.hid v1.chk
  have PQ : CW q := v1.cw
  have tri : (ls ≤ 0 ∧ ¬ 0 ≤ ls) ∨ (¬ ls ≤ 0 ∧ 0 ≤ ls) ∨ (ls ≤ 0 ∧ 0 ≤ ls) := by omega
  clear ho v1 hB lx ly fx fy le0 ge0 hls hsm sm0 sm1 bz hba hbb hbc dx dy
  have bad : ∀ t : Bool, t = true ∨ t = false := fun t => by cases t <;> simp
  obtain ⟨dlv, dl⟩ : ∃ t, decide (ls ≤ 0) = t := ⟨_, rfl⟩
  obtain ⟨dgv, dg⟩ : ∃ t, decide (0 ≤ ls) = t := ⟨_, rfl⟩
  have j2 : dlv = true → bb = true → bc = true := fun h => i2 (of_decide_eq_true (dl.trans h))
  have j3 : dgv = true → bc = true → bb = true := fun h => i3 (of_decide_eq_true (dg.trans h))
  have tri : dlv = true ∨ dgv = true := by
    rcases tri with ⟨h, _⟩ | ⟨_, h⟩ | ⟨h, _⟩
    · exact .inl (dl.symm.trans (decide_eq_true h))
    · exact .inr (dg.symm.trans (decide_eq_true h))
    · exact .inl (dl.symm.trans (decide_eq_true h))
  have IH := Lib.hid (⟨i1, j2, j3, tri⟩ : _ ∧ _ ∧ _ ∧ _)
  have DL := Lib.hid dl
  have DG := Lib.hid dg
  have DS := Lib.hid dsm
  clear bad i1 i2 i3 j2 j3 tri dl dg dsm
  go_enter Try.func8, Try.ntmps8
  have hb := below_al w (.cells (cmC p a_p n_p c_p b_p m_p d_p) 25)
  have B1 := B0.trans (hb.mono B0.size)
  have h_pl_1 := h_pl_0.below hb
  have h_pb_1 := h_pb_0.below hb
  have h_v_1 := h_v_0.below hb
  have h_xn_1 := h_xn_0.below hb
  have h_xd_1 := h_xd_0.below hb
  have h_yn_1 := h_yn_0.below hb
  have h_yd_1 := h_yd_0.below hb
  clear hb B0 h_pl_0 h_pb_0 h_v_0 h_xn_0 h_xd_0 h_yn_0 h_yd_0
  have h_p_1 := Has.new w (cmC p a_p n_p c_p b_p m_p d_p) 25
  have hb := below_al (w.alloc (.cells (cmC p a_p n_p c_p b_p m_p d_p) 25)) (.cells #[.bool g_x, .slice a_x n_x c_x, .slice b_x m_x d_x] 34)
  have B2 := B1.trans (hb.mono B1.size)
  have h_pl_2 := h_pl_1.below hb
  have h_pb_2 := h_pb_1.below hb
  have h_v_2 := h_v_1.below hb
  have h_xn_2 := h_xn_1.below hb
  have h_xd_2 := h_xd_1.below hb
  have h_yn_2 := h_yn_1.below hb
  have h_yd_2 := h_yd_1.below hb
  have h_p_2 := h_p_1.later hb
  clear hb B1 h_pl_1 h_pb_1 h_v_1 h_xn_1 h_xd_1 h_yn_1 h_yd_1 h_p_1
  have h_x_2 := Has.new (w.alloc (.cells (cmC p a_p n_p c_p b_p m_p d_p) 25)) #[.bool g_x, .slice a_x n_x c_x, .slice b_x m_x d_x] 34
  simp only [World.size_alloc] at h_x_2
  have hb := below_al ((w.alloc (.cells (cmC p a_p n_p c_p b_p m_p d_p) 25)).alloc (.cells #[.bool g_x, .slice a_x n_x c_x, .slice b_x m_x d_x] 34)) (.cells #[.bool g_y, .slice a_y n_y c_y, .slice b_y m_y d_y] 34)
  have B3 := B2.trans (hb.mono B2.size)
  have h_pl_3 := h_pl_2.below hb
  have h_pb_3 := h_pb_2.below hb
  have h_v_3 := h_v_2.below hb
  have h_xn_3 := h_xn_2.below hb
  have h_xd_3 := h_xd_2.below hb
  have h_yn_3 := h_yn_2.below hb
  have h_yd_3 := h_yd_2.below hb
  have h_p_3 := h_p_2.later hb
  have h_x_3 := h_x_2.later hb
  clear hb B2 h_pl_2 h_pb_2 h_v_2 h_xn_2 h_xd_2 h_yn_2 h_yd_2 h_p_2 h_x_2
  have h_y_3 := Has.new ((w.alloc (.cells (cmC p a_p n_p c_p b_p m_p d_p) 25)).alloc (.cells #[.bool g_x, .slice a_x n_x c_x, .slice b_x m_x d_x] 34)) #[.bool g_y, .slice a_y n_y c_y, .slice b_y m_y d_y] 34
  simp only [World.size_alloc] at h_y_3
  have k_p_0 := h_p_3.cell 0 _ rfl
  have k_p_1 := h_p_3.cell 1 _ rfl
  have k_p_2 := h_p_3.cell 2 _ rfl
  have k_p_3 := h_p_3.cell 3 _ rfl
  have k_p_4 := h_p_3.cell 4 _ rfl
  have k_p_5 := h_p_3.cell 5 _ rfl
  have k_p_6 := h_p_3.cell 6 _ rfl
  have k_p_7 := h_p_3.cell 7 _ rfl
  have k_p_8 := h_p_3.cell 8 _ rfl
  have k_p_9 := h_p_3.cell 9 _ rfl
  go_wp2_with fail
  clear k_p_0 k_p_1 k_p_2 k_p_3 k_p_4 k_p_5 k_p_6 k_p_7 k_p_8 k_p_9
  generalize (((w.alloc (.cells (cmC p a_p n_p c_p b_p m_p d_p) 25)).alloc (.cells #[.bool g_x, .slice a_x n_x c_x, .slice b_x m_x d_x] 34)).alloc (.cells #[.bool g_y, .slice a_y n_y c_y, .slice b_y m_y d_y] 34)) = w3 at *
  have c := cmGreat_any w3 (p := p) h_pl_3 h_pb_3
  rw [E1.out] at c
  refine c.mono ?_
  rintro e w4 ⟨rfl, hb⟩
  clear c
  have B4 := B3.trans (hb.mono B3.size)
  have h_pl_4 := h_pl_3.below hb
  have h_pb_4 := h_pb_3.below hb
  have h_v_4 := h_v_3.below hb
  have h_xn_4 := h_xn_3.below hb
  have h_xd_4 := h_xd_3.below hb
  have h_yn_4 := h_yn_3.below hb
  have h_yd_4 := h_yd_3.below hb
  have h_p_4 := h_p_3.later hb
  have h_x_4 := h_x_3.later hb
  have h_y_4 := h_y_3.later hb
  clear hb B3 h_pl_3 h_pb_3 h_v_3 h_xn_3 h_xd_3 h_yn_3 h_yd_3 h_p_3 h_x_3 h_y_3
  have k_p_0 := h_p_4.cell 0 _ rfl
  have k_p_1 := h_p_4.cell 1 _ rfl
  have k_p_2 := h_p_4.cell 2 _ rfl
  have k_p_3 := h_p_4.cell 3 _ rfl
  have k_p_4 := h_p_4.cell 4 _ rfl
  have k_p_5 := h_p_4.cell 5 _ rfl
  have k_p_6 := h_p_4.cell 6 _ rfl
  have k_p_7 := h_p_4.cell 7 _ rfl
  have k_p_8 := h_p_4.cell 8 _ rfl
  have k_p_9 := h_p_4.cell 9 _ rfl
  go_wp2_with fail
  clear k_p_0 k_p_1 k_p_2 k_p_3 k_p_4 k_p_5 k_p_6 k_p_7 k_p_8 k_p_9
  have c := refCmCheck_any w4 (q := p) h_pl_4 h_pb_4 pw_p
  rw [E2.out] at c
  refine c.mono ?_
  rintro e w5 ⟨rfl, hb⟩
  clear c
  have B5 := B4.trans (hb.mono B4.size)
  have h_pl_5 := h_pl_4.below hb
  have h_pb_5 := h_pb_4.below hb
  have h_v_5 := h_v_4.below hb
  have h_xn_5 := h_xn_4.below hb
  have h_xd_5 := h_xd_4.below hb
  have h_yn_5 := h_yn_4.below hb
  have h_yd_5 := h_yd_4.below hb
  have h_p_5 := h_p_4.later hb
  have h_x_5 := h_x_4.later hb
  have h_y_5 := h_y_4.later hb
  clear hb B4 h_pl_4 h_pb_4 h_v_4 h_xn_4 h_xd_4 h_yn_4 h_yd_4 h_p_4 h_x_4 h_y_4
  have k_x_0 := h_x_5.cell 0 _ rfl
  have k_x_1 := h_x_5.cell 1 _ rfl
  have k_x_2 := h_x_5.cell 2 _ rfl
  go_wp2_with fail
  clear k_x_0 k_x_1 k_x_2
  have c := refCheckLimit_any w5 (g := g_x) h_xn_5 h_xd_5
  rw [E4.out] at c
  refine c.mono ?_
  rintro e w6 ⟨rfl, hb⟩
  clear c
  have B6 := B5.trans (hb.mono B5.size)
  have h_pl_6 := h_pl_5.below hb
  have h_pb_6 := h_pb_5.below hb
  have h_v_6 := h_v_5.below hb
  have h_xn_6 := h_xn_5.below hb
  have h_xd_6 := h_xd_5.below hb
  have h_yn_6 := h_yn_5.below hb
  have h_yd_6 := h_yd_5.below hb
  have h_p_6 := h_p_5.later hb
  have h_x_6 := h_x_5.later hb
  have h_y_6 := h_y_5.later hb
  clear hb B5 h_pl_5 h_pb_5 h_v_5 h_xn_5 h_xd_5 h_yn_5 h_yd_5 h_p_5 h_x_5 h_y_5
  have k_y_0 := h_y_6.cell 0 _ rfl
  have k_y_1 := h_y_6.cell 1 _ rfl
  have k_y_2 := h_y_6.cell 2 _ rfl
  go_wp2_with fail
  clear k_y_0 k_y_1 k_y_2
  have c := refCheckLimit_any w6 (g := g_y) h_yn_6 h_yd_6
  rw [E5.out] at c
  refine c.mono ?_
  rintro e w7 ⟨rfl, hb⟩
  clear c
  have B7 := B6.trans (hb.mono B6.size)
  have h_pl_7 := h_pl_6.below hb
  have h_pb_7 := h_pb_6.below hb
  have h_v_7 := h_v_6.below hb
  have h_xn_7 := h_xn_6.below hb
  have h_xd_7 := h_xd_6.below hb
  have h_yn_7 := h_yn_6.below hb
  have h_yd_7 := h_yd_6.below hb
  have h_p_7 := h_p_6.later hb
  have h_x_7 := h_x_6.later hb
  have h_y_7 := h_y_6.later hb
  clear hb B6 h_pl_6 h_pb_6 h_v_6 h_xn_6 h_xd_6 h_yn_6 h_yd_6 h_p_6 h_x_6 h_y_6
  have k_p_0 := h_p_7.cell 0 _ rfl
  have k_p_1 := h_p_7.cell 1 _ rfl
  have k_p_2 := h_p_7.cell 2 _ rfl
  have k_p_3 := h_p_7.cell 3 _ rfl
  have k_p_4 := h_p_7.cell 4 _ rfl
  have k_p_5 := h_p_7.cell 5 _ rfl
  have k_p_6 := h_p_7.cell 6 _ rfl
  have k_p_7 := h_p_7.cell 7 _ rfl
  have k_p_8 := h_p_7.cell 8 _ rfl
  have k_p_9 := h_p_7.cell 9 _ rfl
  go_wp2_with fail
  clear k_p_0 k_p_1 k_p_2 k_p_3 k_p_4 k_p_5 k_p_6 k_p_7 k_p_8 k_p_9
  have c := cmObserve_any w7 h_pl_7 h_pb_7 pw_p h_v_7
  rw [HO.out] at c
  refine c.mono ?_
  rintro e w8 ⟨a_o, n_o, c_o, b_o, m_o, d_o, rfl, h_ol_8, h_ob_8, hb⟩
  clear c
  have B8 := B7.trans (hb.mono B7.size)
  have h_pl_8 := h_pl_7.below hb
  have h_pb_8 := h_pb_7.below hb
  have h_v_8 := h_v_7.below hb
  have h_xn_8 := h_xn_7.below hb
  have h_xd_8 := h_xd_7.below hb
  have h_yn_8 := h_yn_7.below hb
  have h_yd_8 := h_yd_7.below hb
  have h_p_8 := h_p_7.later hb
  have h_x_8 := h_x_7.later hb
  have h_y_8 := h_y_7.later hb
  clear hb B7 h_pl_7 h_pb_7 h_v_7 h_xn_7 h_xd_7 h_yn_7 h_yd_7 h_p_7 h_x_7 h_y_7
  have hb := below_al w8 (.cells (cmC q a_o n_o c_o b_o m_o d_o) 25)
  have B9 := B8.trans (hb.mono B8.size)
  have h_pl_9 := h_pl_8.below hb
  have h_pb_9 := h_pb_8.below hb
  have h_v_9 := h_v_8.below hb
  have h_xn_9 := h_xn_8.below hb
  have h_xd_9 := h_xd_8.below hb
  have h_yn_9 := h_yn_8.below hb
  have h_yd_9 := h_yd_8.below hb
  have h_p_9 := h_p_8.later hb
  have h_x_9 := h_x_8.later hb
  have h_y_9 := h_y_8.later hb
  have h_ol_9 := h_ol_8.below hb
  have h_ob_9 := h_ob_8.below hb
  clear hb B8 h_pl_8 h_pb_8 h_v_8 h_xn_8 h_xd_8 h_yn_8 h_yd_8 h_p_8 h_x_8 h_y_8 h_ol_8 h_ob_8
  have h_o_9 := Has.new w8 (cmC q a_o n_o c_o b_o m_o d_o) 25
  have k_p_0 := h_p_9.cell 0 _ rfl
  have k_p_1 := h_p_9.cell 1 _ rfl
  have k_p_2 := h_p_9.cell 2 _ rfl
  have k_p_3 := h_p_9.cell 3 _ rfl
  have k_p_4 := h_p_9.cell 4 _ rfl
  have k_p_5 := h_p_9.cell 5 _ rfl
  have k_p_6 := h_p_9.cell 6 _ rfl
  have k_p_7 := h_p_9.cell 7 _ rfl
  have k_p_8 := h_p_9.cell 8 _ rfl
  have k_p_9 := h_p_9.cell 9 _ rfl
  have k_x_0 := h_x_9.cell 0 _ rfl
  have k_x_1 := h_x_9.cell 1 _ rfl
  have k_x_2 := h_x_9.cell 2 _ rfl
  go_wp2_with first | refine wpList_store_new rfl 25 _ _ rfl atCmp _ _ _ rfl rfl rfl rfl (cm_one q _ _ _ _ _ _) ?_
  clear k_p_0 k_p_1 k_p_2 k_p_3 k_p_4 k_p_5 k_p_6 k_p_7 k_p_8 k_p_9 k_x_0 k_x_1 k_x_2
  generalize (w8.alloc (.cells (cmC q a_o n_o c_o b_o m_o d_o) 25)) = w9 at *
  have c := cmConfirmed_any w9 h_pl_9 h_pb_9 pw_p (g := g_x) h_xn_9 h_xd_9
  rw [CA.out] at c
  refine c.mono ?_
  rintro e w10 ⟨rfl, hb⟩
  clear c
  have B10 := B9.trans (hb.mono B9.size)
  have h_pl_10 := h_pl_9.below hb
  have h_pb_10 := h_pb_9.below hb
  have h_v_10 := h_v_9.below hb
  have h_xn_10 := h_xn_9.below hb
  have h_xd_10 := h_xd_9.below hb
  have h_yn_10 := h_yn_9.below hb
  have h_yd_10 := h_yd_9.below hb
  have h_p_10 := h_p_9.later hb
  have h_x_10 := h_x_9.later hb
  have h_y_10 := h_y_9.later hb
  have h_ol_10 := h_ol_9.below hb
  have h_ob_10 := h_ob_9.below hb
  have h_o_10 := h_o_9.later hb
  clear hb B9 h_pl_9 h_pb_9 h_v_9 h_xn_9 h_xd_9 h_yn_9 h_yd_9 h_p_9 h_x_9 h_y_9 h_ol_9 h_ob_9 h_o_9
  have k_o_0 := h_o_10.cell 0 _ rfl
  have k_o_1 := h_o_10.cell 1 _ rfl
  have k_o_2 := h_o_10.cell 2 _ rfl
  have k_o_3 := h_o_10.cell 3 _ rfl
  have k_o_4 := h_o_10.cell 4 _ rfl
  have k_o_5 := h_o_10.cell 5 _ rfl
  have k_o_6 := h_o_10.cell 6 _ rfl
  have k_o_7 := h_o_10.cell 7 _ rfl
  have k_o_8 := h_o_10.cell 8 _ rfl
  have k_o_9 := h_o_10.cell 9 _ rfl
  have k_x_0 := h_x_10.cell 0 _ rfl
  have k_x_1 := h_x_10.cell 1 _ rfl
  have k_x_2 := h_x_10.cell 2 _ rfl
  go_wp2_with fail
  clear k_o_0 k_o_1 k_o_2 k_o_3 k_o_4 k_o_5 k_o_6 k_o_7 k_o_8 k_o_9 k_x_0 k_x_1 k_x_2
  have c := cmConfirmed_any w10 h_ol_10 h_ob_10 PQ (g := g_x) h_xn_10 h_xd_10
  rw [CB.out] at c
  refine c.mono ?_
  rintro e w11 ⟨rfl, hb⟩
  clear c
  have B11 := B10.trans (hb.mono B10.size)
  have h_pl_11 := h_pl_10.below hb
  have h_pb_11 := h_pb_10.below hb
  have h_v_11 := h_v_10.below hb
  have h_xn_11 := h_xn_10.below hb
  have h_xd_11 := h_xd_10.below hb
  have h_yn_11 := h_yn_10.below hb
  have h_yd_11 := h_yd_10.below hb
  have h_p_11 := h_p_10.later hb
  have h_x_11 := h_x_10.later hb
  have h_y_11 := h_y_10.later hb
  have h_ol_11 := h_ol_10.below hb
  have h_ob_11 := h_ob_10.below hb
  have h_o_11 := h_o_10.later hb
  clear hb B10 h_pl_10 h_pb_10 h_v_10 h_xn_10 h_xd_10 h_yn_10 h_yd_10 h_p_10 h_x_10 h_y_10 h_ol_10 h_ob_10 h_o_10
  have k_o_0 := h_o_11.cell 0 _ rfl
  have k_o_1 := h_o_11.cell 1 _ rfl
  have k_o_2 := h_o_11.cell 2 _ rfl
  have k_o_3 := h_o_11.cell 3 _ rfl
  have k_o_4 := h_o_11.cell 4 _ rfl
  have k_o_5 := h_o_11.cell 5 _ rfl
  have k_o_6 := h_o_11.cell 6 _ rfl
  have k_o_7 := h_o_11.cell 7 _ rfl
  have k_o_8 := h_o_11.cell 8 _ rfl
  have k_o_9 := h_o_11.cell 9 _ rfl
  have k_y_0 := h_y_11.cell 0 _ rfl
  have k_y_1 := h_y_11.cell 1 _ rfl
  have k_y_2 := h_y_11.cell 2 _ rfl
  go_wp2_with fail
  clear k_o_0 k_o_1 k_o_2 k_o_3 k_o_4 k_o_5 k_o_6 k_o_7 k_o_8 k_o_9 k_y_0 k_y_1 k_y_2
  have c := cmConfirmed_any w11 h_ol_11 h_ob_11 PQ (g := g_y) h_yn_11 h_yd_11
  rw [CC.out] at c
  refine c.mono ?_
  rintro e w12 ⟨rfl, hb⟩
  clear c
  have B12 := B11.trans (hb.mono B11.size)
  have h_pl_12 := h_pl_11.below hb
  have h_pb_12 := h_pb_11.below hb
  have h_v_12 := h_v_11.below hb
  have h_xn_12 := h_xn_11.below hb
  have h_xd_12 := h_xd_11.below hb
  have h_yn_12 := h_yn_11.below hb
  have h_yd_12 := h_yd_11.below hb
  have h_p_12 := h_p_11.later hb
  have h_x_12 := h_x_11.later hb
  have h_y_12 := h_y_11.later hb
  have h_ol_12 := h_ol_11.below hb
  have h_ob_12 := h_ob_11.below hb
  have h_o_12 := h_o_11.later hb
  clear hb B11 h_pl_11 h_pb_11 h_v_11 h_xn_11 h_xd_11 h_yn_11 h_yd_11 h_p_11 h_x_11 h_y_11 h_ol_11 h_ob_11 h_o_11
  have k_x_0 := h_x_12.cell 0 _ rfl
  have k_x_1 := h_x_12.cell 1 _ rfl
  have k_x_2 := h_x_12.cell 2 _ rfl
  have k_y_0 := h_y_12.cell 0 _ rfl
  have k_y_1 := h_y_12.cell 1 _ rfl
  have k_y_2 := h_y_12.cell 2 _ rfl
  go_wp2_with fail
  clear k_x_0 k_x_1 k_x_2 k_y_0 k_y_1 k_y_2
  have c := refRatCmp_any w12 (g1 := g_x) (g2 := g_y) h_xn_12 h_xd_12 h_yn_12 h_yd_12
  rw [CL.out] at c
  refine c.mono ?_
  rintro e w13 ⟨rfl, hb⟩
  clear c
  have B13 := B12.trans (hb.mono B12.size)
  have h_pl_13 := h_pl_12.below hb
  have h_pb_13 := h_pb_12.below hb
  have h_v_13 := h_v_12.below hb
  have h_xn_13 := h_xn_12.below hb
  have h_xd_13 := h_xd_12.below hb
  have h_yn_13 := h_yn_12.below hb
  have h_yd_13 := h_yd_12.below hb
  have h_p_13 := h_p_12.later hb
  have h_x_13 := h_x_12.later hb
  have h_y_13 := h_y_12.later hb
  have h_ol_13 := h_ol_12.below hb
  have h_ob_13 := h_ob_12.below hb
  have h_o_13 := h_o_12.later hb
  clear hb B12 h_pl_12 h_pb_12 h_v_12 h_xn_12 h_xd_12 h_yn_12 h_yd_12 h_p_12 h_x_12 h_y_12 h_ol_12 h_ob_12 h_o_12
  have k_o_0 := h_o_13.cell 0 _ rfl
  have k_o_1 := h_o_13.cell 1 _ rfl
  have k_o_2 := h_o_13.cell 2 _ rfl
  have k_o_3 := h_o_13.cell 3 _ rfl
  have k_o_4 := h_o_13.cell 4 _ rfl
  have k_o_5 := h_o_13.cell 5 _ rfl
  have k_o_6 := h_o_13.cell 6 _ rfl
  have k_o_7 := h_o_13.cell 7 _ rfl
  have k_o_8 := h_o_13.cell 8 _ rfl
  have k_o_9 := h_o_13.cell 9 _ rfl
  go_wp2_with fail
  clear k_o_0 k_o_1 k_o_2 k_o_3 k_o_4 k_o_5 k_o_6 k_o_7 k_o_8 k_o_9
  have c := cmRisk_any w13 h_ol_13 h_ob_13 PQ
  rw [RK.out] at c
  refine c.mono ?_
  rintro e w14 ⟨a_r, n_r, c_r, b_r, m_r, d_r, rfl, h_rn_14, h_rd_14, hb⟩
  clear c
  have B14 := B13.trans (hb.mono B13.size)
  have h_pl_14 := h_pl_13.below hb
  have h_pb_14 := h_pb_13.below hb
  have h_v_14 := h_v_13.below hb
  have h_xn_14 := h_xn_13.below hb
  have h_xd_14 := h_xd_13.below hb
  have h_yn_14 := h_yn_13.below hb
  have h_yd_14 := h_yd_13.below hb
  have h_p_14 := h_p_13.later hb
  have h_x_14 := h_x_13.later hb
  have h_y_14 := h_y_13.later hb
  have h_ol_14 := h_ol_13.below hb
  have h_ob_14 := h_ob_13.below hb
  have h_o_14 := h_o_13.later hb
  clear hb B13 h_pl_13 h_pb_13 h_v_13 h_xn_13 h_xd_13 h_yn_13 h_yd_13 h_p_13 h_x_13 h_y_13 h_ol_13 h_ob_13 h_o_13
  have hb := below_al w14 (.cells #[.bool ((lowV false oneN Wb)).neg, .slice a_r n_r c_r, .slice b_r m_r d_r] 34)
  have B15 := B14.trans (hb.mono B14.size)
  have h_pl_15 := h_pl_14.below hb
  have h_pb_15 := h_pb_14.below hb
  have h_v_15 := h_v_14.below hb
  have h_xn_15 := h_xn_14.below hb
  have h_xd_15 := h_xd_14.below hb
  have h_yn_15 := h_yn_14.below hb
  have h_yd_15 := h_yd_14.below hb
  have h_p_15 := h_p_14.later hb
  have h_x_15 := h_x_14.later hb
  have h_y_15 := h_y_14.later hb
  have h_ol_15 := h_ol_14.below hb
  have h_ob_15 := h_ob_14.below hb
  have h_o_15 := h_o_14.later hb
  have h_rn_15 := h_rn_14.below hb
  have h_rd_15 := h_rd_14.below hb
  clear hb B14 h_pl_14 h_pb_14 h_v_14 h_xn_14 h_xd_14 h_yn_14 h_yd_14 h_p_14 h_x_14 h_y_14 h_ol_14 h_ob_14 h_o_14 h_rn_14 h_rd_14
  have h_r_15 := Has.new w14 #[.bool ((lowV false oneN Wb)).neg, .slice a_r n_r c_r, .slice b_r m_r d_r] 34
  have k_r_0 := h_r_15.cell 0 _ rfl
  have k_r_1 := h_r_15.cell 1 _ rfl
  have k_r_2 := h_r_15.cell 2 _ rfl
  have k_x_0 := h_x_15.cell 0 _ rfl
  have k_x_1 := h_x_15.cell 1 _ rfl
  have k_x_2 := h_x_15.cell 2 _ rfl
  go_wp2_with first | refine wpList_store_new rfl 34 _ _ rfl atRat _ _ _ rfl rfl rfl rfl (rat_one _ _ _ _ _ _ _) ?_
  clear k_r_0 k_r_1 k_r_2 k_x_0 k_x_1 k_x_2
  generalize (w14.alloc (.cells #[.bool ((lowV false oneN Wb)).neg, .slice a_r n_r c_r, .slice b_r m_r d_r] 34)) = w15 at *
  have c := refRatCmp_any w15 (g1 := (lowV false oneN Wb).neg) (g2 := g_x) h_rn_15 h_rd_15 h_xn_15 h_xd_15
  rw [show (⟨(lowV false oneN Wb).neg, (lowV false oneN Wb).num, (lowV false oneN Wb).den⟩ : QV) = lowV false oneN Wb from rfl] at c
  rw [CS.out] at c
  refine c.mono ?_
  rintro e w16 ⟨rfl, hb⟩
  clear c
  have B16 := B15.trans (hb.mono B15.size)
  have h_pl_16 := h_pl_15.below hb
  have h_pb_16 := h_pb_15.below hb
  have h_v_16 := h_v_15.below hb
  have h_xn_16 := h_xn_15.below hb
  have h_xd_16 := h_xd_15.below hb
  have h_yn_16 := h_yn_15.below hb
  have h_yd_16 := h_yd_15.below hb
  have h_p_16 := h_p_15.later hb
  have h_x_16 := h_x_15.later hb
  have h_y_16 := h_y_15.later hb
  have h_ol_16 := h_ol_15.below hb
  have h_ob_16 := h_ob_15.below hb
  have h_o_16 := h_o_15.later hb
  have h_rn_16 := h_rn_15.below hb
  have h_rd_16 := h_rd_15.below hb
  have h_r_16 := h_r_15.later hb
  clear hb B15 h_pl_15 h_pb_15 h_v_15 h_xn_15 h_xd_15 h_yn_15 h_yd_15 h_p_15 h_x_15 h_y_15 h_ol_15 h_ob_15 h_o_15 h_rn_15 h_rd_15 h_r_15
  go_upto_region 12 with fail
  go_cut [132] from 90 to 132 (fun t wx => t = Value.bool false ∧ wx = w16)
  case first =>
    have dl := DL.out
    have dg := DG.out
    obtain ⟨i1, i2, i3, tri⟩ := IH.out
    clear IH DL DG DS CA CB CC
    cases ba <;> cases bb <;> cases bc <;> cases dlv <;> cases dgv
    all_goals first | (exfalso; revert i1; decide) | (exfalso; revert i2; decide) | (exfalso; revert i3; decide) | (exfalso; revert tri; decide) | clear i1 i2 i3 tri
    all_goals (go_wp2_with fail; go_meet; exact ⟨rfl, rfl⟩)
  case rest =>
  obtain ⟨rfl, hw⟩ := hcut
  have hw := hw.symm
  subst hw
  have dsm := DS.out
  clear IH DL DG DS
  have k_p_9 := h_p_16.cell 9 _ rfl
  have k_o_9 := h_o_16.cell 9 _ rfl
  go_wp2_with fail
  clear k_p_9 k_o_9
  have c := refAtMost_any w16 h_pb_16 h_ob_16
  rw [TB.out] at c
  refine c.mono ?_
  rintro e w17 ⟨rfl, hb⟩
  clear c
  have B17 := B16.trans (hb.mono B16.size)
  have h_pl_17 := h_pl_16.below hb
  have h_pb_17 := h_pb_16.below hb
  have h_v_17 := h_v_16.below hb
  have h_xn_17 := h_xn_16.below hb
  have h_xd_17 := h_xd_16.below hb
  have h_yn_17 := h_yn_16.below hb
  have h_yd_17 := h_yd_16.below hb
  have h_p_17 := h_p_16.later hb
  have h_x_17 := h_x_16.later hb
  have h_y_17 := h_y_16.later hb
  have h_ol_17 := h_ol_16.below hb
  have h_ob_17 := h_ob_16.below hb
  have h_o_17 := h_o_16.later hb
  have h_rn_17 := h_rn_16.below hb
  have h_rd_17 := h_rd_16.below hb
  have h_r_17 := h_r_16.later hb
  clear hb B16 h_pl_16 h_pb_16 h_v_16 h_xn_16 h_xd_16 h_yn_16 h_yd_16 h_p_16 h_x_16 h_y_16 h_ol_16 h_ob_16 h_o_16 h_rn_16 h_rd_16 h_r_16
  have k_o_8 := h_o_17.cell 8 _ rfl
  have k_o_9 := h_o_17.cell 9 _ rfl
  go_wp2_with fail
  clear k_o_8 k_o_9
  have c := refAtMost_any w17 h_ol_17 h_ob_17
  rw [TL.out] at c
  refine c.mono ?_
  rintro e w18 ⟨rfl, hb⟩
  clear c
  have B18 := B17.trans (hb.mono B17.size)
  have h_pl_18 := h_pl_17.below hb
  have h_pb_18 := h_pb_17.below hb
  have h_v_18 := h_v_17.below hb
  have h_xn_18 := h_xn_17.below hb
  have h_xd_18 := h_xd_17.below hb
  have h_yn_18 := h_yn_17.below hb
  have h_yd_18 := h_yd_17.below hb
  have h_p_18 := h_p_17.later hb
  have h_x_18 := h_x_17.later hb
  have h_y_18 := h_y_17.later hb
  have h_ol_18 := h_ol_17.below hb
  have h_ob_18 := h_ob_17.below hb
  have h_o_18 := h_o_17.later hb
  have h_rn_18 := h_rn_17.below hb
  have h_rd_18 := h_rd_17.below hb
  have h_r_18 := h_r_17.later hb
  clear hb B17 h_pl_17 h_pb_17 h_v_17 h_xn_17 h_xd_17 h_yn_17 h_yd_17 h_p_17 h_x_17 h_y_17 h_ol_17 h_ob_17 h_o_17 h_rn_17 h_rd_17 h_r_17
  have k_o_0 := h_o_18.cell 0 _ rfl
  have k_o_1 := h_o_18.cell 1 _ rfl
  have k_o_2 := h_o_18.cell 2 _ rfl
  have k_o_3 := h_o_18.cell 3 _ rfl
  have k_o_4 := h_o_18.cell 4 _ rfl
  have k_o_5 := h_o_18.cell 5 _ rfl
  have k_o_6 := h_o_18.cell 6 _ rfl
  have k_o_7 := h_o_18.cell 7 _ rfl
  have k_o_8 := h_o_18.cell 8 _ rfl
  have k_o_9 := h_o_18.cell 9 _ rfl
  go_wp2_with fail
  clear k_o_0 k_o_1 k_o_2 k_o_3 k_o_4 k_o_5 k_o_6 k_o_7 k_o_8 k_o_9
  have c := cmCheck_any w18 (q := q) h_ol_18 h_ob_18 PQ
  rw [K1.out] at c
  refine c.mono ?_
  rintro e w19 ⟨rfl, hb⟩
  clear c
  have B19 := B18.trans (hb.mono B18.size)
  have h_pl_19 := h_pl_18.below hb
  have h_pb_19 := h_pb_18.below hb
  have h_v_19 := h_v_18.below hb
  have h_xn_19 := h_xn_18.below hb
  have h_xd_19 := h_xd_18.below hb
  have h_yn_19 := h_yn_18.below hb
  have h_yd_19 := h_yd_18.below hb
  have h_p_19 := h_p_18.later hb
  have h_x_19 := h_x_18.later hb
  have h_y_19 := h_y_18.later hb
  have h_ol_19 := h_ol_18.below hb
  have h_ob_19 := h_ob_18.below hb
  have h_o_19 := h_o_18.later hb
  have h_rn_19 := h_rn_18.below hb
  have h_rd_19 := h_rd_18.below hb
  have h_r_19 := h_r_18.later hb
  clear hb B18 h_pl_18 h_pb_18 h_v_18 h_xn_18 h_xd_18 h_yn_18 h_yd_18 h_p_18 h_x_18 h_y_18 h_ol_18 h_ob_18 h_o_18 h_rn_18 h_rd_18 h_r_18
  go_wp2_with fail
  have c := examples_any w19
  refine c.mono ?_
  rintro e w20 ⟨rfl, hb⟩
  clear c
  have B20 := B19.trans (hb.mono B19.size)
  have h_pl_20 := h_pl_19.below hb
  have h_pb_20 := h_pb_19.below hb
  have h_v_20 := h_v_19.below hb
  have h_xn_20 := h_xn_19.below hb
  have h_xd_20 := h_xd_19.below hb
  have h_yn_20 := h_yn_19.below hb
  have h_yd_20 := h_yd_19.below hb
  have h_p_20 := h_p_19.later hb
  have h_x_20 := h_x_19.later hb
  have h_y_20 := h_y_19.later hb
  have h_ol_20 := h_ol_19.below hb
  have h_ob_20 := h_ob_19.below hb
  have h_o_20 := h_o_19.later hb
  have h_rn_20 := h_rn_19.below hb
  have h_rd_20 := h_rd_19.below hb
  have h_r_20 := h_r_19.later hb
  clear hb B19 h_pl_19 h_pb_19 h_v_19 h_xn_19 h_xd_19 h_yn_19 h_yd_19 h_p_19 h_x_19 h_y_19 h_ol_19 h_ob_19 h_o_19 h_rn_19 h_rd_19 h_r_19
  go_wp2_with fail
  go_ret
  exact ⟨rfl, B20⟩

end Go.Proofs.Ytmkcdlhhbnakiaa
