/- The walk of the law CompareMatches: it returns true and turns nothing that was there. No condition. Printed by gen_cmplaws.py. -/
import Derived.Test.YtmkcdlhhbnakiaaCmpT
import Derived.BigQuiet
import Derived.Deep.CutRange
namespace Go.Proofs.Ytmkcdlhhbnakiaa
open Go.RowKit Go.Suf
set_option linter.unusedVariables false
set_option linter.unusedSimpArgs false

set_option maxRecDepth 100000 in
set_option maxHeartbeats 8000000 in
theorem compareMatches_walk (w : World) {p : CV} {a_p b_p : Option Addr} {n_p c_p m_p d_p : Nat} (h_pl : Rd .u32 w a_p n_p c_p p.lev) (h_pb : Rd .u32 w b_p m_p d_p p.best) (pw_p : CW p) {q : CV} {a_q b_q : Option Addr} {n_q c_q m_q d_q : Nat} (h_ql : Rd .u32 w a_q n_q c_q q.lev) (h_qb : Rd .u32 w b_q m_q d_q q.best) (pw_q : CW q) (bet : Int) (h_bet1 : -9223372036854775808 ≤ bet) (h_bet2 : bet ≤ 9223372036854775807) (bal : Int) (h_bal1 : -9223372036854775808 ≤ bal) (h_bal2 : bal ≤ 9223372036854775807) (mar : Int) (h_mar1 : -9223372036854775808 ≤ mar) (h_mar2 : mar ≤ 9223372036854775807) {a_v : Option Addr} {n_v c_v : Nat} {v : List Int} (h_v : RdI w a_v n_v c_v v) {g_x : Bool} {a_x b_x : Option Addr} {n_x c_x m_x d_x : Nat} {xn xd : List Nat} (h_xn : Rd .u32 w a_x n_x c_x xn) (h_xd : Rd .u32 w b_x m_x d_x xd) (mac : Int) (h_mac1 : -9223372036854775808 ≤ mac) (h_mac2 : mac ≤ 9223372036854775807) (han : Int) (h_han1 : -9223372036854775808 ≤ han) (h_han2 : han ≤ 9223372036854775807) :
    Calls Try.prog 7 #[cmV p a_p n_p c_p b_p m_p d_p, cmV q a_q n_q c_q b_q m_q d_q, .int .i64 bet, .int .i64 bal, .int .i64 mar, .slice a_v n_v c_v, ratV g_x a_x n_x c_x b_x m_x d_x, .int .i64 mac, .int .i64 han] w fun e w' => e = .returned (.bool true) ∧ Below w.heap.size w w' := by
  have B0 : Below w.heap.size w w := Below.refl _ _
  have h_pl_0 := h_pl
  have h_pb_0 := h_pb
  have h_ql_0 := h_ql
  have h_qb_0 := h_qb
  have h_v_0 := h_v
  have h_xn_0 := h_xn
  have h_xd_0 := h_xd
  by_cases e1 : greatC p = true
  case pos =>
    go_enter Try.func7, Try.ntmps7
    have hb := below_al w (.cells (cmC p a_p n_p c_p b_p m_p d_p) 25)
    have B1 := B0.trans (hb.mono B0.size)
    have h_pl_1 := h_pl_0.below hb
    have h_pb_1 := h_pb_0.below hb
    have h_ql_1 := h_ql_0.below hb
    have h_qb_1 := h_qb_0.below hb
    have h_v_1 := h_v_0.below hb
    have h_xn_1 := h_xn_0.below hb
    have h_xd_1 := h_xd_0.below hb
    clear hb B0 h_pl_0 h_pb_0 h_ql_0 h_qb_0 h_v_0 h_xn_0 h_xd_0
    have h_p_1 := Has.new w (cmC p a_p n_p c_p b_p m_p d_p) 25
    have hb := below_al (w.alloc (.cells (cmC p a_p n_p c_p b_p m_p d_p) 25)) (.cells (cmC q a_q n_q c_q b_q m_q d_q) 25)
    have B2 := B1.trans (hb.mono B1.size)
    have h_pl_2 := h_pl_1.below hb
    have h_pb_2 := h_pb_1.below hb
    have h_ql_2 := h_ql_1.below hb
    have h_qb_2 := h_qb_1.below hb
    have h_v_2 := h_v_1.below hb
    have h_xn_2 := h_xn_1.below hb
    have h_xd_2 := h_xd_1.below hb
    have h_p_2 := h_p_1.later hb
    clear hb B1 h_pl_1 h_pb_1 h_ql_1 h_qb_1 h_v_1 h_xn_1 h_xd_1 h_p_1
    have h_q_2 := Has.new (w.alloc (.cells (cmC p a_p n_p c_p b_p m_p d_p) 25)) (cmC q a_q n_q c_q b_q m_q d_q) 25
    simp only [World.size_alloc] at h_q_2
    have hb := below_al ((w.alloc (.cells (cmC p a_p n_p c_p b_p m_p d_p) 25)).alloc (.cells (cmC q a_q n_q c_q b_q m_q d_q) 25)) (.cells #[.bool g_x, .slice a_x n_x c_x, .slice b_x m_x d_x] 34)
    have B3 := B2.trans (hb.mono B2.size)
    have h_pl_3 := h_pl_2.below hb
    have h_pb_3 := h_pb_2.below hb
    have h_ql_3 := h_ql_2.below hb
    have h_qb_3 := h_qb_2.below hb
    have h_v_3 := h_v_2.below hb
    have h_xn_3 := h_xn_2.below hb
    have h_xd_3 := h_xd_2.below hb
    have h_p_3 := h_p_2.later hb
    have h_q_3 := h_q_2.later hb
    clear hb B2 h_pl_2 h_pb_2 h_ql_2 h_qb_2 h_v_2 h_xn_2 h_xd_2 h_p_2 h_q_2
    have h_x_3 := Has.new ((w.alloc (.cells (cmC p a_p n_p c_p b_p m_p d_p) 25)).alloc (.cells (cmC q a_q n_q c_q b_q m_q d_q) 25)) #[.bool g_x, .slice a_x n_x c_x, .slice b_x m_x d_x] 34
    simp only [World.size_alloc] at h_x_3
    have k_p_0 := h_p_3.cell 0 _ rfl
    have k_p_1 := h_p_3.cell 1 _ rfl
    have k_p_2 := h_p_3.cell 2 _ rfl
    have k_p_3 := h_p_3.cell 3 _ rfl
    have k_p_4 := h_p_3.cell 4 _ rfl
    have k_p_5 := h_p_3.cell 5 _ rfl
    have k_p_6 := h_p_3.cell 6 _ rfl
    have k_p_7 := h_p_3.cell 7 _ rfl
    have k_p_8 := h_p_3.cell 8 _ rfl
    have k_p_9 := h_p_3.cell 9 _ rfl
    go_wp2_with fail
    clear k_p_0 k_p_1 k_p_2 k_p_3 k_p_4 k_p_5 k_p_6 k_p_7 k_p_8 k_p_9
    generalize (((w.alloc (.cells (cmC p a_p n_p c_p b_p m_p d_p) 25)).alloc (.cells (cmC q a_q n_q c_q b_q m_q d_q) 25)).alloc (.cells #[.bool g_x, .slice a_x n_x c_x, .slice b_x m_x d_x] 34)) = w3 at *
    have c := cmGreat_any w3 (p := p) h_pl_3 h_pb_3
    rw [e1] at c
    refine c.mono ?_
    rintro e w4 ⟨rfl, hb⟩
    clear c
    have B4 := B3.trans (hb.mono B3.size)
    have h_pl_4 := h_pl_3.below hb
    have h_pb_4 := h_pb_3.below hb
    have h_ql_4 := h_ql_3.below hb
    have h_qb_4 := h_qb_3.below hb
    have h_v_4 := h_v_3.below hb
    have h_xn_4 := h_xn_3.below hb
    have h_xd_4 := h_xd_3.below hb
    have h_p_4 := h_p_3.later hb
    have h_q_4 := h_q_3.later hb
    have h_x_4 := h_x_3.later hb
    clear hb B3 h_pl_3 h_pb_3 h_ql_3 h_qb_3 h_v_3 h_xn_3 h_xd_3 h_p_3 h_q_3 h_x_3
    go_wp2_with fail
    have c := examples_any w4
    refine c.mono ?_
    rintro e w5 ⟨rfl, hb⟩
    clear c
    have B5 := B4.trans (hb.mono B4.size)
    have h_pl_5 := h_pl_4.below hb
    have h_pb_5 := h_pb_4.below hb
    have h_ql_5 := h_ql_4.below hb
    have h_qb_5 := h_qb_4.below hb
    have h_v_5 := h_v_4.below hb
    have h_xn_5 := h_xn_4.below hb
    have h_xd_5 := h_xd_4.below hb
    have h_p_5 := h_p_4.later hb
    have h_q_5 := h_q_4.later hb
    have h_x_5 := h_x_4.later hb
    clear hb B4 h_pl_4 h_pb_4 h_ql_4 h_qb_4 h_v_4 h_xn_4 h_xd_4 h_p_4 h_q_4 h_x_4
    go_wp2_with fail
    go_ret
    exact ⟨rfl, B5⟩
  have E1 := Lib.hid (show greatC p = false by simpa using e1)
  clear e1
  by_cases e2 : greatC q = true
  case pos =>
    go_enter Try.func7, Try.ntmps7
    have hb := below_al w (.cells (cmC p a_p n_p c_p b_p m_p d_p) 25)
    have B1 := B0.trans (hb.mono B0.size)
    have h_pl_1 := h_pl_0.below hb
    have h_pb_1 := h_pb_0.below hb
    have h_ql_1 := h_ql_0.below hb
    have h_qb_1 := h_qb_0.below hb
    have h_v_1 := h_v_0.below hb
    have h_xn_1 := h_xn_0.below hb
    have h_xd_1 := h_xd_0.below hb
    clear hb B0 h_pl_0 h_pb_0 h_ql_0 h_qb_0 h_v_0 h_xn_0 h_xd_0
    have h_p_1 := Has.new w (cmC p a_p n_p c_p b_p m_p d_p) 25
    have hb := below_al (w.alloc (.cells (cmC p a_p n_p c_p b_p m_p d_p) 25)) (.cells (cmC q a_q n_q c_q b_q m_q d_q) 25)
    have B2 := B1.trans (hb.mono B1.size)
    have h_pl_2 := h_pl_1.below hb
    have h_pb_2 := h_pb_1.below hb
    have h_ql_2 := h_ql_1.below hb
    have h_qb_2 := h_qb_1.below hb
    have h_v_2 := h_v_1.below hb
    have h_xn_2 := h_xn_1.below hb
    have h_xd_2 := h_xd_1.below hb
    have h_p_2 := h_p_1.later hb
    clear hb B1 h_pl_1 h_pb_1 h_ql_1 h_qb_1 h_v_1 h_xn_1 h_xd_1 h_p_1
    have h_q_2 := Has.new (w.alloc (.cells (cmC p a_p n_p c_p b_p m_p d_p) 25)) (cmC q a_q n_q c_q b_q m_q d_q) 25
    simp only [World.size_alloc] at h_q_2
    have hb := below_al ((w.alloc (.cells (cmC p a_p n_p c_p b_p m_p d_p) 25)).alloc (.cells (cmC q a_q n_q c_q b_q m_q d_q) 25)) (.cells #[.bool g_x, .slice a_x n_x c_x, .slice b_x m_x d_x] 34)
    have B3 := B2.trans (hb.mono B2.size)
    have h_pl_3 := h_pl_2.below hb
    have h_pb_3 := h_pb_2.below hb
    have h_ql_3 := h_ql_2.below hb
    have h_qb_3 := h_qb_2.below hb
    have h_v_3 := h_v_2.below hb
    have h_xn_3 := h_xn_2.below hb
    have h_xd_3 := h_xd_2.below hb
    have h_p_3 := h_p_2.later hb
    have h_q_3 := h_q_2.later hb
    clear hb B2 h_pl_2 h_pb_2 h_ql_2 h_qb_2 h_v_2 h_xn_2 h_xd_2 h_p_2 h_q_2
    have h_x_3 := Has.new ((w.alloc (.cells (cmC p a_p n_p c_p b_p m_p d_p) 25)).alloc (.cells (cmC q a_q n_q c_q b_q m_q d_q) 25)) #[.bool g_x, .slice a_x n_x c_x, .slice b_x m_x d_x] 34
    simp only [World.size_alloc] at h_x_3
    have k_p_0 := h_p_3.cell 0 _ rfl
    have k_p_1 := h_p_3.cell 1 _ rfl
    have k_p_2 := h_p_3.cell 2 _ rfl
    have k_p_3 := h_p_3.cell 3 _ rfl
    have k_p_4 := h_p_3.cell 4 _ rfl
    have k_p_5 := h_p_3.cell 5 _ rfl
    have k_p_6 := h_p_3.cell 6 _ rfl
    have k_p_7 := h_p_3.cell 7 _ rfl
    have k_p_8 := h_p_3.cell 8 _ rfl
    have k_p_9 := h_p_3.cell 9 _ rfl
    go_wp2_with fail
    clear k_p_0 k_p_1 k_p_2 k_p_3 k_p_4 k_p_5 k_p_6 k_p_7 k_p_8 k_p_9
    generalize (((w.alloc (.cells (cmC p a_p n_p c_p b_p m_p d_p) 25)).alloc (.cells (cmC q a_q n_q c_q b_q m_q d_q) 25)).alloc (.cells #[.bool g_x, .slice a_x n_x c_x, .slice b_x m_x d_x] 34)) = w3 at *
    have c := cmGreat_any w3 (p := p) h_pl_3 h_pb_3
    rw [E1.out] at c
    refine c.mono ?_
    rintro e w4 ⟨rfl, hb⟩
    clear c
    have B4 := B3.trans (hb.mono B3.size)
    have h_pl_4 := h_pl_3.below hb
    have h_pb_4 := h_pb_3.below hb
    have h_ql_4 := h_ql_3.below hb
    have h_qb_4 := h_qb_3.below hb
    have h_v_4 := h_v_3.below hb
    have h_xn_4 := h_xn_3.below hb
    have h_xd_4 := h_xd_3.below hb
    have h_p_4 := h_p_3.later hb
    have h_q_4 := h_q_3.later hb
    have h_x_4 := h_x_3.later hb
    clear hb B3 h_pl_3 h_pb_3 h_ql_3 h_qb_3 h_v_3 h_xn_3 h_xd_3 h_p_3 h_q_3 h_x_3
    have k_q_0 := h_q_4.cell 0 _ rfl
    have k_q_1 := h_q_4.cell 1 _ rfl
    have k_q_2 := h_q_4.cell 2 _ rfl
    have k_q_3 := h_q_4.cell 3 _ rfl
    have k_q_4 := h_q_4.cell 4 _ rfl
    have k_q_5 := h_q_4.cell 5 _ rfl
    have k_q_6 := h_q_4.cell 6 _ rfl
    have k_q_7 := h_q_4.cell 7 _ rfl
    have k_q_8 := h_q_4.cell 8 _ rfl
    have k_q_9 := h_q_4.cell 9 _ rfl
    go_wp2_with fail
    clear k_q_0 k_q_1 k_q_2 k_q_3 k_q_4 k_q_5 k_q_6 k_q_7 k_q_8 k_q_9
    have c := cmGreat_any w4 (p := q) h_ql_4 h_qb_4
    rw [e2] at c
    refine c.mono ?_
    rintro e w5 ⟨rfl, hb⟩
    clear c
    have B5 := B4.trans (hb.mono B4.size)
    have h_pl_5 := h_pl_4.below hb
    have h_pb_5 := h_pb_4.below hb
    have h_ql_5 := h_ql_4.below hb
    have h_qb_5 := h_qb_4.below hb
    have h_v_5 := h_v_4.below hb
    have h_xn_5 := h_xn_4.below hb
    have h_xd_5 := h_xd_4.below hb
    have h_p_5 := h_p_4.later hb
    have h_q_5 := h_q_4.later hb
    have h_x_5 := h_x_4.later hb
    clear hb B4 h_pl_4 h_pb_4 h_ql_4 h_qb_4 h_v_4 h_xn_4 h_xd_4 h_p_4 h_q_4 h_x_4
    go_wp2_with fail
    have c := examples_any w5
    refine c.mono ?_
    rintro e w6 ⟨rfl, hb⟩
    clear c
    have B6 := B5.trans (hb.mono B5.size)
    have h_pl_6 := h_pl_5.below hb
    have h_pb_6 := h_pb_5.below hb
    have h_ql_6 := h_ql_5.below hb
    have h_qb_6 := h_qb_5.below hb
    have h_v_6 := h_v_5.below hb
    have h_xn_6 := h_xn_5.below hb
    have h_xd_6 := h_xd_5.below hb
    have h_p_6 := h_p_5.later hb
    have h_q_6 := h_q_5.later hb
    have h_x_6 := h_x_5.later hb
    clear hb B5 h_pl_5 h_pb_5 h_ql_5 h_qb_5 h_v_5 h_xn_5 h_xd_5 h_p_5 h_q_5 h_x_5
    go_wp2_with fail
    go_ret
    exact ⟨rfl, B6⟩
  have E2 := Lib.hid (show greatC q = false by simpa using e2)
  clear e2
  by_cases e3 : 100 < n_v
  case pos =>
    have d3 : decide ((100 : Int) < (n_v : Int)) = true := decide_eq_true (by omega)
    clear e3
    go_enter Try.func7, Try.ntmps7
    have hb := below_al w (.cells (cmC p a_p n_p c_p b_p m_p d_p) 25)
    have B1 := B0.trans (hb.mono B0.size)
    have h_pl_1 := h_pl_0.below hb
    have h_pb_1 := h_pb_0.below hb
    have h_ql_1 := h_ql_0.below hb
    have h_qb_1 := h_qb_0.below hb
    have h_v_1 := h_v_0.below hb
    have h_xn_1 := h_xn_0.below hb
    have h_xd_1 := h_xd_0.below hb
    clear hb B0 h_pl_0 h_pb_0 h_ql_0 h_qb_0 h_v_0 h_xn_0 h_xd_0
    have h_p_1 := Has.new w (cmC p a_p n_p c_p b_p m_p d_p) 25
    have hb := below_al (w.alloc (.cells (cmC p a_p n_p c_p b_p m_p d_p) 25)) (.cells (cmC q a_q n_q c_q b_q m_q d_q) 25)
    have B2 := B1.trans (hb.mono B1.size)
    have h_pl_2 := h_pl_1.below hb
    have h_pb_2 := h_pb_1.below hb
    have h_ql_2 := h_ql_1.below hb
    have h_qb_2 := h_qb_1.below hb
    have h_v_2 := h_v_1.below hb
    have h_xn_2 := h_xn_1.below hb
    have h_xd_2 := h_xd_1.below hb
    have h_p_2 := h_p_1.later hb
    clear hb B1 h_pl_1 h_pb_1 h_ql_1 h_qb_1 h_v_1 h_xn_1 h_xd_1 h_p_1
    have h_q_2 := Has.new (w.alloc (.cells (cmC p a_p n_p c_p b_p m_p d_p) 25)) (cmC q a_q n_q c_q b_q m_q d_q) 25
    simp only [World.size_alloc] at h_q_2
    have hb := below_al ((w.alloc (.cells (cmC p a_p n_p c_p b_p m_p d_p) 25)).alloc (.cells (cmC q a_q n_q c_q b_q m_q d_q) 25)) (.cells #[.bool g_x, .slice a_x n_x c_x, .slice b_x m_x d_x] 34)
    have B3 := B2.trans (hb.mono B2.size)
    have h_pl_3 := h_pl_2.below hb
    have h_pb_3 := h_pb_2.below hb
    have h_ql_3 := h_ql_2.below hb
    have h_qb_3 := h_qb_2.below hb
    have h_v_3 := h_v_2.below hb
    have h_xn_3 := h_xn_2.below hb
    have h_xd_3 := h_xd_2.below hb
    have h_p_3 := h_p_2.later hb
    have h_q_3 := h_q_2.later hb
    clear hb B2 h_pl_2 h_pb_2 h_ql_2 h_qb_2 h_v_2 h_xn_2 h_xd_2 h_p_2 h_q_2
    have h_x_3 := Has.new ((w.alloc (.cells (cmC p a_p n_p c_p b_p m_p d_p) 25)).alloc (.cells (cmC q a_q n_q c_q b_q m_q d_q) 25)) #[.bool g_x, .slice a_x n_x c_x, .slice b_x m_x d_x] 34
    simp only [World.size_alloc] at h_x_3
    have k_p_0 := h_p_3.cell 0 _ rfl
    have k_p_1 := h_p_3.cell 1 _ rfl
    have k_p_2 := h_p_3.cell 2 _ rfl
    have k_p_3 := h_p_3.cell 3 _ rfl
    have k_p_4 := h_p_3.cell 4 _ rfl
    have k_p_5 := h_p_3.cell 5 _ rfl
    have k_p_6 := h_p_3.cell 6 _ rfl
    have k_p_7 := h_p_3.cell 7 _ rfl
    have k_p_8 := h_p_3.cell 8 _ rfl
    have k_p_9 := h_p_3.cell 9 _ rfl
    go_wp2_with fail
    clear k_p_0 k_p_1 k_p_2 k_p_3 k_p_4 k_p_5 k_p_6 k_p_7 k_p_8 k_p_9
    generalize (((w.alloc (.cells (cmC p a_p n_p c_p b_p m_p d_p) 25)).alloc (.cells (cmC q a_q n_q c_q b_q m_q d_q) 25)).alloc (.cells #[.bool g_x, .slice a_x n_x c_x, .slice b_x m_x d_x] 34)) = w3 at *
    have c := cmGreat_any w3 (p := p) h_pl_3 h_pb_3
    rw [E1.out] at c
    refine c.mono ?_
    rintro e w4 ⟨rfl, hb⟩
    clear c
    have B4 := B3.trans (hb.mono B3.size)
    have h_pl_4 := h_pl_3.below hb
    have h_pb_4 := h_pb_3.below hb
    have h_ql_4 := h_ql_3.below hb
    have h_qb_4 := h_qb_3.below hb
    have h_v_4 := h_v_3.below hb
    have h_xn_4 := h_xn_3.below hb
    have h_xd_4 := h_xd_3.below hb
    have h_p_4 := h_p_3.later hb
    have h_q_4 := h_q_3.later hb
    have h_x_4 := h_x_3.later hb
    clear hb B3 h_pl_3 h_pb_3 h_ql_3 h_qb_3 h_v_3 h_xn_3 h_xd_3 h_p_3 h_q_3 h_x_3
    have k_q_0 := h_q_4.cell 0 _ rfl
    have k_q_1 := h_q_4.cell 1 _ rfl
    have k_q_2 := h_q_4.cell 2 _ rfl
    have k_q_3 := h_q_4.cell 3 _ rfl
    have k_q_4 := h_q_4.cell 4 _ rfl
    have k_q_5 := h_q_4.cell 5 _ rfl
    have k_q_6 := h_q_4.cell 6 _ rfl
    have k_q_7 := h_q_4.cell 7 _ rfl
    have k_q_8 := h_q_4.cell 8 _ rfl
    have k_q_9 := h_q_4.cell 9 _ rfl
    go_wp2_with fail
    clear k_q_0 k_q_1 k_q_2 k_q_3 k_q_4 k_q_5 k_q_6 k_q_7 k_q_8 k_q_9
    have c := cmGreat_any w4 (p := q) h_ql_4 h_qb_4
    rw [E2.out] at c
    refine c.mono ?_
    rintro e w5 ⟨rfl, hb⟩
    clear c
    have B5 := B4.trans (hb.mono B4.size)
    have h_pl_5 := h_pl_4.below hb
    have h_pb_5 := h_pb_4.below hb
    have h_ql_5 := h_ql_4.below hb
    have h_qb_5 := h_qb_4.below hb
    have h_v_5 := h_v_4.below hb
    have h_xn_5 := h_xn_4.below hb
    have h_xd_5 := h_xd_4.below hb
    have h_p_5 := h_p_4.later hb
    have h_q_5 := h_q_4.later hb
    have h_x_5 := h_x_4.later hb
    clear hb B4 h_pl_4 h_pb_4 h_ql_4 h_qb_4 h_v_4 h_xn_4 h_xd_4 h_p_4 h_q_4 h_x_4
    go_wp2_with fail
    have c := examples_any w5
    refine c.mono ?_
    rintro e w6 ⟨rfl, hb⟩
    clear c
    have B6 := B5.trans (hb.mono B5.size)
    have h_pl_6 := h_pl_5.below hb
    have h_pb_6 := h_pb_5.below hb
    have h_ql_6 := h_ql_5.below hb
    have h_qb_6 := h_qb_5.below hb
    have h_v_6 := h_v_5.below hb
    have h_xn_6 := h_xn_5.below hb
    have h_xd_6 := h_xd_5.below hb
    have h_p_6 := h_p_5.later hb
    have h_q_6 := h_q_5.later hb
    have h_x_6 := h_x_5.later hb
    clear hb B5 h_pl_5 h_pb_5 h_ql_5 h_qb_5 h_v_5 h_xn_5 h_xd_5 h_p_5 h_q_5 h_x_5
    go_wp2_with fail
    go_ret
    exact ⟨rfl, B6⟩
  have d3 : decide ((100 : Int) < (n_v : Int)) = false := decide_eq_false (by omega)
  clear e3
  by_cases e4 : longV ⟨g_x, xn, xd⟩ = true
  case pos =>
    go_enter Try.func7, Try.ntmps7
    have hb := below_al w (.cells (cmC p a_p n_p c_p b_p m_p d_p) 25)
    have B1 := B0.trans (hb.mono B0.size)
    have h_pl_1 := h_pl_0.below hb
    have h_pb_1 := h_pb_0.below hb
    have h_ql_1 := h_ql_0.below hb
    have h_qb_1 := h_qb_0.below hb
    have h_v_1 := h_v_0.below hb
    have h_xn_1 := h_xn_0.below hb
    have h_xd_1 := h_xd_0.below hb
    clear hb B0 h_pl_0 h_pb_0 h_ql_0 h_qb_0 h_v_0 h_xn_0 h_xd_0
    have h_p_1 := Has.new w (cmC p a_p n_p c_p b_p m_p d_p) 25
    have hb := below_al (w.alloc (.cells (cmC p a_p n_p c_p b_p m_p d_p) 25)) (.cells (cmC q a_q n_q c_q b_q m_q d_q) 25)
    have B2 := B1.trans (hb.mono B1.size)
    have h_pl_2 := h_pl_1.below hb
    have h_pb_2 := h_pb_1.below hb
    have h_ql_2 := h_ql_1.below hb
    have h_qb_2 := h_qb_1.below hb
    have h_v_2 := h_v_1.below hb
    have h_xn_2 := h_xn_1.below hb
    have h_xd_2 := h_xd_1.below hb
    have h_p_2 := h_p_1.later hb
    clear hb B1 h_pl_1 h_pb_1 h_ql_1 h_qb_1 h_v_1 h_xn_1 h_xd_1 h_p_1
    have h_q_2 := Has.new (w.alloc (.cells (cmC p a_p n_p c_p b_p m_p d_p) 25)) (cmC q a_q n_q c_q b_q m_q d_q) 25
    simp only [World.size_alloc] at h_q_2
    have hb := below_al ((w.alloc (.cells (cmC p a_p n_p c_p b_p m_p d_p) 25)).alloc (.cells (cmC q a_q n_q c_q b_q m_q d_q) 25)) (.cells #[.bool g_x, .slice a_x n_x c_x, .slice b_x m_x d_x] 34)
    have B3 := B2.trans (hb.mono B2.size)
    have h_pl_3 := h_pl_2.below hb
    have h_pb_3 := h_pb_2.below hb
    have h_ql_3 := h_ql_2.below hb
    have h_qb_3 := h_qb_2.below hb
    have h_v_3 := h_v_2.below hb
    have h_xn_3 := h_xn_2.below hb
    have h_xd_3 := h_xd_2.below hb
    have h_p_3 := h_p_2.later hb
    have h_q_3 := h_q_2.later hb
    clear hb B2 h_pl_2 h_pb_2 h_ql_2 h_qb_2 h_v_2 h_xn_2 h_xd_2 h_p_2 h_q_2
    have h_x_3 := Has.new ((w.alloc (.cells (cmC p a_p n_p c_p b_p m_p d_p) 25)).alloc (.cells (cmC q a_q n_q c_q b_q m_q d_q) 25)) #[.bool g_x, .slice a_x n_x c_x, .slice b_x m_x d_x] 34
    simp only [World.size_alloc] at h_x_3
    have k_p_0 := h_p_3.cell 0 _ rfl
    have k_p_1 := h_p_3.cell 1 _ rfl
    have k_p_2 := h_p_3.cell 2 _ rfl
    have k_p_3 := h_p_3.cell 3 _ rfl
    have k_p_4 := h_p_3.cell 4 _ rfl
    have k_p_5 := h_p_3.cell 5 _ rfl
    have k_p_6 := h_p_3.cell 6 _ rfl
    have k_p_7 := h_p_3.cell 7 _ rfl
    have k_p_8 := h_p_3.cell 8 _ rfl
    have k_p_9 := h_p_3.cell 9 _ rfl
    go_wp2_with fail
    clear k_p_0 k_p_1 k_p_2 k_p_3 k_p_4 k_p_5 k_p_6 k_p_7 k_p_8 k_p_9
    generalize (((w.alloc (.cells (cmC p a_p n_p c_p b_p m_p d_p) 25)).alloc (.cells (cmC q a_q n_q c_q b_q m_q d_q) 25)).alloc (.cells #[.bool g_x, .slice a_x n_x c_x, .slice b_x m_x d_x] 34)) = w3 at *
    have c := cmGreat_any w3 (p := p) h_pl_3 h_pb_3
    rw [E1.out] at c
    refine c.mono ?_
    rintro e w4 ⟨rfl, hb⟩
    clear c
    have B4 := B3.trans (hb.mono B3.size)
    have h_pl_4 := h_pl_3.below hb
    have h_pb_4 := h_pb_3.below hb
    have h_ql_4 := h_ql_3.below hb
    have h_qb_4 := h_qb_3.below hb
    have h_v_4 := h_v_3.below hb
    have h_xn_4 := h_xn_3.below hb
    have h_xd_4 := h_xd_3.below hb
    have h_p_4 := h_p_3.later hb
    have h_q_4 := h_q_3.later hb
    have h_x_4 := h_x_3.later hb
    clear hb B3 h_pl_3 h_pb_3 h_ql_3 h_qb_3 h_v_3 h_xn_3 h_xd_3 h_p_3 h_q_3 h_x_3
    have k_q_0 := h_q_4.cell 0 _ rfl
    have k_q_1 := h_q_4.cell 1 _ rfl
    have k_q_2 := h_q_4.cell 2 _ rfl
    have k_q_3 := h_q_4.cell 3 _ rfl
    have k_q_4 := h_q_4.cell 4 _ rfl
    have k_q_5 := h_q_4.cell 5 _ rfl
    have k_q_6 := h_q_4.cell 6 _ rfl
    have k_q_7 := h_q_4.cell 7 _ rfl
    have k_q_8 := h_q_4.cell 8 _ rfl
    have k_q_9 := h_q_4.cell 9 _ rfl
    go_wp2_with fail
    clear k_q_0 k_q_1 k_q_2 k_q_3 k_q_4 k_q_5 k_q_6 k_q_7 k_q_8 k_q_9
    have c := cmGreat_any w4 (p := q) h_ql_4 h_qb_4
    rw [E2.out] at c
    refine c.mono ?_
    rintro e w5 ⟨rfl, hb⟩
    clear c
    have B5 := B4.trans (hb.mono B4.size)
    have h_pl_5 := h_pl_4.below hb
    have h_pb_5 := h_pb_4.below hb
    have h_ql_5 := h_ql_4.below hb
    have h_qb_5 := h_qb_4.below hb
    have h_v_5 := h_v_4.below hb
    have h_xn_5 := h_xn_4.below hb
    have h_xd_5 := h_xd_4.below hb
    have h_p_5 := h_p_4.later hb
    have h_q_5 := h_q_4.later hb
    have h_x_5 := h_x_4.later hb
    clear hb B4 h_pl_4 h_pb_4 h_ql_4 h_qb_4 h_v_4 h_xn_4 h_xd_4 h_p_4 h_q_4 h_x_4
    have k_x_0 := h_x_5.cell 0 _ rfl
    have k_x_1 := h_x_5.cell 1 _ rfl
    have k_x_2 := h_x_5.cell 2 _ rfl
    go_wp2_with fail
    clear k_x_0 k_x_1 k_x_2
    have c := refRatLong_any w5 (neg := g_x) h_xn_5 h_xd_5
    rw [e4] at c
    refine c.mono ?_
    rintro e w6 ⟨rfl, hb⟩
    clear c
    have B6 := B5.trans (hb.mono B5.size)
    have h_pl_6 := h_pl_5.below hb
    have h_pb_6 := h_pb_5.below hb
    have h_ql_6 := h_ql_5.below hb
    have h_qb_6 := h_qb_5.below hb
    have h_v_6 := h_v_5.below hb
    have h_xn_6 := h_xn_5.below hb
    have h_xd_6 := h_xd_5.below hb
    have h_p_6 := h_p_5.later hb
    have h_q_6 := h_q_5.later hb
    have h_x_6 := h_x_5.later hb
    clear hb B5 h_pl_5 h_pb_5 h_ql_5 h_qb_5 h_v_5 h_xn_5 h_xd_5 h_p_5 h_q_5 h_x_5
    go_wp2_with fail
    have c := examples_any w6
    refine c.mono ?_
    rintro e w7 ⟨rfl, hb⟩
    clear c
    have B7 := B6.trans (hb.mono B6.size)
    have h_pl_7 := h_pl_6.below hb
    have h_pb_7 := h_pb_6.below hb
    have h_ql_7 := h_ql_6.below hb
    have h_qb_7 := h_qb_6.below hb
    have h_v_7 := h_v_6.below hb
    have h_xn_7 := h_xn_6.below hb
    have h_xd_7 := h_xd_6.below hb
    have h_p_7 := h_p_6.later hb
    have h_q_7 := h_q_6.later hb
    have h_x_7 := h_x_6.later hb
    clear hb B6 h_pl_6 h_pb_6 h_ql_6 h_qb_6 h_v_6 h_xn_6 h_xd_6 h_p_6 h_q_6 h_x_6
    go_wp2_with fail
    go_ret
    exact ⟨rfl, B7⟩
  have E4 := Lib.hid (show longV ⟨g_x, xn, xd⟩ = false by simpa using e4)
  clear e4
  go_enter Try.func7, Try.ntmps7
  have hb := below_al w (.cells (cmC p a_p n_p c_p b_p m_p d_p) 25)
  have B1 := B0.trans (hb.mono B0.size)
  have h_pl_1 := h_pl_0.below hb
  have h_pb_1 := h_pb_0.below hb
  have h_ql_1 := h_ql_0.below hb
  have h_qb_1 := h_qb_0.below hb
  have h_v_1 := h_v_0.below hb
  have h_xn_1 := h_xn_0.below hb
  have h_xd_1 := h_xd_0.below hb
  clear hb B0 h_pl_0 h_pb_0 h_ql_0 h_qb_0 h_v_0 h_xn_0 h_xd_0
  have h_p_1 := Has.new w (cmC p a_p n_p c_p b_p m_p d_p) 25
  have hb := below_al (w.alloc (.cells (cmC p a_p n_p c_p b_p m_p d_p) 25)) (.cells (cmC q a_q n_q c_q b_q m_q d_q) 25)
  have B2 := B1.trans (hb.mono B1.size)
  have h_pl_2 := h_pl_1.below hb
  have h_pb_2 := h_pb_1.below hb
  have h_ql_2 := h_ql_1.below hb
  have h_qb_2 := h_qb_1.below hb
  have h_v_2 := h_v_1.below hb
  have h_xn_2 := h_xn_1.below hb
  have h_xd_2 := h_xd_1.below hb
  have h_p_2 := h_p_1.later hb
  clear hb B1 h_pl_1 h_pb_1 h_ql_1 h_qb_1 h_v_1 h_xn_1 h_xd_1 h_p_1
  have h_q_2 := Has.new (w.alloc (.cells (cmC p a_p n_p c_p b_p m_p d_p) 25)) (cmC q a_q n_q c_q b_q m_q d_q) 25
  simp only [World.size_alloc] at h_q_2
  have hb := below_al ((w.alloc (.cells (cmC p a_p n_p c_p b_p m_p d_p) 25)).alloc (.cells (cmC q a_q n_q c_q b_q m_q d_q) 25)) (.cells #[.bool g_x, .slice a_x n_x c_x, .slice b_x m_x d_x] 34)
  have B3 := B2.trans (hb.mono B2.size)
  have h_pl_3 := h_pl_2.below hb
  have h_pb_3 := h_pb_2.below hb
  have h_ql_3 := h_ql_2.below hb
  have h_qb_3 := h_qb_2.below hb
  have h_v_3 := h_v_2.below hb
  have h_xn_3 := h_xn_2.below hb
  have h_xd_3 := h_xd_2.below hb
  have h_p_3 := h_p_2.later hb
  have h_q_3 := h_q_2.later hb
  clear hb B2 h_pl_2 h_pb_2 h_ql_2 h_qb_2 h_v_2 h_xn_2 h_xd_2 h_p_2 h_q_2
  have h_x_3 := Has.new ((w.alloc (.cells (cmC p a_p n_p c_p b_p m_p d_p) 25)).alloc (.cells (cmC q a_q n_q c_q b_q m_q d_q) 25)) #[.bool g_x, .slice a_x n_x c_x, .slice b_x m_x d_x] 34
  simp only [World.size_alloc] at h_x_3
  have k_p_0 := h_p_3.cell 0 _ rfl
  have k_p_1 := h_p_3.cell 1 _ rfl
  have k_p_2 := h_p_3.cell 2 _ rfl
  have k_p_3 := h_p_3.cell 3 _ rfl
  have k_p_4 := h_p_3.cell 4 _ rfl
  have k_p_5 := h_p_3.cell 5 _ rfl
  have k_p_6 := h_p_3.cell 6 _ rfl
  have k_p_7 := h_p_3.cell 7 _ rfl
  have k_p_8 := h_p_3.cell 8 _ rfl
  have k_p_9 := h_p_3.cell 9 _ rfl
  go_wp2_with fail
  clear k_p_0 k_p_1 k_p_2 k_p_3 k_p_4 k_p_5 k_p_6 k_p_7 k_p_8 k_p_9
  generalize (((w.alloc (.cells (cmC p a_p n_p c_p b_p m_p d_p) 25)).alloc (.cells (cmC q a_q n_q c_q b_q m_q d_q) 25)).alloc (.cells #[.bool g_x, .slice a_x n_x c_x, .slice b_x m_x d_x] 34)) = w3 at *
  have c := cmGreat_any w3 (p := p) h_pl_3 h_pb_3
  rw [E1.out] at c
  refine c.mono ?_
  rintro e w4 ⟨rfl, hb⟩
  clear c
  have B4 := B3.trans (hb.mono B3.size)
  have h_pl_4 := h_pl_3.below hb
  have h_pb_4 := h_pb_3.below hb
  have h_ql_4 := h_ql_3.below hb
  have h_qb_4 := h_qb_3.below hb
  have h_v_4 := h_v_3.below hb
  have h_xn_4 := h_xn_3.below hb
  have h_xd_4 := h_xd_3.below hb
  have h_p_4 := h_p_3.later hb
  have h_q_4 := h_q_3.later hb
  have h_x_4 := h_x_3.later hb
  clear hb B3 h_pl_3 h_pb_3 h_ql_3 h_qb_3 h_v_3 h_xn_3 h_xd_3 h_p_3 h_q_3 h_x_3
  have k_q_0 := h_q_4.cell 0 _ rfl
  have k_q_1 := h_q_4.cell 1 _ rfl
  have k_q_2 := h_q_4.cell 2 _ rfl
  have k_q_3 := h_q_4.cell 3 _ rfl
  have k_q_4 := h_q_4.cell 4 _ rfl
  have k_q_5 := h_q_4.cell 5 _ rfl
  have k_q_6 := h_q_4.cell 6 _ rfl
  have k_q_7 := h_q_4.cell 7 _ rfl
  have k_q_8 := h_q_4.cell 8 _ rfl
  have k_q_9 := h_q_4.cell 9 _ rfl
  go_wp2_with fail
  clear k_q_0 k_q_1 k_q_2 k_q_3 k_q_4 k_q_5 k_q_6 k_q_7 k_q_8 k_q_9
  have c := cmGreat_any w4 (p := q) h_ql_4 h_qb_4
  rw [E2.out] at c
  refine c.mono ?_
  rintro e w5 ⟨rfl, hb⟩
  clear c
  have B5 := B4.trans (hb.mono B4.size)
  have h_pl_5 := h_pl_4.below hb
  have h_pb_5 := h_pb_4.below hb
  have h_ql_5 := h_ql_4.below hb
  have h_qb_5 := h_qb_4.below hb
  have h_v_5 := h_v_4.below hb
  have h_xn_5 := h_xn_4.below hb
  have h_xd_5 := h_xd_4.below hb
  have h_p_5 := h_p_4.later hb
  have h_q_5 := h_q_4.later hb
  have h_x_5 := h_x_4.later hb
  clear hb B4 h_pl_4 h_pb_4 h_ql_4 h_qb_4 h_v_4 h_xn_4 h_xd_4 h_p_4 h_q_4 h_x_4
  have k_x_0 := h_x_5.cell 0 _ rfl
  have k_x_1 := h_x_5.cell 1 _ rfl
  have k_x_2 := h_x_5.cell 2 _ rfl
  go_wp2_with fail
  clear k_x_0 k_x_1 k_x_2
  have c := refRatLong_any w5 (neg := g_x) h_xn_5 h_xd_5
  rw [E4.out] at c
  refine c.mono ?_
  rintro e w6 ⟨rfl, hb⟩
  clear c
  have B6 := B5.trans (hb.mono B5.size)
  have h_pl_6 := h_pl_5.below hb
  have h_pb_6 := h_pb_5.below hb
  have h_ql_6 := h_ql_5.below hb
  have h_qb_6 := h_qb_5.below hb
  have h_v_6 := h_v_5.below hb
  have h_xn_6 := h_xn_5.below hb
  have h_xd_6 := h_xd_5.below hb
  have h_p_6 := h_p_5.later hb
  have h_q_6 := h_q_5.later hb
  have h_x_6 := h_x_5.later hb
  clear hb B5 h_pl_5 h_pb_5 h_ql_5 h_qb_5 h_v_5 h_xn_5 h_xd_5 h_p_5 h_q_5 h_x_5
  go_wp2_with fail
  have c := cmNew_any w6 bet bal mar
  refine c.mono ?_
  rintro e w7 ⟨a_a, n_a, c_a, b_a, m_a, d_a, rfl, h_al_7, h_ab_7, hb⟩
  clear c
  have B7 := B6.trans (hb.mono B6.size)
  have h_pl_7 := h_pl_6.below hb
  have h_pb_7 := h_pb_6.below hb
  have h_ql_7 := h_ql_6.below hb
  have h_qb_7 := h_qb_6.below hb
  have h_v_7 := h_v_6.below hb
  have h_xn_7 := h_xn_6.below hb
  have h_xd_7 := h_xd_6.below hb
  have h_p_7 := h_p_6.later hb
  have h_q_7 := h_q_6.later hb
  have h_x_7 := h_x_6.later hb
  clear hb B6 h_pl_6 h_pb_6 h_ql_6 h_qb_6 h_v_6 h_xn_6 h_xd_6 h_p_6 h_q_6 h_x_6
  have hb := below_al w7 (.cells (cmC (newCC bet bal mar).1 a_a n_a c_a b_a m_a d_a) 25)
  have B8 := B7.trans (hb.mono B7.size)
  have h_pl_8 := h_pl_7.below hb
  have h_pb_8 := h_pb_7.below hb
  have h_ql_8 := h_ql_7.below hb
  have h_qb_8 := h_qb_7.below hb
  have h_v_8 := h_v_7.below hb
  have h_xn_8 := h_xn_7.below hb
  have h_xd_8 := h_xd_7.below hb
  have h_p_8 := h_p_7.later hb
  have h_q_8 := h_q_7.later hb
  have h_x_8 := h_x_7.later hb
  have h_al_8 := h_al_7.below hb
  have h_ab_8 := h_ab_7.below hb
  clear hb B7 h_pl_7 h_pb_7 h_ql_7 h_qb_7 h_v_7 h_xn_7 h_xd_7 h_p_7 h_q_7 h_x_7 h_al_7 h_ab_7
  have h_a_8 := Has.new w7 (cmC (newCC bet bal mar).1 a_a n_a c_a b_a m_a d_a) 25
  go_wp2_with first | refine wpList_store_new rfl 25 _ _ rfl atCmp _ _ _ rfl rfl rfl rfl (cm_one (newCC bet bal mar).1 _ _ _ _ _ _) ?_
  generalize (w7.alloc (.cells (cmC (newCC bet bal mar).1 a_a n_a c_a b_a m_a d_a) 25)) = w8 at *
  have c := refCmNew_any w8 bet bal mar
  refine c.mono ?_
  rintro e w9 ⟨a_b, n_b, c_b, b_b, m_b, d_b, rfl, h_bl_9, h_bb_9, hb⟩
  clear c
  have B9 := B8.trans (hb.mono B8.size)
  have h_pl_9 := h_pl_8.below hb
  have h_pb_9 := h_pb_8.below hb
  have h_ql_9 := h_ql_8.below hb
  have h_qb_9 := h_qb_8.below hb
  have h_v_9 := h_v_8.below hb
  have h_xn_9 := h_xn_8.below hb
  have h_xd_9 := h_xd_8.below hb
  have h_p_9 := h_p_8.later hb
  have h_q_9 := h_q_8.later hb
  have h_x_9 := h_x_8.later hb
  have h_al_9 := h_al_8.below hb
  have h_ab_9 := h_ab_8.below hb
  have h_a_9 := h_a_8.later hb
  clear hb B8 h_pl_8 h_pb_8 h_ql_8 h_qb_8 h_v_8 h_xn_8 h_xd_8 h_p_8 h_q_8 h_x_8 h_al_8 h_ab_8 h_a_8
  have hb := below_al w9 (.cells (cmC (newCC bet bal mar).1 a_b n_b c_b b_b m_b d_b) 25)
  have B10 := B9.trans (hb.mono B9.size)
  have h_pl_10 := h_pl_9.below hb
  have h_pb_10 := h_pb_9.below hb
  have h_ql_10 := h_ql_9.below hb
  have h_qb_10 := h_qb_9.below hb
  have h_v_10 := h_v_9.below hb
  have h_xn_10 := h_xn_9.below hb
  have h_xd_10 := h_xd_9.below hb
  have h_p_10 := h_p_9.later hb
  have h_q_10 := h_q_9.later hb
  have h_x_10 := h_x_9.later hb
  have h_al_10 := h_al_9.below hb
  have h_ab_10 := h_ab_9.below hb
  have h_a_10 := h_a_9.later hb
  have h_bl_10 := h_bl_9.below hb
  have h_bb_10 := h_bb_9.below hb
  clear hb B9 h_pl_9 h_pb_9 h_ql_9 h_qb_9 h_v_9 h_xn_9 h_xd_9 h_p_9 h_q_9 h_x_9 h_al_9 h_ab_9 h_a_9 h_bl_9 h_bb_9
  have h_b_10 := Has.new w9 (cmC (newCC bet bal mar).1 a_b n_b c_b b_b m_b d_b) 25
  have k_p_0 := h_p_10.cell 0 _ rfl
  have k_p_1 := h_p_10.cell 1 _ rfl
  have k_p_2 := h_p_10.cell 2 _ rfl
  have k_p_3 := h_p_10.cell 3 _ rfl
  have k_p_4 := h_p_10.cell 4 _ rfl
  have k_p_5 := h_p_10.cell 5 _ rfl
  have k_p_6 := h_p_10.cell 6 _ rfl
  have k_p_7 := h_p_10.cell 7 _ rfl
  have k_p_8 := h_p_10.cell 8 _ rfl
  have k_p_9 := h_p_10.cell 9 _ rfl
  go_wp2_with first | refine wpList_store_new rfl 25 _ _ rfl atCmp _ _ _ rfl rfl rfl rfl (cm_one (newCC bet bal mar).1 _ _ _ _ _ _) ?_
  clear k_p_0 k_p_1 k_p_2 k_p_3 k_p_4 k_p_5 k_p_6 k_p_7 k_p_8 k_p_9
  generalize (w9.alloc (.cells (cmC (newCC bet bal mar).1 a_b n_b c_b b_b m_b d_b) 25)) = w10 at *
  have c := cmObserve_any w10 h_pl_10 h_pb_10 pw_p h_v_10
  refine c.mono ?_
  rintro e w11 ⟨a_c, n_c, c_c, b_c, m_c, d_c, rfl, h_cl_11, h_cb_11, hb⟩
  clear c
  have B11 := B10.trans (hb.mono B10.size)
  have h_pl_11 := h_pl_10.below hb
  have h_pb_11 := h_pb_10.below hb
  have h_ql_11 := h_ql_10.below hb
  have h_qb_11 := h_qb_10.below hb
  have h_v_11 := h_v_10.below hb
  have h_xn_11 := h_xn_10.below hb
  have h_xd_11 := h_xd_10.below hb
  have h_p_11 := h_p_10.later hb
  have h_q_11 := h_q_10.later hb
  have h_x_11 := h_x_10.later hb
  have h_al_11 := h_al_10.below hb
  have h_ab_11 := h_ab_10.below hb
  have h_a_11 := h_a_10.later hb
  have h_bl_11 := h_bl_10.below hb
  have h_bb_11 := h_bb_10.below hb
  have h_b_11 := h_b_10.later hb
  clear hb B10 h_pl_10 h_pb_10 h_ql_10 h_qb_10 h_v_10 h_xn_10 h_xd_10 h_p_10 h_q_10 h_x_10 h_al_10 h_ab_10 h_a_10 h_bl_10 h_bb_10 h_b_10
  have hb := below_al w11 (.cells (cmC (obsCC p v).1 a_c n_c c_c b_c m_c d_c) 25)
  have B12 := B11.trans (hb.mono B11.size)
  have h_pl_12 := h_pl_11.below hb
  have h_pb_12 := h_pb_11.below hb
  have h_ql_12 := h_ql_11.below hb
  have h_qb_12 := h_qb_11.below hb
  have h_v_12 := h_v_11.below hb
  have h_xn_12 := h_xn_11.below hb
  have h_xd_12 := h_xd_11.below hb
  have h_p_12 := h_p_11.later hb
  have h_q_12 := h_q_11.later hb
  have h_x_12 := h_x_11.later hb
  have h_al_12 := h_al_11.below hb
  have h_ab_12 := h_ab_11.below hb
  have h_a_12 := h_a_11.later hb
  have h_bl_12 := h_bl_11.below hb
  have h_bb_12 := h_bb_11.below hb
  have h_b_12 := h_b_11.later hb
  have h_cl_12 := h_cl_11.below hb
  have h_cb_12 := h_cb_11.below hb
  clear hb B11 h_pl_11 h_pb_11 h_ql_11 h_qb_11 h_v_11 h_xn_11 h_xd_11 h_p_11 h_q_11 h_x_11 h_al_11 h_ab_11 h_a_11 h_bl_11 h_bb_11 h_b_11 h_cl_11 h_cb_11
  have h_c_12 := Has.new w11 (cmC (obsCC p v).1 a_c n_c c_c b_c m_c d_c) 25
  have k_p_0 := h_p_12.cell 0 _ rfl
  have k_p_1 := h_p_12.cell 1 _ rfl
  have k_p_2 := h_p_12.cell 2 _ rfl
  have k_p_3 := h_p_12.cell 3 _ rfl
  have k_p_4 := h_p_12.cell 4 _ rfl
  have k_p_5 := h_p_12.cell 5 _ rfl
  have k_p_6 := h_p_12.cell 6 _ rfl
  have k_p_7 := h_p_12.cell 7 _ rfl
  have k_p_8 := h_p_12.cell 8 _ rfl
  have k_p_9 := h_p_12.cell 9 _ rfl
  go_wp2_with first | refine wpList_store_new rfl 25 _ _ rfl atCmp _ _ _ rfl rfl rfl rfl (cm_one (obsCC p v).1 _ _ _ _ _ _) ?_
  clear k_p_0 k_p_1 k_p_2 k_p_3 k_p_4 k_p_5 k_p_6 k_p_7 k_p_8 k_p_9
  generalize (w11.alloc (.cells (cmC (obsCC p v).1 a_c n_c c_c b_c m_c d_c) 25)) = w12 at *
  have c := refCmObserve_any w12 h_pl_12 h_pb_12 pw_p h_v_12
  refine c.mono ?_
  rintro e w13 ⟨a_d, n_d, c_d, b_d, m_d, d_d, rfl, h_dl_13, h_db_13, hb⟩
  clear c
  have B13 := B12.trans (hb.mono B12.size)
  have h_pl_13 := h_pl_12.below hb
  have h_pb_13 := h_pb_12.below hb
  have h_ql_13 := h_ql_12.below hb
  have h_qb_13 := h_qb_12.below hb
  have h_v_13 := h_v_12.below hb
  have h_xn_13 := h_xn_12.below hb
  have h_xd_13 := h_xd_12.below hb
  have h_p_13 := h_p_12.later hb
  have h_q_13 := h_q_12.later hb
  have h_x_13 := h_x_12.later hb
  have h_al_13 := h_al_12.below hb
  have h_ab_13 := h_ab_12.below hb
  have h_a_13 := h_a_12.later hb
  have h_bl_13 := h_bl_12.below hb
  have h_bb_13 := h_bb_12.below hb
  have h_b_13 := h_b_12.later hb
  have h_cl_13 := h_cl_12.below hb
  have h_cb_13 := h_cb_12.below hb
  have h_c_13 := h_c_12.later hb
  clear hb B12 h_pl_12 h_pb_12 h_ql_12 h_qb_12 h_v_12 h_xn_12 h_xd_12 h_p_12 h_q_12 h_x_12 h_al_12 h_ab_12 h_a_12 h_bl_12 h_bb_12 h_b_12 h_cl_12 h_cb_12 h_c_12
  have hb := below_al w13 (.cells (cmC (obsCC p v).1 a_d n_d c_d b_d m_d d_d) 25)
  have B14 := B13.trans (hb.mono B13.size)
  have h_pl_14 := h_pl_13.below hb
  have h_pb_14 := h_pb_13.below hb
  have h_ql_14 := h_ql_13.below hb
  have h_qb_14 := h_qb_13.below hb
  have h_v_14 := h_v_13.below hb
  have h_xn_14 := h_xn_13.below hb
  have h_xd_14 := h_xd_13.below hb
  have h_p_14 := h_p_13.later hb
  have h_q_14 := h_q_13.later hb
  have h_x_14 := h_x_13.later hb
  have h_al_14 := h_al_13.below hb
  have h_ab_14 := h_ab_13.below hb
  have h_a_14 := h_a_13.later hb
  have h_bl_14 := h_bl_13.below hb
  have h_bb_14 := h_bb_13.below hb
  have h_b_14 := h_b_13.later hb
  have h_cl_14 := h_cl_13.below hb
  have h_cb_14 := h_cb_13.below hb
  have h_c_14 := h_c_13.later hb
  have h_dl_14 := h_dl_13.below hb
  have h_db_14 := h_db_13.below hb
  clear hb B13 h_pl_13 h_pb_13 h_ql_13 h_qb_13 h_v_13 h_xn_13 h_xd_13 h_p_13 h_q_13 h_x_13 h_al_13 h_ab_13 h_a_13 h_bl_13 h_bb_13 h_b_13 h_cl_13 h_cb_13 h_c_13 h_dl_13 h_db_13
  have h_d_14 := Has.new w13 (cmC (obsCC p v).1 a_d n_d c_d b_d m_d d_d) 25
  have k_p_0 := h_p_14.cell 0 _ rfl
  have k_p_1 := h_p_14.cell 1 _ rfl
  have k_p_2 := h_p_14.cell 2 _ rfl
  have k_p_3 := h_p_14.cell 3 _ rfl
  have k_p_4 := h_p_14.cell 4 _ rfl
  have k_p_5 := h_p_14.cell 5 _ rfl
  have k_p_6 := h_p_14.cell 6 _ rfl
  have k_p_7 := h_p_14.cell 7 _ rfl
  have k_p_8 := h_p_14.cell 8 _ rfl
  have k_p_9 := h_p_14.cell 9 _ rfl
  have k_x_0 := h_x_14.cell 0 _ rfl
  have k_x_1 := h_x_14.cell 1 _ rfl
  have k_x_2 := h_x_14.cell 2 _ rfl
  go_wp2_with first | refine wpList_store_new rfl 25 _ _ rfl atCmp _ _ _ rfl rfl rfl rfl (cm_one (obsCC p v).1 _ _ _ _ _ _) ?_
  clear k_p_0 k_p_1 k_p_2 k_p_3 k_p_4 k_p_5 k_p_6 k_p_7 k_p_8 k_p_9 k_x_0 k_x_1 k_x_2
  generalize (w13.alloc (.cells (cmC (obsCC p v).1 a_d n_d c_d b_d m_d d_d) 25)) = w14 at *
  have c := cmConfirmed_any w14 h_pl_14 h_pb_14 pw_p (g := g_x) h_xn_14 h_xd_14
  refine c.mono ?_
  rintro e w15 ⟨rfl, hb⟩
  clear c
  have B15 := B14.trans (hb.mono B14.size)
  have h_pl_15 := h_pl_14.below hb
  have h_pb_15 := h_pb_14.below hb
  have h_ql_15 := h_ql_14.below hb
  have h_qb_15 := h_qb_14.below hb
  have h_v_15 := h_v_14.below hb
  have h_xn_15 := h_xn_14.below hb
  have h_xd_15 := h_xd_14.below hb
  have h_p_15 := h_p_14.later hb
  have h_q_15 := h_q_14.later hb
  have h_x_15 := h_x_14.later hb
  have h_al_15 := h_al_14.below hb
  have h_ab_15 := h_ab_14.below hb
  have h_a_15 := h_a_14.later hb
  have h_bl_15 := h_bl_14.below hb
  have h_bb_15 := h_bb_14.below hb
  have h_b_15 := h_b_14.later hb
  have h_cl_15 := h_cl_14.below hb
  have h_cb_15 := h_cb_14.below hb
  have h_c_15 := h_c_14.later hb
  have h_dl_15 := h_dl_14.below hb
  have h_db_15 := h_db_14.below hb
  have h_d_15 := h_d_14.later hb
  clear hb B14 h_pl_14 h_pb_14 h_ql_14 h_qb_14 h_v_14 h_xn_14 h_xd_14 h_p_14 h_q_14 h_x_14 h_al_14 h_ab_14 h_a_14 h_bl_14 h_bb_14 h_b_14 h_cl_14 h_cb_14 h_c_14 h_dl_14 h_db_14 h_d_14
  have k_p_0 := h_p_15.cell 0 _ rfl
  have k_p_1 := h_p_15.cell 1 _ rfl
  have k_p_2 := h_p_15.cell 2 _ rfl
  have k_p_3 := h_p_15.cell 3 _ rfl
  have k_p_4 := h_p_15.cell 4 _ rfl
  have k_p_5 := h_p_15.cell 5 _ rfl
  have k_p_6 := h_p_15.cell 6 _ rfl
  have k_p_7 := h_p_15.cell 7 _ rfl
  have k_p_8 := h_p_15.cell 8 _ rfl
  have k_p_9 := h_p_15.cell 9 _ rfl
  have k_x_0 := h_x_15.cell 0 _ rfl
  have k_x_1 := h_x_15.cell 1 _ rfl
  have k_x_2 := h_x_15.cell 2 _ rfl
  go_wp2_with fail
  clear k_p_0 k_p_1 k_p_2 k_p_3 k_p_4 k_p_5 k_p_6 k_p_7 k_p_8 k_p_9 k_x_0 k_x_1 k_x_2
  have c := refCmConfirmed_any w15 h_pl_15 h_pb_15 pw_p (g := g_x) h_xn_15 h_xd_15
  refine c.mono ?_
  rintro e w16 ⟨rfl, hb⟩
  clear c
  have B16 := B15.trans (hb.mono B15.size)
  have h_pl_16 := h_pl_15.below hb
  have h_pb_16 := h_pb_15.below hb
  have h_ql_16 := h_ql_15.below hb
  have h_qb_16 := h_qb_15.below hb
  have h_v_16 := h_v_15.below hb
  have h_xn_16 := h_xn_15.below hb
  have h_xd_16 := h_xd_15.below hb
  have h_p_16 := h_p_15.later hb
  have h_q_16 := h_q_15.later hb
  have h_x_16 := h_x_15.later hb
  have h_al_16 := h_al_15.below hb
  have h_ab_16 := h_ab_15.below hb
  have h_a_16 := h_a_15.later hb
  have h_bl_16 := h_bl_15.below hb
  have h_bb_16 := h_bb_15.below hb
  have h_b_16 := h_b_15.later hb
  have h_cl_16 := h_cl_15.below hb
  have h_cb_16 := h_cb_15.below hb
  have h_c_16 := h_c_15.later hb
  have h_dl_16 := h_dl_15.below hb
  have h_db_16 := h_db_15.below hb
  have h_d_16 := h_d_15.later hb
  clear hb B15 h_pl_15 h_pb_15 h_ql_15 h_qb_15 h_v_15 h_xn_15 h_xd_15 h_p_15 h_q_15 h_x_15 h_al_15 h_ab_15 h_a_15 h_bl_15 h_bb_15 h_b_15 h_cl_15 h_cb_15 h_c_15 h_dl_15 h_db_15 h_d_15
  have k_p_0 := h_p_16.cell 0 _ rfl
  have k_p_1 := h_p_16.cell 1 _ rfl
  have k_p_2 := h_p_16.cell 2 _ rfl
  have k_p_3 := h_p_16.cell 3 _ rfl
  have k_p_4 := h_p_16.cell 4 _ rfl
  have k_p_5 := h_p_16.cell 5 _ rfl
  have k_p_6 := h_p_16.cell 6 _ rfl
  have k_p_7 := h_p_16.cell 7 _ rfl
  have k_p_8 := h_p_16.cell 8 _ rfl
  have k_p_9 := h_p_16.cell 9 _ rfl
  go_wp2_with fail
  clear k_p_0 k_p_1 k_p_2 k_p_3 k_p_4 k_p_5 k_p_6 k_p_7 k_p_8 k_p_9
  have c := cmRisk_any w16 h_pl_16 h_pb_16 pw_p
  refine c.mono ?_
  rintro e w17 ⟨a_r, n_r, c_r, b_r, m_r, d_r, rfl, h_rn_17, h_rd_17, hb⟩
  clear c
  have B17 := B16.trans (hb.mono B16.size)
  have h_pl_17 := h_pl_16.below hb
  have h_pb_17 := h_pb_16.below hb
  have h_ql_17 := h_ql_16.below hb
  have h_qb_17 := h_qb_16.below hb
  have h_v_17 := h_v_16.below hb
  have h_xn_17 := h_xn_16.below hb
  have h_xd_17 := h_xd_16.below hb
  have h_p_17 := h_p_16.later hb
  have h_q_17 := h_q_16.later hb
  have h_x_17 := h_x_16.later hb
  have h_al_17 := h_al_16.below hb
  have h_ab_17 := h_ab_16.below hb
  have h_a_17 := h_a_16.later hb
  have h_bl_17 := h_bl_16.below hb
  have h_bb_17 := h_bb_16.below hb
  have h_b_17 := h_b_16.later hb
  have h_cl_17 := h_cl_16.below hb
  have h_cb_17 := h_cb_16.below hb
  have h_c_17 := h_c_16.later hb
  have h_dl_17 := h_dl_16.below hb
  have h_db_17 := h_db_16.below hb
  have h_d_17 := h_d_16.later hb
  clear hb B16 h_pl_16 h_pb_16 h_ql_16 h_qb_16 h_v_16 h_xn_16 h_xd_16 h_p_16 h_q_16 h_x_16 h_al_16 h_ab_16 h_a_16 h_bl_16 h_bb_16 h_b_16 h_cl_16 h_cb_16 h_c_16 h_dl_16 h_db_16 h_d_16
  have hb := below_al w17 (.cells #[.bool ((riskCC p).1).neg, .slice a_r n_r c_r, .slice b_r m_r d_r] 34)
  have B18 := B17.trans (hb.mono B17.size)
  have h_pl_18 := h_pl_17.below hb
  have h_pb_18 := h_pb_17.below hb
  have h_ql_18 := h_ql_17.below hb
  have h_qb_18 := h_qb_17.below hb
  have h_v_18 := h_v_17.below hb
  have h_xn_18 := h_xn_17.below hb
  have h_xd_18 := h_xd_17.below hb
  have h_p_18 := h_p_17.later hb
  have h_q_18 := h_q_17.later hb
  have h_x_18 := h_x_17.later hb
  have h_al_18 := h_al_17.below hb
  have h_ab_18 := h_ab_17.below hb
  have h_a_18 := h_a_17.later hb
  have h_bl_18 := h_bl_17.below hb
  have h_bb_18 := h_bb_17.below hb
  have h_b_18 := h_b_17.later hb
  have h_cl_18 := h_cl_17.below hb
  have h_cb_18 := h_cb_17.below hb
  have h_c_18 := h_c_17.later hb
  have h_dl_18 := h_dl_17.below hb
  have h_db_18 := h_db_17.below hb
  have h_d_18 := h_d_17.later hb
  have h_rn_18 := h_rn_17.below hb
  have h_rd_18 := h_rd_17.below hb
  clear hb B17 h_pl_17 h_pb_17 h_ql_17 h_qb_17 h_v_17 h_xn_17 h_xd_17 h_p_17 h_q_17 h_x_17 h_al_17 h_ab_17 h_a_17 h_bl_17 h_bb_17 h_b_17 h_cl_17 h_cb_17 h_c_17 h_dl_17 h_db_17 h_d_17 h_rn_17 h_rd_17
  have h_r_18 := Has.new w17 #[.bool ((riskCC p).1).neg, .slice a_r n_r c_r, .slice b_r m_r d_r] 34
  have k_p_0 := h_p_18.cell 0 _ rfl
  have k_p_1 := h_p_18.cell 1 _ rfl
  have k_p_2 := h_p_18.cell 2 _ rfl
  have k_p_3 := h_p_18.cell 3 _ rfl
  have k_p_4 := h_p_18.cell 4 _ rfl
  have k_p_5 := h_p_18.cell 5 _ rfl
  have k_p_6 := h_p_18.cell 6 _ rfl
  have k_p_7 := h_p_18.cell 7 _ rfl
  have k_p_8 := h_p_18.cell 8 _ rfl
  have k_p_9 := h_p_18.cell 9 _ rfl
  go_wp2_with first | refine wpList_store_new rfl 34 _ _ rfl atRat _ _ _ rfl rfl rfl rfl (rat_one _ _ _ _ _ _ _) ?_
  clear k_p_0 k_p_1 k_p_2 k_p_3 k_p_4 k_p_5 k_p_6 k_p_7 k_p_8 k_p_9
  generalize (w17.alloc (.cells #[.bool ((riskCC p).1).neg, .slice a_r n_r c_r, .slice b_r m_r d_r] 34)) = w18 at *
  have c := refCmRisk_any w18 h_pl_18 h_pb_18 pw_p
  refine c.mono ?_
  rintro e w19 ⟨a_s, n_s, c_s, b_s, m_s, d_s, rfl, h_sn_19, h_sd_19, hb⟩
  clear c
  have B19 := B18.trans (hb.mono B18.size)
  have h_pl_19 := h_pl_18.below hb
  have h_pb_19 := h_pb_18.below hb
  have h_ql_19 := h_ql_18.below hb
  have h_qb_19 := h_qb_18.below hb
  have h_v_19 := h_v_18.below hb
  have h_xn_19 := h_xn_18.below hb
  have h_xd_19 := h_xd_18.below hb
  have h_p_19 := h_p_18.later hb
  have h_q_19 := h_q_18.later hb
  have h_x_19 := h_x_18.later hb
  have h_al_19 := h_al_18.below hb
  have h_ab_19 := h_ab_18.below hb
  have h_a_19 := h_a_18.later hb
  have h_bl_19 := h_bl_18.below hb
  have h_bb_19 := h_bb_18.below hb
  have h_b_19 := h_b_18.later hb
  have h_cl_19 := h_cl_18.below hb
  have h_cb_19 := h_cb_18.below hb
  have h_c_19 := h_c_18.later hb
  have h_dl_19 := h_dl_18.below hb
  have h_db_19 := h_db_18.below hb
  have h_d_19 := h_d_18.later hb
  have h_rn_19 := h_rn_18.below hb
  have h_rd_19 := h_rd_18.below hb
  have h_r_19 := h_r_18.later hb
  clear hb B18 h_pl_18 h_pb_18 h_ql_18 h_qb_18 h_v_18 h_xn_18 h_xd_18 h_p_18 h_q_18 h_x_18 h_al_18 h_ab_18 h_a_18 h_bl_18 h_bb_18 h_b_18 h_cl_18 h_cb_18 h_c_18 h_dl_18 h_db_18 h_d_18 h_rn_18 h_rd_18 h_r_18
  have hb := below_al w19 (.cells #[.bool ((riskCC p).1).neg, .slice a_s n_s c_s, .slice b_s m_s d_s] 34)
  have B20 := B19.trans (hb.mono B19.size)
  have h_pl_20 := h_pl_19.below hb
  have h_pb_20 := h_pb_19.below hb
  have h_ql_20 := h_ql_19.below hb
  have h_qb_20 := h_qb_19.below hb
  have h_v_20 := h_v_19.below hb
  have h_xn_20 := h_xn_19.below hb
  have h_xd_20 := h_xd_19.below hb
  have h_p_20 := h_p_19.later hb
  have h_q_20 := h_q_19.later hb
  have h_x_20 := h_x_19.later hb
  have h_al_20 := h_al_19.below hb
  have h_ab_20 := h_ab_19.below hb
  have h_a_20 := h_a_19.later hb
  have h_bl_20 := h_bl_19.below hb
  have h_bb_20 := h_bb_19.below hb
  have h_b_20 := h_b_19.later hb
  have h_cl_20 := h_cl_19.below hb
  have h_cb_20 := h_cb_19.below hb
  have h_c_20 := h_c_19.later hb
  have h_dl_20 := h_dl_19.below hb
  have h_db_20 := h_db_19.below hb
  have h_d_20 := h_d_19.later hb
  have h_rn_20 := h_rn_19.below hb
  have h_rd_20 := h_rd_19.below hb
  have h_r_20 := h_r_19.later hb
  have h_sn_20 := h_sn_19.below hb
  have h_sd_20 := h_sd_19.below hb
  clear hb B19 h_pl_19 h_pb_19 h_ql_19 h_qb_19 h_v_19 h_xn_19 h_xd_19 h_p_19 h_q_19 h_x_19 h_al_19 h_ab_19 h_a_19 h_bl_19 h_bb_19 h_b_19 h_cl_19 h_cb_19 h_c_19 h_dl_19 h_db_19 h_d_19 h_rn_19 h_rd_19 h_r_19 h_sn_19 h_sd_19
  have h_s_20 := Has.new w19 #[.bool ((riskCC p).1).neg, .slice a_s n_s c_s, .slice b_s m_s d_s] 34
  go_wp2_with first | refine wpList_store_new rfl 34 _ _ rfl atRat _ _ _ rfl rfl rfl rfl (rat_one _ _ _ _ _ _ _) ?_
  generalize (w19.alloc (.cells #[.bool ((riskCC p).1).neg, .slice a_s n_s c_s, .slice b_s m_s d_s] 34)) = w20 at *
  have c := over_any w20 mac han
  refine c.mono ?_
  rintro e w21 ⟨rfl, hb⟩
  clear c
  have B21 := B20.trans (hb.mono B20.size)
  have h_pl_21 := h_pl_20.below hb
  have h_pb_21 := h_pb_20.below hb
  have h_ql_21 := h_ql_20.below hb
  have h_qb_21 := h_qb_20.below hb
  have h_v_21 := h_v_20.below hb
  have h_xn_21 := h_xn_20.below hb
  have h_xd_21 := h_xd_20.below hb
  have h_p_21 := h_p_20.later hb
  have h_q_21 := h_q_20.later hb
  have h_x_21 := h_x_20.later hb
  have h_al_21 := h_al_20.below hb
  have h_ab_21 := h_ab_20.below hb
  have h_a_21 := h_a_20.later hb
  have h_bl_21 := h_bl_20.below hb
  have h_bb_21 := h_bb_20.below hb
  have h_b_21 := h_b_20.later hb
  have h_cl_21 := h_cl_20.below hb
  have h_cb_21 := h_cb_20.below hb
  have h_c_21 := h_c_20.later hb
  have h_dl_21 := h_dl_20.below hb
  have h_db_21 := h_db_20.below hb
  have h_d_21 := h_d_20.later hb
  have h_rn_21 := h_rn_20.below hb
  have h_rd_21 := h_rd_20.below hb
  have h_r_21 := h_r_20.later hb
  have h_sn_21 := h_sn_20.below hb
  have h_sd_21 := h_sd_20.below hb
  have h_s_21 := h_s_20.later hb
  clear hb B20 h_pl_20 h_pb_20 h_ql_20 h_qb_20 h_v_20 h_xn_20 h_xd_20 h_p_20 h_q_20 h_x_20 h_al_20 h_ab_20 h_a_20 h_bl_20 h_bb_20 h_b_20 h_cl_20 h_cb_20 h_c_20 h_dl_20 h_db_20 h_d_20 h_rn_20 h_rd_20 h_r_20 h_sn_20 h_sd_20 h_s_20
  go_wp2_with fail
  have c := refOver_any w21 mac han
  refine c.mono ?_
  rintro e w22 ⟨rfl, hb⟩
  clear c
  have B22 := B21.trans (hb.mono B21.size)
  have h_pl_22 := h_pl_21.below hb
  have h_pb_22 := h_pb_21.below hb
  have h_ql_22 := h_ql_21.below hb
  have h_qb_22 := h_qb_21.below hb
  have h_v_22 := h_v_21.below hb
  have h_xn_22 := h_xn_21.below hb
  have h_xd_22 := h_xd_21.below hb
  have h_p_22 := h_p_21.later hb
  have h_q_22 := h_q_21.later hb
  have h_x_22 := h_x_21.later hb
  have h_al_22 := h_al_21.below hb
  have h_ab_22 := h_ab_21.below hb
  have h_a_22 := h_a_21.later hb
  have h_bl_22 := h_bl_21.below hb
  have h_bb_22 := h_bb_21.below hb
  have h_b_22 := h_b_21.later hb
  have h_cl_22 := h_cl_21.below hb
  have h_cb_22 := h_cb_21.below hb
  have h_c_22 := h_c_21.later hb
  have h_dl_22 := h_dl_21.below hb
  have h_db_22 := h_db_21.below hb
  have h_d_22 := h_d_21.later hb
  have h_rn_22 := h_rn_21.below hb
  have h_rd_22 := h_rd_21.below hb
  have h_r_22 := h_r_21.later hb
  have h_sn_22 := h_sn_21.below hb
  have h_sd_22 := h_sd_21.below hb
  have h_s_22 := h_s_21.later hb
  clear hb B21 h_pl_21 h_pb_21 h_ql_21 h_qb_21 h_v_21 h_xn_21 h_xd_21 h_p_21 h_q_21 h_x_21 h_al_21 h_ab_21 h_a_21 h_bl_21 h_bb_21 h_b_21 h_cl_21 h_cb_21 h_c_21 h_dl_21 h_db_21 h_d_21 h_rn_21 h_rd_21 h_r_21 h_sn_21 h_sd_21 h_s_21
  have k_a_0 := h_a_22.cell 0 _ rfl
  have k_a_1 := h_a_22.cell 1 _ rfl
  have k_a_2 := h_a_22.cell 2 _ rfl
  have k_a_3 := h_a_22.cell 3 _ rfl
  have k_a_4 := h_a_22.cell 4 _ rfl
  have k_a_5 := h_a_22.cell 5 _ rfl
  have k_a_6 := h_a_22.cell 6 _ rfl
  have k_a_7 := h_a_22.cell 7 _ rfl
  have k_a_8 := h_a_22.cell 8 _ rfl
  have k_a_9 := h_a_22.cell 9 _ rfl
  have k_b_0 := h_b_22.cell 0 _ rfl
  have k_b_1 := h_b_22.cell 1 _ rfl
  have k_b_2 := h_b_22.cell 2 _ rfl
  have k_b_3 := h_b_22.cell 3 _ rfl
  have k_b_4 := h_b_22.cell 4 _ rfl
  have k_b_5 := h_b_22.cell 5 _ rfl
  have k_b_6 := h_b_22.cell 6 _ rfl
  have k_b_7 := h_b_22.cell 7 _ rfl
  have k_b_8 := h_b_22.cell 8 _ rfl
  have k_b_9 := h_b_22.cell 9 _ rfl
  go_wp2_with fail
  clear k_a_0 k_a_1 k_a_2 k_a_3 k_a_4 k_a_5 k_a_6 k_a_7 k_a_8 k_a_9 k_b_0 k_b_1 k_b_2 k_b_3 k_b_4 k_b_5 k_b_6 k_b_7 k_b_8 k_b_9
  have c := refCmSame_any w22 (p := (newCC bet bal mar).1) (q := (newCC bet bal mar).1) h_al_22 h_ab_22 h_bl_22 h_bb_22
  rw [sameCV_self] at c
  refine c.mono ?_
  rintro e w23 ⟨rfl, hb⟩
  clear c
  have B23 := B22.trans (hb.mono B22.size)
  have h_pl_23 := h_pl_22.below hb
  have h_pb_23 := h_pb_22.below hb
  have h_ql_23 := h_ql_22.below hb
  have h_qb_23 := h_qb_22.below hb
  have h_v_23 := h_v_22.below hb
  have h_xn_23 := h_xn_22.below hb
  have h_xd_23 := h_xd_22.below hb
  have h_p_23 := h_p_22.later hb
  have h_q_23 := h_q_22.later hb
  have h_x_23 := h_x_22.later hb
  have h_al_23 := h_al_22.below hb
  have h_ab_23 := h_ab_22.below hb
  have h_a_23 := h_a_22.later hb
  have h_bl_23 := h_bl_22.below hb
  have h_bb_23 := h_bb_22.below hb
  have h_b_23 := h_b_22.later hb
  have h_cl_23 := h_cl_22.below hb
  have h_cb_23 := h_cb_22.below hb
  have h_c_23 := h_c_22.later hb
  have h_dl_23 := h_dl_22.below hb
  have h_db_23 := h_db_22.below hb
  have h_d_23 := h_d_22.later hb
  have h_rn_23 := h_rn_22.below hb
  have h_rd_23 := h_rd_22.below hb
  have h_r_23 := h_r_22.later hb
  have h_sn_23 := h_sn_22.below hb
  have h_sd_23 := h_sd_22.below hb
  have h_s_23 := h_s_22.later hb
  clear hb B22 h_pl_22 h_pb_22 h_ql_22 h_qb_22 h_v_22 h_xn_22 h_xd_22 h_p_22 h_q_22 h_x_22 h_al_22 h_ab_22 h_a_22 h_bl_22 h_bb_22 h_b_22 h_cl_22 h_cb_22 h_c_22 h_dl_22 h_db_22 h_d_22 h_rn_22 h_rd_22 h_r_22 h_sn_22 h_sd_22 h_s_22
  have k_c_0 := h_c_23.cell 0 _ rfl
  have k_c_1 := h_c_23.cell 1 _ rfl
  have k_c_2 := h_c_23.cell 2 _ rfl
  have k_c_3 := h_c_23.cell 3 _ rfl
  have k_c_4 := h_c_23.cell 4 _ rfl
  have k_c_5 := h_c_23.cell 5 _ rfl
  have k_c_6 := h_c_23.cell 6 _ rfl
  have k_c_7 := h_c_23.cell 7 _ rfl
  have k_c_8 := h_c_23.cell 8 _ rfl
  have k_c_9 := h_c_23.cell 9 _ rfl
  have k_d_0 := h_d_23.cell 0 _ rfl
  have k_d_1 := h_d_23.cell 1 _ rfl
  have k_d_2 := h_d_23.cell 2 _ rfl
  have k_d_3 := h_d_23.cell 3 _ rfl
  have k_d_4 := h_d_23.cell 4 _ rfl
  have k_d_5 := h_d_23.cell 5 _ rfl
  have k_d_6 := h_d_23.cell 6 _ rfl
  have k_d_7 := h_d_23.cell 7 _ rfl
  have k_d_8 := h_d_23.cell 8 _ rfl
  have k_d_9 := h_d_23.cell 9 _ rfl
  go_wp2_with fail
  clear k_c_0 k_c_1 k_c_2 k_c_3 k_c_4 k_c_5 k_c_6 k_c_7 k_c_8 k_c_9 k_d_0 k_d_1 k_d_2 k_d_3 k_d_4 k_d_5 k_d_6 k_d_7 k_d_8 k_d_9
  have c := refCmSame_any w23 (p := (obsCC p v).1) (q := (obsCC p v).1) h_cl_23 h_cb_23 h_dl_23 h_db_23
  rw [sameCV_self] at c
  refine c.mono ?_
  rintro e w24 ⟨rfl, hb⟩
  clear c
  have B24 := B23.trans (hb.mono B23.size)
  have h_pl_24 := h_pl_23.below hb
  have h_pb_24 := h_pb_23.below hb
  have h_ql_24 := h_ql_23.below hb
  have h_qb_24 := h_qb_23.below hb
  have h_v_24 := h_v_23.below hb
  have h_xn_24 := h_xn_23.below hb
  have h_xd_24 := h_xd_23.below hb
  have h_p_24 := h_p_23.later hb
  have h_q_24 := h_q_23.later hb
  have h_x_24 := h_x_23.later hb
  have h_al_24 := h_al_23.below hb
  have h_ab_24 := h_ab_23.below hb
  have h_a_24 := h_a_23.later hb
  have h_bl_24 := h_bl_23.below hb
  have h_bb_24 := h_bb_23.below hb
  have h_b_24 := h_b_23.later hb
  have h_cl_24 := h_cl_23.below hb
  have h_cb_24 := h_cb_23.below hb
  have h_c_24 := h_c_23.later hb
  have h_dl_24 := h_dl_23.below hb
  have h_db_24 := h_db_23.below hb
  have h_d_24 := h_d_23.later hb
  have h_rn_24 := h_rn_23.below hb
  have h_rd_24 := h_rd_23.below hb
  have h_r_24 := h_r_23.later hb
  have h_sn_24 := h_sn_23.below hb
  have h_sd_24 := h_sd_23.below hb
  have h_s_24 := h_s_23.later hb
  clear hb B23 h_pl_23 h_pb_23 h_ql_23 h_qb_23 h_v_23 h_xn_23 h_xd_23 h_p_23 h_q_23 h_x_23 h_al_23 h_ab_23 h_a_23 h_bl_23 h_bb_23 h_b_23 h_cl_23 h_cb_23 h_c_23 h_dl_23 h_db_23 h_d_23 h_rn_23 h_rd_23 h_r_23 h_sn_23 h_sd_23 h_s_23
  have k_r_0 := h_r_24.cell 0 _ rfl
  have k_r_1 := h_r_24.cell 1 _ rfl
  have k_r_2 := h_r_24.cell 2 _ rfl
  have k_s_0 := h_s_24.cell 0 _ rfl
  have k_s_1 := h_s_24.cell 1 _ rfl
  have k_s_2 := h_s_24.cell 2 _ rfl
  go_wp2_with fail
  clear k_r_0 k_r_1 k_r_2 k_s_0 k_s_1 k_s_2
  have c := refRatSame_any w24 (g1 := (riskCC p).1.neg) (g2 := (riskCC p).1.neg) h_rn_24 h_rd_24 h_sn_24 h_sd_24
  rw [ex_sameq] at c
  refine c.mono ?_
  rintro e w25 ⟨rfl, hb⟩
  clear c
  have B25 := B24.trans (hb.mono B24.size)
  have h_pl_25 := h_pl_24.below hb
  have h_pb_25 := h_pb_24.below hb
  have h_ql_25 := h_ql_24.below hb
  have h_qb_25 := h_qb_24.below hb
  have h_v_25 := h_v_24.below hb
  have h_xn_25 := h_xn_24.below hb
  have h_xd_25 := h_xd_24.below hb
  have h_p_25 := h_p_24.later hb
  have h_q_25 := h_q_24.later hb
  have h_x_25 := h_x_24.later hb
  have h_al_25 := h_al_24.below hb
  have h_ab_25 := h_ab_24.below hb
  have h_a_25 := h_a_24.later hb
  have h_bl_25 := h_bl_24.below hb
  have h_bb_25 := h_bb_24.below hb
  have h_b_25 := h_b_24.later hb
  have h_cl_25 := h_cl_24.below hb
  have h_cb_25 := h_cb_24.below hb
  have h_c_25 := h_c_24.later hb
  have h_dl_25 := h_dl_24.below hb
  have h_db_25 := h_db_24.below hb
  have h_d_25 := h_d_24.later hb
  have h_rn_25 := h_rn_24.below hb
  have h_rd_25 := h_rd_24.below hb
  have h_r_25 := h_r_24.later hb
  have h_sn_25 := h_sn_24.below hb
  have h_sd_25 := h_sd_24.below hb
  have h_s_25 := h_s_24.later hb
  clear hb B24 h_pl_24 h_pb_24 h_ql_24 h_qb_24 h_v_24 h_xn_24 h_xd_24 h_p_24 h_q_24 h_x_24 h_al_24 h_ab_24 h_a_24 h_bl_24 h_bb_24 h_b_24 h_cl_24 h_cb_24 h_c_24 h_dl_24 h_db_24 h_d_24 h_rn_24 h_rd_24 h_r_24 h_sn_24 h_sd_24 h_s_24
  go_wp2_with fail
  have hb := (Below.refl w25.heap.size w25).drew
  have B26 := B25.trans (hb.mono B25.size)
  have h_pl_26 := h_pl_25.below hb
  have h_pb_26 := h_pb_25.below hb
  have h_ql_26 := h_ql_25.below hb
  have h_qb_26 := h_qb_25.below hb
  have h_v_26 := h_v_25.below hb
  have h_xn_26 := h_xn_25.below hb
  have h_xd_26 := h_xd_25.below hb
  have h_p_26 := h_p_25.later hb
  have h_q_26 := h_q_25.later hb
  have h_x_26 := h_x_25.later hb
  have h_al_26 := h_al_25.below hb
  have h_ab_26 := h_ab_25.below hb
  have h_a_26 := h_a_25.later hb
  have h_bl_26 := h_bl_25.below hb
  have h_bb_26 := h_bb_25.below hb
  have h_b_26 := h_b_25.later hb
  have h_cl_26 := h_cl_25.below hb
  have h_cb_26 := h_cb_25.below hb
  have h_c_26 := h_c_25.later hb
  have h_dl_26 := h_dl_25.below hb
  have h_db_26 := h_db_25.below hb
  have h_d_26 := h_d_25.later hb
  have h_rn_26 := h_rn_25.below hb
  have h_rd_26 := h_rd_25.below hb
  have h_r_26 := h_r_25.later hb
  have h_sn_26 := h_sn_25.below hb
  have h_sd_26 := h_sd_25.below hb
  have h_s_26 := h_s_25.later hb
  clear hb B25 h_pl_25 h_pb_25 h_ql_25 h_qb_25 h_v_25 h_xn_25 h_xd_25 h_p_25 h_q_25 h_x_25 h_al_25 h_ab_25 h_a_25 h_bl_25 h_bb_25 h_b_25 h_cl_25 h_cb_25 h_c_25 h_dl_25 h_db_25 h_d_25 h_rn_25 h_rd_25 h_r_25 h_sn_25 h_sd_25 h_s_25
  refine wp_region_held_drew (S := (fun w' => w'.cell? ⟨w.heap.size, 0, none⟩ = some (.int .i64 (p).bet) ∧ w'.cell? ⟨w.heap.size, 1, none⟩ = some (.int .i64 (p).ballots) ∧ w'.cell? ⟨w.heap.size, 2, none⟩ = some (.int .i64 (p).margin) ∧ w'.cell? ⟨w.heap.size, 3, none⟩ = some (.int .i64 (p).s0) ∧ w'.cell? ⟨w.heap.size, 4, none⟩ = some (.int .i64 (p).s1) ∧ w'.cell? ⟨w.heap.size, 5, none⟩ = some (.int .i64 (p).s2) ∧ w'.cell? ⟨w.heap.size, 6, none⟩ = some (.int .i64 (p).s3) ∧ w'.cell? ⟨w.heap.size, 7, none⟩ = some (.int .i64 (p).s4) ∧ w'.cell? ⟨w.heap.size, 8, none⟩ = some (.slice a_p n_p c_p) ∧ w'.cell? ⟨w.heap.size, 9, none⟩ = some (.slice b_p m_p d_p) ∧ w'.cell? ⟨w.heap.size + 1, 0, none⟩ = some (.int .i64 (q).bet) ∧ w'.cell? ⟨w.heap.size + 1, 1, none⟩ = some (.int .i64 (q).ballots) ∧ w'.cell? ⟨w.heap.size + 1, 2, none⟩ = some (.int .i64 (q).margin) ∧ w'.cell? ⟨w.heap.size + 1, 3, none⟩ = some (.int .i64 (q).s0) ∧ w'.cell? ⟨w.heap.size + 1, 4, none⟩ = some (.int .i64 (q).s1) ∧ w'.cell? ⟨w.heap.size + 1, 5, none⟩ = some (.int .i64 (q).s2) ∧ w'.cell? ⟨w.heap.size + 1, 6, none⟩ = some (.int .i64 (q).s3) ∧ w'.cell? ⟨w.heap.size + 1, 7, none⟩ = some (.int .i64 (q).s4) ∧ w'.cell? ⟨w.heap.size + 1, 8, none⟩ = some (.slice a_q n_q c_q) ∧ w'.cell? ⟨w.heap.size + 1, 9, none⟩ = some (.slice b_q m_q d_q) ∧ True)) (by kernel_rfl) ?_ (fun hHeld => ?_)
  · exact ⟨h_p_26.cell 0 _ rfl, h_p_26.cell 1 _ rfl, h_p_26.cell 2 _ rfl, h_p_26.cell 3 _ rfl, h_p_26.cell 4 _ rfl, h_p_26.cell 5 _ rfl, h_p_26.cell 6 _ rfl, h_p_26.cell 7 _ rfl, h_p_26.cell 8 _ rfl, h_p_26.cell 9 _ rfl, h_q_26.cell 0 _ rfl, h_q_26.cell 1 _ rfl, h_q_26.cell 2 _ rfl, h_q_26.cell 3 _ rfl, h_q_26.cell 4 _ rfl, h_q_26.cell 5 _ rfl, h_q_26.cell 6 _ rfl, h_q_26.cell 7 _ rfl, h_q_26.cell 8 _ rfl, h_q_26.cell 9 _ rfl, trivial⟩
  generalize w25.drew = w26 at *
  refine wpAnyH_take (i := 0) (oi := ?a1_0) (v := ?b1_0) ?c1_0 (by kernel_rfl) (by kernel_rfl) (by kernel_rfl) ?d1_0 ?e1_0 (by assumption) ?f1_0
  case c1_0 => simp only [tA, tS, tZ]; rfl
  case d1_0 => exact fun _ _ _ h => h
  case e1_0 => (refine Or.inl ⟨by rfl, ?_⟩; intro w h; (try dsimp only at h); go_simp; all_goals with_reducible rfl)
  try simp only [Act.put, tI, tP, tQ]
  refine wpAnyH_take (i := 2) (oi := ?a1_2) (v := ?b1_2) ?c1_2 (by kernel_rfl) (by kernel_rfl) (by kernel_rfl) ?d1_2 ?e1_2 (by assumption) ?f1_2
  case c1_2 => simp only [tA, tS, tZ]; rfl
  case d1_2 => exact fun _ _ _ h => h
  case e1_2 => (refine Or.inl ⟨by rfl, ?_⟩; intro w h; (try dsimp only at h); go_simp; all_goals with_reducible rfl)
  try simp only [Act.put, tI, tP, tQ]
  refine wpAnyH_ready (rs := [1]) (by kernel_rfl) (by simp) ?_
  refine AllReadyH.cons (o := ?or2_1) ?hor2_1 (fun K hK => ?kr2_1) AllReadyH.nil
  case hor2_1 => simp only [List.getElem?_toArray, List.getElem?_cons_succ, List.getElem?_cons_zero]; rfl
  go_simp
  have c := cmCheck_any w26 (q := p) h_pl_26 h_pb_26 pw_p
  refine c.mono ?_
  rintro e w27 ⟨rfl, hb⟩
  clear c
  have B27 := B26.trans (hb.mono B26.size)
  have h_pl_27 := h_pl_26.below hb
  have h_pb_27 := h_pb_26.below hb
  have h_ql_27 := h_ql_26.below hb
  have h_qb_27 := h_qb_26.below hb
  have h_v_27 := h_v_26.below hb
  have h_xn_27 := h_xn_26.below hb
  have h_xd_27 := h_xd_26.below hb
  have h_p_27 := h_p_26.later hb
  have h_q_27 := h_q_26.later hb
  have h_x_27 := h_x_26.later hb
  have h_al_27 := h_al_26.below hb
  have h_ab_27 := h_ab_26.below hb
  have h_a_27 := h_a_26.later hb
  have h_bl_27 := h_bl_26.below hb
  have h_bb_27 := h_bb_26.below hb
  have h_b_27 := h_b_26.later hb
  have h_cl_27 := h_cl_26.below hb
  have h_cb_27 := h_cb_26.below hb
  have h_c_27 := h_c_26.later hb
  have h_dl_27 := h_dl_26.below hb
  have h_db_27 := h_db_26.below hb
  have h_d_27 := h_d_26.later hb
  have h_rn_27 := h_rn_26.below hb
  have h_rd_27 := h_rd_26.below hb
  have h_r_27 := h_r_26.later hb
  have h_sn_27 := h_sn_26.below hb
  have h_sd_27 := h_sd_26.below hb
  have h_s_27 := h_s_26.later hb
  clear hb B26 h_pl_26 h_pb_26 h_ql_26 h_qb_26 h_v_26 h_xn_26 h_xd_26 h_p_26 h_q_26 h_x_26 h_al_26 h_ab_26 h_a_26 h_bl_26 h_bb_26 h_b_26 h_cl_26 h_cb_26 h_c_26 h_dl_26 h_db_26 h_d_26 h_rn_26 h_rd_26 h_r_26 h_sn_26 h_sd_26 h_s_26
  go_wp2_with fail
  clear hHeld
  refine hK.out _ _ ?_ (fun hHeld => ?_)
  · exact ⟨h_p_27.cell 0 _ rfl, h_p_27.cell 1 _ rfl, h_p_27.cell 2 _ rfl, h_p_27.cell 3 _ rfl, h_p_27.cell 4 _ rfl, h_p_27.cell 5 _ rfl, h_p_27.cell 6 _ rfl, h_p_27.cell 7 _ rfl, h_p_27.cell 8 _ rfl, h_p_27.cell 9 _ rfl, h_q_27.cell 0 _ rfl, h_q_27.cell 1 _ rfl, h_q_27.cell 2 _ rfl, h_q_27.cell 3 _ rfl, h_q_27.cell 4 _ rfl, h_q_27.cell 5 _ rfl, h_q_27.cell 6 _ rfl, h_q_27.cell 7 _ rfl, h_q_27.cell 8 _ rfl, h_q_27.cell 9 _ rfl, trivial⟩
  clear hK K
  try simp only [Act.put, List.setIfInBounds_toArray, List.set_cons_zero, List.set_cons_succ]
  refine wpAnyH_ready (rs := [3]) (by kernel_rfl) (by simp) ?_
  refine AllReadyH.cons (o := ?or3_3) ?hor3_3 (fun K hK => ?kr3_3) AllReadyH.nil
  case hor3_3 => simp only [List.getElem?_toArray, List.getElem?_cons_succ, List.getElem?_cons_zero]; rfl
  go_simp
  have c := refCmCheck_any w27 (q := p) h_pl_27 h_pb_27 pw_p
  refine c.mono ?_
  rintro e w28 ⟨rfl, hb⟩
  clear c
  have B28 := B27.trans (hb.mono B27.size)
  have h_pl_28 := h_pl_27.below hb
  have h_pb_28 := h_pb_27.below hb
  have h_ql_28 := h_ql_27.below hb
  have h_qb_28 := h_qb_27.below hb
  have h_v_28 := h_v_27.below hb
  have h_xn_28 := h_xn_27.below hb
  have h_xd_28 := h_xd_27.below hb
  have h_p_28 := h_p_27.later hb
  have h_q_28 := h_q_27.later hb
  have h_x_28 := h_x_27.later hb
  have h_al_28 := h_al_27.below hb
  have h_ab_28 := h_ab_27.below hb
  have h_a_28 := h_a_27.later hb
  have h_bl_28 := h_bl_27.below hb
  have h_bb_28 := h_bb_27.below hb
  have h_b_28 := h_b_27.later hb
  have h_cl_28 := h_cl_27.below hb
  have h_cb_28 := h_cb_27.below hb
  have h_c_28 := h_c_27.later hb
  have h_dl_28 := h_dl_27.below hb
  have h_db_28 := h_db_27.below hb
  have h_d_28 := h_d_27.later hb
  have h_rn_28 := h_rn_27.below hb
  have h_rd_28 := h_rd_27.below hb
  have h_r_28 := h_r_27.later hb
  have h_sn_28 := h_sn_27.below hb
  have h_sd_28 := h_sd_27.below hb
  have h_s_28 := h_s_27.later hb
  clear hb B27 h_pl_27 h_pb_27 h_ql_27 h_qb_27 h_v_27 h_xn_27 h_xd_27 h_p_27 h_q_27 h_x_27 h_al_27 h_ab_27 h_a_27 h_bl_27 h_bb_27 h_b_27 h_cl_27 h_cb_27 h_c_27 h_dl_27 h_db_27 h_d_27 h_rn_27 h_rd_27 h_r_27 h_sn_27 h_sd_27 h_s_27
  go_wp2_with fail
  clear hHeld
  refine hK.out _ _ ?_ (fun hHeld => ?_)
  · exact ⟨h_p_28.cell 0 _ rfl, h_p_28.cell 1 _ rfl, h_p_28.cell 2 _ rfl, h_p_28.cell 3 _ rfl, h_p_28.cell 4 _ rfl, h_p_28.cell 5 _ rfl, h_p_28.cell 6 _ rfl, h_p_28.cell 7 _ rfl, h_p_28.cell 8 _ rfl, h_p_28.cell 9 _ rfl, h_q_28.cell 0 _ rfl, h_q_28.cell 1 _ rfl, h_q_28.cell 2 _ rfl, h_q_28.cell 3 _ rfl, h_q_28.cell 4 _ rfl, h_q_28.cell 5 _ rfl, h_q_28.cell 6 _ rfl, h_q_28.cell 7 _ rfl, h_q_28.cell 8 _ rfl, h_q_28.cell 9 _ rfl, trivial⟩
  clear hK K
  try simp only [Act.put, List.setIfInBounds_toArray, List.set_cons_zero, List.set_cons_succ]
  refine wpAnyH_take (i := 4) (oi := ?a4_4) (v := ?b4_4) ?c4_4 (by kernel_rfl) (by kernel_rfl) (by kernel_rfl) ?d4_4 ?e4_4 (by assumption) ?f4_4
  case c4_4 => simp only [tA, tS, tZ]; rfl
  case d4_4 => exact fun _ _ _ h => h
  case e4_4 => (refine Or.inl ⟨by rfl, ?_⟩; intro w h; (try dsimp only at h); go_simp; all_goals with_reducible rfl)
  try simp only [Act.put, tI, tP, tQ]
  refine wpAnyH_take (i := 5) (oi := ?a4_5) (v := ?b4_5) ?c4_5 (by kernel_rfl) (by kernel_rfl) (by kernel_rfl) ?d4_5 ?e4_5 (by assumption) ?f4_5
  case c4_5 => simp only [tA, tS, tZ]; rfl
  case d4_5 => exact fun _ _ _ h => h
  case e4_5 => (refine Or.inl ⟨by rfl, ?_⟩; intro w h; (try dsimp only at h); go_simp; all_goals with_reducible rfl)
  try simp only [Act.put, tI, tP, tQ]
  refine wpAnyH_take (i := 6) (oi := ?a4_6) (v := ?b4_6) ?c4_6 (by kernel_rfl) (by kernel_rfl) (by kernel_rfl) ?d4_6 ?e4_6 (by assumption) ?f4_6
  case c4_6 => simp only [tA, tS, tZ]; rfl
  case d4_6 => exact fun _ _ _ h => h
  case e4_6 => (refine Or.inl ⟨by rfl, ?_⟩; intro w h; (try dsimp only at h); go_simp; all_goals with_reducible rfl)
  try simp only [Act.put, tI, tP, tQ]
  refine wpAnyH_take (i := 7) (oi := ?a4_7) (v := ?b4_7) ?c4_7 (by kernel_rfl) (by kernel_rfl) (by kernel_rfl) ?d4_7 ?e4_7 (by assumption) ?f4_7
  case c4_7 => simp only [tA, tS, tZ]; rfl
  case d4_7 => exact fun _ _ _ h => h
  case e4_7 => (refine Or.inl ⟨by rfl, ?_⟩; intro w h; (try dsimp only at h); go_simp; all_goals with_reducible rfl)
  try simp only [Act.put, tI, tP, tQ]
  refine wpAnyH_take (i := 9) (oi := ?a4_9) (v := ?b4_9) ?c4_9 (by kernel_rfl) (by kernel_rfl) (by kernel_rfl) ?d4_9 ?e4_9 (by assumption) ?f4_9
  case c4_9 => simp only [tA, tS, tZ]; rfl
  case d4_9 => exact fun _ _ _ h => h
  case e4_9 => (refine Or.inl ⟨by rfl, ?_⟩; intro w h; (try dsimp only at h); go_simp; all_goals with_reducible rfl)
  try simp only [Act.put, tI, tP, tQ]
  refine wpAnyH_take (i := 10) (oi := ?a4_10) (v := ?b4_10) ?c4_10 (by kernel_rfl) (by kernel_rfl) (by kernel_rfl) ?d4_10 ?e4_10 (by assumption) ?f4_10
  case c4_10 => simp only [tA, tS, tZ]; rfl
  case d4_10 => exact fun _ _ _ h => h
  case e4_10 => (refine Or.inl ⟨by rfl, ?_⟩; intro w h; (try dsimp only at h); go_simp; all_goals with_reducible rfl)
  try simp only [Act.put, tI, tP, tQ]
  refine wpAnyH_ready (rs := [8]) (by kernel_rfl) (by simp) ?_
  refine AllReadyH.cons (o := ?or5_8) ?hor5_8 (fun K hK => ?kr5_8) AllReadyH.nil
  case hor5_8 => simp only [List.getElem?_toArray, List.getElem?_cons_succ, List.getElem?_cons_zero]; rfl
  go_simp
  have c := cmSame_any w28 (p := p) (q := q) h_pl_28 h_pb_28 h_ql_28 h_qb_28
  refine c.mono ?_
  rintro e w29 ⟨rfl, hb⟩
  clear c
  have B29 := B28.trans (hb.mono B28.size)
  have h_pl_29 := h_pl_28.below hb
  have h_pb_29 := h_pb_28.below hb
  have h_ql_29 := h_ql_28.below hb
  have h_qb_29 := h_qb_28.below hb
  have h_v_29 := h_v_28.below hb
  have h_xn_29 := h_xn_28.below hb
  have h_xd_29 := h_xd_28.below hb
  have h_p_29 := h_p_28.later hb
  have h_q_29 := h_q_28.later hb
  have h_x_29 := h_x_28.later hb
  have h_al_29 := h_al_28.below hb
  have h_ab_29 := h_ab_28.below hb
  have h_a_29 := h_a_28.later hb
  have h_bl_29 := h_bl_28.below hb
  have h_bb_29 := h_bb_28.below hb
  have h_b_29 := h_b_28.later hb
  have h_cl_29 := h_cl_28.below hb
  have h_cb_29 := h_cb_28.below hb
  have h_c_29 := h_c_28.later hb
  have h_dl_29 := h_dl_28.below hb
  have h_db_29 := h_db_28.below hb
  have h_d_29 := h_d_28.later hb
  have h_rn_29 := h_rn_28.below hb
  have h_rd_29 := h_rd_28.below hb
  have h_r_29 := h_r_28.later hb
  have h_sn_29 := h_sn_28.below hb
  have h_sd_29 := h_sd_28.below hb
  have h_s_29 := h_s_28.later hb
  clear hb B28 h_pl_28 h_pb_28 h_ql_28 h_qb_28 h_v_28 h_xn_28 h_xd_28 h_p_28 h_q_28 h_x_28 h_al_28 h_ab_28 h_a_28 h_bl_28 h_bb_28 h_b_28 h_cl_28 h_cb_28 h_c_28 h_dl_28 h_db_28 h_d_28 h_rn_28 h_rd_28 h_r_28 h_sn_28 h_sd_28 h_s_28
  go_wp2_with fail
  clear hHeld
  refine hK.out _ _ ?_ (fun hHeld => ?_)
  · exact ⟨h_p_29.cell 0 _ rfl, h_p_29.cell 1 _ rfl, h_p_29.cell 2 _ rfl, h_p_29.cell 3 _ rfl, h_p_29.cell 4 _ rfl, h_p_29.cell 5 _ rfl, h_p_29.cell 6 _ rfl, h_p_29.cell 7 _ rfl, h_p_29.cell 8 _ rfl, h_p_29.cell 9 _ rfl, h_q_29.cell 0 _ rfl, h_q_29.cell 1 _ rfl, h_q_29.cell 2 _ rfl, h_q_29.cell 3 _ rfl, h_q_29.cell 4 _ rfl, h_q_29.cell 5 _ rfl, h_q_29.cell 6 _ rfl, h_q_29.cell 7 _ rfl, h_q_29.cell 8 _ rfl, h_q_29.cell 9 _ rfl, trivial⟩
  clear hK K
  try simp only [Act.put, List.setIfInBounds_toArray, List.set_cons_zero, List.set_cons_succ]
  refine wpAnyH_ready (rs := [11]) (by kernel_rfl) (by simp) ?_
  refine AllReadyH.cons (o := ?or6_11) ?hor6_11 (fun K hK => ?kr6_11) AllReadyH.nil
  case hor6_11 => simp only [List.getElem?_toArray, List.getElem?_cons_succ, List.getElem?_cons_zero]; rfl
  go_simp
  have c := refCmSame_any w29 (p := p) (q := q) h_pl_29 h_pb_29 h_ql_29 h_qb_29
  refine c.mono ?_
  rintro e w30 ⟨rfl, hb⟩
  clear c
  have B30 := B29.trans (hb.mono B29.size)
  have h_pl_30 := h_pl_29.below hb
  have h_pb_30 := h_pb_29.below hb
  have h_ql_30 := h_ql_29.below hb
  have h_qb_30 := h_qb_29.below hb
  have h_v_30 := h_v_29.below hb
  have h_xn_30 := h_xn_29.below hb
  have h_xd_30 := h_xd_29.below hb
  have h_p_30 := h_p_29.later hb
  have h_q_30 := h_q_29.later hb
  have h_x_30 := h_x_29.later hb
  have h_al_30 := h_al_29.below hb
  have h_ab_30 := h_ab_29.below hb
  have h_a_30 := h_a_29.later hb
  have h_bl_30 := h_bl_29.below hb
  have h_bb_30 := h_bb_29.below hb
  have h_b_30 := h_b_29.later hb
  have h_cl_30 := h_cl_29.below hb
  have h_cb_30 := h_cb_29.below hb
  have h_c_30 := h_c_29.later hb
  have h_dl_30 := h_dl_29.below hb
  have h_db_30 := h_db_29.below hb
  have h_d_30 := h_d_29.later hb
  have h_rn_30 := h_rn_29.below hb
  have h_rd_30 := h_rd_29.below hb
  have h_r_30 := h_r_29.later hb
  have h_sn_30 := h_sn_29.below hb
  have h_sd_30 := h_sd_29.below hb
  have h_s_30 := h_s_29.later hb
  clear hb B29 h_pl_29 h_pb_29 h_ql_29 h_qb_29 h_v_29 h_xn_29 h_xd_29 h_p_29 h_q_29 h_x_29 h_al_29 h_ab_29 h_a_29 h_bl_29 h_bb_29 h_b_29 h_cl_29 h_cb_29 h_c_29 h_dl_29 h_db_29 h_d_29 h_rn_29 h_rd_29 h_r_29 h_sn_29 h_sd_29 h_s_29
  go_wp2_with fail
  clear hHeld
  refine hK.out _ _ ?_ (fun hHeld => ?_)
  · exact ⟨h_p_30.cell 0 _ rfl, h_p_30.cell 1 _ rfl, h_p_30.cell 2 _ rfl, h_p_30.cell 3 _ rfl, h_p_30.cell 4 _ rfl, h_p_30.cell 5 _ rfl, h_p_30.cell 6 _ rfl, h_p_30.cell 7 _ rfl, h_p_30.cell 8 _ rfl, h_p_30.cell 9 _ rfl, h_q_30.cell 0 _ rfl, h_q_30.cell 1 _ rfl, h_q_30.cell 2 _ rfl, h_q_30.cell 3 _ rfl, h_q_30.cell 4 _ rfl, h_q_30.cell 5 _ rfl, h_q_30.cell 6 _ rfl, h_q_30.cell 7 _ rfl, h_q_30.cell 8 _ rfl, h_q_30.cell 9 _ rfl, trivial⟩
  clear hK K
  try simp only [Act.put, List.setIfInBounds_toArray, List.set_cons_zero, List.set_cons_succ]
  refine wpAnyH_take (i := 12) (oi := ?a7_12) (v := ?b7_12) ?c7_12 (by kernel_rfl) (by kernel_rfl) (by kernel_rfl) ?d7_12 ?e7_12 (by assumption) ?f7_12
  case c7_12 => simp only [tA, tS, tZ]; rfl
  case d7_12 => exact fun _ _ _ h => h
  case e7_12 => (refine Or.inl ⟨by rfl, ?_⟩; intro w h; (try dsimp only at h); go_simp; all_goals with_reducible rfl)
  try simp only [Act.put, tI, tP, tQ]
  refine wpAnyH_take (i := 13) (oi := ?a7_13) (v := ?b7_13) ?c7_13 (by kernel_rfl) (by kernel_rfl) (by kernel_rfl) ?d7_13 ?e7_13 (by assumption) ?f7_13
  case c7_13 => simp only [tA, tS, tZ]; rfl
  case d7_13 => exact fun _ _ _ h => h
  case e7_13 => (refine Or.inl ⟨by rfl, ?_⟩; intro w h; (try dsimp only at h); go_simp; all_goals with_reducible rfl)
  try simp only [Act.put, tI, tP, tQ]
  refine wpAnyH_take (i := 14) (oi := ?a7_14) (v := ?b7_14) ?c7_14 (by kernel_rfl) (by kernel_rfl) (by kernel_rfl) ?d7_14 ?e7_14 (by assumption) ?f7_14
  case c7_14 => simp only [tA, tS, tZ]; rfl
  case d7_14 => exact fun _ _ _ h => h
  case e7_14 => (refine Or.inl ⟨by rfl, ?_⟩; intro w h; (try dsimp only at h); go_simp; all_goals with_reducible rfl)
  try simp only [Act.put, tI, tP, tQ]
  refine wpAnyH_ready (rs := [15]) (by kernel_rfl) (by simp) ?_
  refine AllReadyH.cons (o := ?or8_15) ?hor8_15 (fun K hK => ?kr8_15) AllReadyH.nil
  case hor8_15 => simp only [List.getElem?_toArray, List.getElem?_cons_succ, List.getElem?_cons_zero]; rfl
  go_simp
  have c := examples_any w30
  refine c.mono ?_
  rintro e w31 ⟨rfl, hb⟩
  clear c
  have B31 := B30.trans (hb.mono B30.size)
  have h_pl_31 := h_pl_30.below hb
  have h_pb_31 := h_pb_30.below hb
  have h_ql_31 := h_ql_30.below hb
  have h_qb_31 := h_qb_30.below hb
  have h_v_31 := h_v_30.below hb
  have h_xn_31 := h_xn_30.below hb
  have h_xd_31 := h_xd_30.below hb
  have h_p_31 := h_p_30.later hb
  have h_q_31 := h_q_30.later hb
  have h_x_31 := h_x_30.later hb
  have h_al_31 := h_al_30.below hb
  have h_ab_31 := h_ab_30.below hb
  have h_a_31 := h_a_30.later hb
  have h_bl_31 := h_bl_30.below hb
  have h_bb_31 := h_bb_30.below hb
  have h_b_31 := h_b_30.later hb
  have h_cl_31 := h_cl_30.below hb
  have h_cb_31 := h_cb_30.below hb
  have h_c_31 := h_c_30.later hb
  have h_dl_31 := h_dl_30.below hb
  have h_db_31 := h_db_30.below hb
  have h_d_31 := h_d_30.later hb
  have h_rn_31 := h_rn_30.below hb
  have h_rd_31 := h_rd_30.below hb
  have h_r_31 := h_r_30.later hb
  have h_sn_31 := h_sn_30.below hb
  have h_sd_31 := h_sd_30.below hb
  have h_s_31 := h_s_30.later hb
  clear hb B30 h_pl_30 h_pb_30 h_ql_30 h_qb_30 h_v_30 h_xn_30 h_xd_30 h_p_30 h_q_30 h_x_30 h_al_30 h_ab_30 h_a_30 h_bl_30 h_bb_30 h_b_30 h_cl_30 h_cb_30 h_c_30 h_dl_30 h_db_30 h_d_30 h_rn_30 h_rd_30 h_r_30 h_sn_30 h_sd_30 h_s_30
  go_wp2_with fail
  clear hHeld
  refine hK.out _ _ ?_ (fun hHeld => ?_)
  · exact ⟨h_p_31.cell 0 _ rfl, h_p_31.cell 1 _ rfl, h_p_31.cell 2 _ rfl, h_p_31.cell 3 _ rfl, h_p_31.cell 4 _ rfl, h_p_31.cell 5 _ rfl, h_p_31.cell 6 _ rfl, h_p_31.cell 7 _ rfl, h_p_31.cell 8 _ rfl, h_p_31.cell 9 _ rfl, h_q_31.cell 0 _ rfl, h_q_31.cell 1 _ rfl, h_q_31.cell 2 _ rfl, h_q_31.cell 3 _ rfl, h_q_31.cell 4 _ rfl, h_q_31.cell 5 _ rfl, h_q_31.cell 6 _ rfl, h_q_31.cell 7 _ rfl, h_q_31.cell 8 _ rfl, h_q_31.cell 9 _ rfl, trivial⟩
  clear hK K
  try simp only [Act.put, List.setIfInBounds_toArray, List.set_cons_zero, List.set_cons_succ]
  refine wpAnyH_take (i := 16) (oi := ?a9_16) (v := ?b9_16) ?c9_16 (by kernel_rfl) (by kernel_rfl) (by kernel_rfl) ?d9_16 ?e9_16 (by assumption) ?f9_16
  case c9_16 => simp only [tA, tS, tZ]; rfl
  case d9_16 => exact fun _ _ _ h => h
  case e9_16 => (refine Or.inl ⟨by rfl, ?_⟩; intro w h; (try dsimp only at h); go_simp; all_goals with_reducible rfl)
  try simp only [Act.put, tI, tP, tQ]
  refine wpAnyH_take (i := 17) (oi := ?a9_17) (v := ?b9_17) ?c9_17 (by kernel_rfl) (by kernel_rfl) (by kernel_rfl) ?d9_17 ?e9_17 (by assumption) ?f9_17
  case c9_17 => simp only [tA, tS, tZ]; rfl
  case d9_17 => exact fun _ _ _ h => h
  case e9_17 => (refine Or.inl ⟨by rfl, ?_⟩; intro w h; (try dsimp only at h); go_simp; all_goals with_reducible rfl)
  try simp only [Act.put, tI, tP, tQ]
  refine wpAnyH_done (by kernel_rfl) ?_ _
  clear hHeld
  go_wp2_with fail
  go_ret
  exact ⟨rfl, B31⟩

end Go.Proofs.Ytmkcdlhhbnakiaa
