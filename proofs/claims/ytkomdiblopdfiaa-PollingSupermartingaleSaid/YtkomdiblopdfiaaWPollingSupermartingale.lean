/- The walk of the law PollingSupermartingale: it returns true and turns nothing that was there. No condition. Printed by gen_pollaws.py. -/
import Derived.Test.YtkomdiblopdfiaaPolW
import Derived.Test.YtkomdiblopdfiaaPolT
import Derived.Deep.CutRange
import Derived.BigQuiet
namespace Go.Proofs.Ytkomdiblopdfiaa
open Go.RowKit Go.Suf
set_option linter.unusedVariables false
set_option linter.unusedSimpArgs false

set_option maxRecDepth 100000 in
set_option maxHeartbeats 8000000 in
theorem pollingSupermartingale_walk (w : World) {p : PV} {a_p b_p : Option Addr} {n_p c_p m_p d_p : Nat} (h_pl : Rd .u32 w a_p n_p c_p p.lev) (h_pb : Rd .u32 w b_p m_p d_p p.best) (pw_p : PW p) {m0 m1 m2 : Int} (h_m0 : wide64 m0) (h_m1 : wide64 m1) (h_m2 : wide64 m2) :
    Calls Try.prog 6 #[polV p a_p n_p c_p b_p m_p d_p, .agg #[.int .i64 m0, .int .i64 m1, .int .i64 m2]] w fun e w' => e = .returned (.bool true) ∧ Below w.heap.size w w' := by
  have B0 : Below w.heap.size w w := Below.refl _ _
  have h_pl_0 := h_pl
  have h_pb_0 := h_pb
  by_cases e1 : greatP p = true
  case pos =>
    go_enter Try.func6, Try.ntmps6
    have hb := below_al w (.cells (polC p a_p n_p c_p b_p m_p d_p) 25)
    have B1 := B0.trans (hb.mono B0.size)
    have h_pl_1 := h_pl_0.below hb
    have h_pb_1 := h_pb_0.below hb
    clear hb B0 h_pl_0 h_pb_0
    have h_p_1 := Has.new w (polC p a_p n_p c_p b_p m_p d_p) 25
    have hb := below_al (w.alloc (.cells (polC p a_p n_p c_p b_p m_p d_p) 25)) (.cells #[.int .i64 m0, .int .i64 m1, .int .i64 m2] 22)
    have B2 := B1.trans (hb.mono B1.size)
    have h_pl_2 := h_pl_1.below hb
    have h_pb_2 := h_pb_1.below hb
    have h_p_2 := h_p_1.later hb
    clear hb B1 h_pl_1 h_pb_1 h_p_1
    have h_m_2 := Has.new (w.alloc (.cells (polC p a_p n_p c_p b_p m_p d_p) 25)) #[.int .i64 m0, .int .i64 m1, .int .i64 m2] 22
    simp only [World.size_alloc] at h_m_2
    have k_p_0 := h_p_2.cell 0 _ rfl
    have k_p_1 := h_p_2.cell 1 _ rfl
    have k_p_2 := h_p_2.cell 2 _ rfl
    have k_p_3 := h_p_2.cell 3 _ rfl
    have k_p_4 := h_p_2.cell 4 _ rfl
    have k_p_5 := h_p_2.cell 5 _ rfl
    go_wp2_with fail
    clear k_p_0 k_p_1 k_p_2 k_p_3 k_p_4 k_p_5
    generalize ((w.alloc (.cells (polC p a_p n_p c_p b_p m_p d_p) 25)).alloc (.cells #[.int .i64 m0, .int .i64 m1, .int .i64 m2] 22)) = w2 at *
    have c := great_any w2 (p := p) h_pl_2 h_pb_2
    rw [e1] at c
    refine c.mono ?_
    rintro e w3 ⟨rfl, hb⟩
    clear c
    have B3 := B2.trans (hb.mono B2.size)
    have h_pl_3 := h_pl_2.below hb
    have h_pb_3 := h_pb_2.below hb
    have h_p_3 := h_p_2.later hb
    have h_m_3 := h_m_2.later hb
    clear hb B2 h_pl_2 h_pb_2 h_p_2 h_m_2
    go_wp2_with fail
    have c := examples_any w3
    refine c.mono ?_
    rintro e w4 ⟨rfl, hb⟩
    clear c
    have B4 := B3.trans (hb.mono B3.size)
    have h_pl_4 := h_pl_3.below hb
    have h_pb_4 := h_pb_3.below hb
    have h_p_4 := h_p_3.later hb
    have h_m_4 := h_m_3.later hb
    clear hb B3 h_pl_3 h_pb_3 h_p_3 h_m_3
    go_wp2_with fail
    go_ret
    exact ⟨rfl, B4⟩
  have E1 := Lib.hid (show greatP p = false by simpa using e1)
  clear e1
  by_cases e2 : chkP p = 0
  case neg =>
    have e2 := (chkP_two p).resolve_left e2
    go_enter Try.func6, Try.ntmps6
    have hb := below_al w (.cells (polC p a_p n_p c_p b_p m_p d_p) 25)
    have B1 := B0.trans (hb.mono B0.size)
    have h_pl_1 := h_pl_0.below hb
    have h_pb_1 := h_pb_0.below hb
    clear hb B0 h_pl_0 h_pb_0
    have h_p_1 := Has.new w (polC p a_p n_p c_p b_p m_p d_p) 25
    have hb := below_al (w.alloc (.cells (polC p a_p n_p c_p b_p m_p d_p) 25)) (.cells #[.int .i64 m0, .int .i64 m1, .int .i64 m2] 22)
    have B2 := B1.trans (hb.mono B1.size)
    have h_pl_2 := h_pl_1.below hb
    have h_pb_2 := h_pb_1.below hb
    have h_p_2 := h_p_1.later hb
    clear hb B1 h_pl_1 h_pb_1 h_p_1
    have h_m_2 := Has.new (w.alloc (.cells (polC p a_p n_p c_p b_p m_p d_p) 25)) #[.int .i64 m0, .int .i64 m1, .int .i64 m2] 22
    simp only [World.size_alloc] at h_m_2
    have k_p_0 := h_p_2.cell 0 _ rfl
    have k_p_1 := h_p_2.cell 1 _ rfl
    have k_p_2 := h_p_2.cell 2 _ rfl
    have k_p_3 := h_p_2.cell 3 _ rfl
    have k_p_4 := h_p_2.cell 4 _ rfl
    have k_p_5 := h_p_2.cell 5 _ rfl
    go_wp2_with fail
    clear k_p_0 k_p_1 k_p_2 k_p_3 k_p_4 k_p_5
    generalize ((w.alloc (.cells (polC p a_p n_p c_p b_p m_p d_p) 25)).alloc (.cells #[.int .i64 m0, .int .i64 m1, .int .i64 m2] 22)) = w2 at *
    have c := great_any w2 (p := p) h_pl_2 h_pb_2
    rw [E1.out] at c
    refine c.mono ?_
    rintro e w3 ⟨rfl, hb⟩
    clear c
    have B3 := B2.trans (hb.mono B2.size)
    have h_pl_3 := h_pl_2.below hb
    have h_pb_3 := h_pb_2.below hb
    have h_p_3 := h_p_2.later hb
    have h_m_3 := h_m_2.later hb
    clear hb B2 h_pl_2 h_pb_2 h_p_2 h_m_2
    have k_p_0 := h_p_3.cell 0 _ rfl
    have k_p_1 := h_p_3.cell 1 _ rfl
    have k_p_2 := h_p_3.cell 2 _ rfl
    have k_p_3 := h_p_3.cell 3 _ rfl
    have k_p_4 := h_p_3.cell 4 _ rfl
    have k_p_5 := h_p_3.cell 5 _ rfl
    go_wp2_with fail
    clear k_p_0 k_p_1 k_p_2 k_p_3 k_p_4 k_p_5
    have c := refPolCheck_any w3 (q := p) h_pl_3 h_pb_3 pw_p
    rw [e2] at c
    refine c.mono ?_
    rintro e w4 ⟨rfl, hb⟩
    clear c
    have B4 := B3.trans (hb.mono B3.size)
    have h_pl_4 := h_pl_3.below hb
    have h_pb_4 := h_pb_3.below hb
    have h_p_4 := h_p_3.later hb
    have h_m_4 := h_m_3.later hb
    clear hb B3 h_pl_3 h_pb_3 h_p_3 h_m_3
    go_wp2_with fail
    have c := examples_any w4
    refine c.mono ?_
    rintro e w5 ⟨rfl, hb⟩
    clear c
    have B5 := B4.trans (hb.mono B4.size)
    have h_pl_5 := h_pl_4.below hb
    have h_pb_5 := h_pb_4.below hb
    have h_p_5 := h_p_4.later hb
    have h_m_5 := h_m_4.later hb
    clear hb B4 h_pl_4 h_pb_4 h_p_4 h_m_4
    go_wp2_with fail
    go_ret
    exact ⟨rfl, B5⟩
  have E2 := Lib.hid e2
  clear e2
  go_enter Try.func6, Try.ntmps6
  have hb := below_al w (.cells (polC p a_p n_p c_p b_p m_p d_p) 25)
  have B1 := B0.trans (hb.mono B0.size)
  have h_pl_1 := h_pl_0.below hb
  have h_pb_1 := h_pb_0.below hb
  clear hb B0 h_pl_0 h_pb_0
  have h_p_1 := Has.new w (polC p a_p n_p c_p b_p m_p d_p) 25
  have hb := below_al (w.alloc (.cells (polC p a_p n_p c_p b_p m_p d_p) 25)) (.cells #[.int .i64 m0, .int .i64 m1, .int .i64 m2] 22)
  have B2 := B1.trans (hb.mono B1.size)
  have h_pl_2 := h_pl_1.below hb
  have h_pb_2 := h_pb_1.below hb
  have h_p_2 := h_p_1.later hb
  clear hb B1 h_pl_1 h_pb_1 h_p_1
  have h_m_2 := Has.new (w.alloc (.cells (polC p a_p n_p c_p b_p m_p d_p) 25)) #[.int .i64 m0, .int .i64 m1, .int .i64 m2] 22
  simp only [World.size_alloc] at h_m_2
  have k_p_0 := h_p_2.cell 0 _ rfl
  have k_p_1 := h_p_2.cell 1 _ rfl
  have k_p_2 := h_p_2.cell 2 _ rfl
  have k_p_3 := h_p_2.cell 3 _ rfl
  have k_p_4 := h_p_2.cell 4 _ rfl
  have k_p_5 := h_p_2.cell 5 _ rfl
  go_wp2_with fail
  clear k_p_0 k_p_1 k_p_2 k_p_3 k_p_4 k_p_5
  generalize ((w.alloc (.cells (polC p a_p n_p c_p b_p m_p d_p) 25)).alloc (.cells #[.int .i64 m0, .int .i64 m1, .int .i64 m2] 22)) = w2 at *
  have c := great_any w2 (p := p) h_pl_2 h_pb_2
  rw [E1.out] at c
  refine c.mono ?_
  rintro e w3 ⟨rfl, hb⟩
  clear c
  have B3 := B2.trans (hb.mono B2.size)
  have h_pl_3 := h_pl_2.below hb
  have h_pb_3 := h_pb_2.below hb
  have h_p_3 := h_p_2.later hb
  have h_m_3 := h_m_2.later hb
  clear hb B2 h_pl_2 h_pb_2 h_p_2 h_m_2
  have k_p_0 := h_p_3.cell 0 _ rfl
  have k_p_1 := h_p_3.cell 1 _ rfl
  have k_p_2 := h_p_3.cell 2 _ rfl
  have k_p_3 := h_p_3.cell 3 _ rfl
  have k_p_4 := h_p_3.cell 4 _ rfl
  have k_p_5 := h_p_3.cell 5 _ rfl
  go_wp2_with fail
  clear k_p_0 k_p_1 k_p_2 k_p_3 k_p_4 k_p_5
  have c := refPolCheck_any w3 (q := p) h_pl_3 h_pb_3 pw_p
  rw [E2.out] at c
  refine c.mono ?_
  rintro e w4 ⟨rfl, hb⟩
  clear c
  have B4 := B3.trans (hb.mono B3.size)
  have h_pl_4 := h_pl_3.below hb
  have h_pb_4 := h_pb_3.below hb
  have h_p_4 := h_p_3.later hb
  have h_m_4 := h_m_3.later hb
  clear hb B3 h_pl_3 h_pb_3 h_p_3 h_m_3
  obtain ⟨La, Wa, vld0⟩ := chkP_get (fun x hx => h_pl_4.bd x hx) (fun x hx => h_pb_4.bd x hx) E2.out
  have V0 := Lib.hid vld0
  obtain ⟨K0, hK0⟩ : ∃ K, K = newL p 0 La := ⟨_, rfl⟩
  obtain ⟨K1, hK1⟩ : ∃ K, K = newL p 1 La := ⟨_, rfl⟩
  obtain ⟨K2, hK2⟩ : ∃ K, K = newL p 2 La := ⟨_, rfl⟩
  have KK := Lib.hid (show K0 = newL p 0 La ∧ K1 = newL p 1 La ∧ K2 = newL p 2 La from ⟨hK0, hK1, hK2⟩)
  have KB := Lib.hid (show K0 < pw 5 ∧ K1 < pw 5 ∧ K2 < pw 5 by rw [hK0, hK1, hK2]; exact ⟨newL_lt, newL_lt, newL_lt⟩)
  have KM := Lib.hid (show K0 ≤ K1 ∧ K1 ≤ K2 by rw [hK0, hK1, hK2]; exact ⟨newL_mono vld0.bet (by decide) (by decide), newL_mono vld0.bet (by decide) (by decide)⟩)
  have WM := Lib.hid (⟨h_m0, h_m1, h_m2⟩ : wide64 m0 ∧ wide64 m1 ∧ wide64 m2)
  have BASE := B4
  clear hK0 hK1 hK2 vld0
  go_wp2_with fail
  go_loopw [5, 6, 7, 8, 9] (fun s a v l i wr => Below w4.heap.size w4 wr ∧ ∃ (sa : Option Addr) (sn sc : Nat) (la : Option Addr) (ln lc : Nat) (Sv Lv : Nat), s = .slice sa sn sc ∧ l = .slice la ln lc ∧ Rd .u32 wr sa sn sc (limbs Sv) ∧ Rd .u32 wr la ln lc (limbs Lv) ∧
      ((i = .int .i64 0 ∧ a = .int .i64 0 ∧ v = .int .i64 0 ∧ Hid (Sv = 0 ∧ Lv = 0)) ∨
       (i = .int .i64 1 ∧ a = .int .i64 m0 ∧ v = .int .i64 0 ∧ Hid ((0 ≤ m0 ∧ m0 ≤ 1000) ∧ Sv = K0 * m0.toNat ∧ Lv = K0)) ∨
       (i = .int .i64 2 ∧ a = .int .i64 (m0 + m1) ∧ v = .int .i64 m1 ∧ Hid ((0 ≤ m0 ∧ m0 ≤ 1000) ∧ (0 ≤ m1 ∧ m1 ≤ 1000) ∧ Sv = K0 * m0.toNat + K1 * m1.toNat ∧ Lv = K1)) ∨
       (i = .int .i64 3 ∧ a = .int .i64 (m0 + m1 + m2) ∧ v = .int .i64 (m1 + 2 * m2) ∧ Hid ((0 ≤ m0 ∧ m0 ≤ 1000) ∧ (0 ≤ m1 ∧ m1 ≤ 1000) ∧ (0 ≤ m2 ∧ m2 ≤ 1000) ∧ Sv = K0 * m0.toNat + K1 * m1.toNat + K2 * m2.toNat)))) (fun _ _ _ _ i _ => 3 - (intOf i).toNat)
  case atStart =>
    refine ⟨?_, _, _, _, _, _, _, 0, 0, rfl, rfl, ?_, ?_, .inl ⟨rfl, rfl, rfl, Lib.hid ⟨rfl, rfl⟩⟩⟩
    · exact (below_al _ _).trans ((below_al _ _).mono (by simp))
    · rw [limbs_zero]; exact rd_empty _ _
    · rw [limbs_zero]; exact rd_empty _ _
  case round =>
    obtain ⟨BW, sa, sn, sc, la, ln, lc, Sv, Lv, rfl, rfl, rs, rl, hways⟩ := hrel
    rcases hways with ⟨rfl, rfl, rfl, HI⟩ | ⟨rfl, rfl, rfl, HI⟩ | ⟨rfl, rfl, rfl, HI⟩ | ⟨rfl, rfl, rfl, HI⟩
    · have B100 := BASE.trans (BW.mono BASE.size)
      have h_pl_100 := h_pl_4.below BW
      have h_pb_100 := h_pb_4.below BW
      have h_p_100 := h_p_4.later BW
      have h_m_100 := h_m_4.later BW
      have h_s_100 := rs
      have h_l_100 := rl
      have h_BW_100 := BW
      clear rs rl BW
      by_cases x0 : m0 < 0
      case pos =>
        have dd : decide (m0 < 0) = true := decide_eq_true x0
        clear x0
        have k_m_0 := h_m_100.cell 0 _ rfl
        have k_m_1 := h_m_100.cell 1 _ rfl
        have k_m_2 := h_m_100.cell 2 _ rfl
        have k_p_0 := h_p_100.cell 0 _ rfl
        have k_p_1 := h_p_100.cell 1 _ rfl
        have k_p_2 := h_p_100.cell 2 _ rfl
        have k_p_3 := h_p_100.cell 3 _ rfl
        have k_p_4 := h_p_100.cell 4 _ rfl
        have k_p_5 := h_p_100.cell 5 _ rfl
        go_wp2_with fail
        clear k_m_0 k_m_1 k_m_2 k_p_0 k_p_1 k_p_2 k_p_3 k_p_4 k_p_5
        have c := examples_any wr
        refine c.mono ?_
        rintro e w101 ⟨rfl, hb⟩
        clear c
        have B101 := B100.trans (hb.mono B100.size)
        have h_pl_101 := h_pl_100.below hb
        have h_pb_101 := h_pb_100.below hb
        have h_p_101 := h_p_100.later hb
        have h_m_101 := h_m_100.later hb
        have h_s_101 := h_s_100.below hb
        have h_l_101 := h_l_100.below hb
        have h_BW_101 := h_BW_100.trans (hb.mono h_BW_100.size)
        clear hb B100 h_pl_100 h_pb_100 h_p_100 h_m_100 h_s_100 h_l_100 h_BW_100
        go_wp2_with fail
        go_ret
        exact ⟨rfl, B101⟩
      by_cases x1 : 1000 < m0
      case pos =>
        have dd : decide (m0 < 0) = false := decide_eq_false x0
        have de : decide (1000 < m0) = true := decide_eq_true x1
        clear x0 x1
        have k_m_0 := h_m_100.cell 0 _ rfl
        have k_m_1 := h_m_100.cell 1 _ rfl
        have k_m_2 := h_m_100.cell 2 _ rfl
        have k_p_0 := h_p_100.cell 0 _ rfl
        have k_p_1 := h_p_100.cell 1 _ rfl
        have k_p_2 := h_p_100.cell 2 _ rfl
        have k_p_3 := h_p_100.cell 3 _ rfl
        have k_p_4 := h_p_100.cell 4 _ rfl
        have k_p_5 := h_p_100.cell 5 _ rfl
        go_wp2_with fail
        clear k_m_0 k_m_1 k_m_2 k_p_0 k_p_1 k_p_2 k_p_3 k_p_4 k_p_5
        have c := examples_any wr
        refine c.mono ?_
        rintro e w101 ⟨rfl, hb⟩
        clear c
        have B101 := B100.trans (hb.mono B100.size)
        have h_pl_101 := h_pl_100.below hb
        have h_pb_101 := h_pb_100.below hb
        have h_p_101 := h_p_100.later hb
        have h_m_101 := h_m_100.later hb
        have h_s_101 := h_s_100.below hb
        have h_l_101 := h_l_100.below hb
        have h_BW_101 := h_BW_100.trans (hb.mono h_BW_100.size)
        clear hb B100 h_pl_100 h_pb_100 h_p_100 h_m_100 h_s_100 h_l_100 h_BW_100
        go_wp2_with fail
        go_ret
        exact ⟨rfl, B101⟩
      have dd : decide (m0 < 0) = false := decide_eq_false x0
      have de : decide (1000 < m0) = false := decide_eq_false x1
      have b0a : 0 ≤ m0 := by omega
      have b0b : m0 ≤ 1000 := by omega
      clear x0 x1
      by_cases x2 : p.s0 = 1000000
      case pos =>
        have df : (p.s0 == 1000000) = true := beq_iff_eq.2 x2
        clear x2
        have k_m_0 := h_m_100.cell 0 _ rfl
        have k_m_1 := h_m_100.cell 1 _ rfl
        have k_m_2 := h_m_100.cell 2 _ rfl
        have k_p_0 := h_p_100.cell 0 _ rfl
        have k_p_1 := h_p_100.cell 1 _ rfl
        have k_p_2 := h_p_100.cell 2 _ rfl
        have k_p_3 := h_p_100.cell 3 _ rfl
        have k_p_4 := h_p_100.cell 4 _ rfl
        have k_p_5 := h_p_100.cell 5 _ rfl
        go_wp2_with fail
        clear k_m_0 k_m_1 k_m_2 k_p_0 k_p_1 k_p_2 k_p_3 k_p_4 k_p_5
        have c := examples_any wr
        refine c.mono ?_
        rintro e w101 ⟨rfl, hb⟩
        clear c
        have B101 := B100.trans (hb.mono B100.size)
        have h_pl_101 := h_pl_100.below hb
        have h_pb_101 := h_pb_100.below hb
        have h_p_101 := h_p_100.later hb
        have h_m_101 := h_m_100.later hb
        have h_s_101 := h_s_100.below hb
        have h_l_101 := h_l_100.below hb
        have h_BW_101 := h_BW_100.trans (hb.mono h_BW_100.size)
        clear hb B100 h_pl_100 h_pb_100 h_p_100 h_m_100 h_s_100 h_l_100 h_BW_100
        go_wp2_with fail
        go_ret
        exact ⟨rfl, B101⟩
      have df : (p.s0 == 1000000) = false := beq_eq_false_iff_ne.2 x2
      have OB := Lib.hid (obs_one V0.out (x := 0) (by decide) (by decide) x2)
      have SL := Lib.hid ((step_lev V0.out 0).trans (congrArg limbs KK.out.1.symm))
      obtain ⟨M, hM⟩ : ∃ M : Nat, M = m0.toNat := ⟨_, rfl⟩
      have cv : IntKind.u64.wrap m0 = (M : Int) := by
        simp only [IntKind.wrap, IntKind.bits, IntKind.signed]
        simp
        omega
      have HM := Lib.hid (show M = m0.toNat ∧ M ≤ 1000 from ⟨hM, by omega⟩)
      clear hM x2
      have k_m_0 := h_m_100.cell 0 _ rfl
      have k_m_1 := h_m_100.cell 1 _ rfl
      have k_m_2 := h_m_100.cell 2 _ rfl
      have k_p_0 := h_p_100.cell 0 _ rfl
      have k_p_1 := h_p_100.cell 1 _ rfl
      have k_p_2 := h_p_100.cell 2 _ rfl
      have k_p_3 := h_p_100.cell 3 _ rfl
      have k_p_4 := h_p_100.cell 4 _ rfl
      have k_p_5 := h_p_100.cell 5 _ rfl
      have hb := below_al wr (.cells #[.int .i64 0] 3)
      have B101 := B100.trans (hb.mono B100.size)
      have h_pl_101 := h_pl_100.below hb
      have h_pb_101 := h_pb_100.below hb
      have h_p_101 := h_p_100.later hb
      have h_m_101 := h_m_100.later hb
      have h_s_101 := h_s_100.below hb
      have h_l_101 := h_l_100.below hb
      have h_BW_101 := h_BW_100.trans (hb.mono h_BW_100.size)
      clear hb B100 h_pl_100 h_pb_100 h_p_100 h_m_100 h_s_100 h_l_100 h_BW_100
      have h_li_101 := rdI_one wr 0 (by unfold wide64; decide)
      go_wp2_with fail
      clear k_m_0 k_m_1 k_m_2 k_p_0 k_p_1 k_p_2 k_p_3 k_p_4 k_p_5
      generalize (wr.alloc (.cells #[.int .i64 0] 3)) = w101 at *
      have c := observe_any w101 h_pl_101 h_pb_101 pw_p h_li_101
      rw [OB.out] at c
      refine c.mono ?_
      rintro e w102 ⟨a_o, n_o, c_o, b_o, m_o, d_o, rfl, h_ol_102, h_ob_102, hb⟩
      clear c
      have B102 := B101.trans (hb.mono B101.size)
      have h_pl_102 := h_pl_101.below hb
      have h_pb_102 := h_pb_101.below hb
      have h_p_102 := h_p_101.later hb
      have h_m_102 := h_m_101.later hb
      have h_s_102 := h_s_101.below hb
      have h_l_102 := h_l_101.below hb
      have h_BW_102 := h_BW_101.trans (hb.mono h_BW_101.size)
      clear hb B101 h_pl_101 h_pb_101 h_p_101 h_m_101 h_s_101 h_l_101 h_BW_101 h_li_101
      have hb := below_al w102 (.cells (polC (step p 0) a_o n_o c_o b_o m_o d_o) 25)
      have B103 := B102.trans (hb.mono B102.size)
      have h_pl_103 := h_pl_102.below hb
      have h_pb_103 := h_pb_102.below hb
      have h_p_103 := h_p_102.later hb
      have h_m_103 := h_m_102.later hb
      have h_s_103 := h_s_102.below hb
      have h_l_103 := h_l_102.below hb
      have h_BW_103 := h_BW_102.trans (hb.mono h_BW_102.size)
      have h_ol_103 := h_ol_102.below hb
      have h_ob_103 := h_ob_102.below hb
      clear hb B102 h_pl_102 h_pb_102 h_p_102 h_m_102 h_s_102 h_l_102 h_BW_102 h_ol_102 h_ob_102
      have h_o_103 := Has.new w102 (polC (step p 0) a_o n_o c_o b_o m_o d_o) 25
      go_upto_region 11 with (first | refine wpList_store_new rfl 25 _ _ rfl atPol _ _ _ rfl rfl rfl rfl (pol_one (step p 0) _ _ _ _ _ _) ?_)
      generalize (w102.alloc (.cells (polC (step p 0) a_o n_o c_o b_o m_o d_o) 25)) = w103 at *
      have hb := (Below.refl w103.heap.size w103).drew
      have B104 := B103.trans (hb.mono B103.size)
      have h_pl_104 := h_pl_103.below hb
      have h_pb_104 := h_pb_103.below hb
      have h_p_104 := h_p_103.later hb
      have h_m_104 := h_m_103.later hb
      have h_s_104 := h_s_103.below hb
      have h_l_104 := h_l_103.below hb
      have h_BW_104 := h_BW_103.trans (hb.mono h_BW_103.size)
      have h_ol_104 := h_ol_103.below hb
      have h_ob_104 := h_ob_103.below hb
      have h_o_104 := h_o_103.later hb
      clear hb B103 h_pl_103 h_pb_103 h_p_103 h_m_103 h_s_103 h_l_103 h_BW_103 h_ol_103 h_ob_103 h_o_103
      refine wp_region_held_drew (S := (fun w' => w'.cell? ⟨w102.heap.size, 4, none⟩ = some (.slice a_o n_o c_o) ∧ w'.cell? ⟨w.heap.size + 1, 0, none⟩ = some (.int .i64 m0) ∧ True)) (by kernel_rfl) ?_ (fun hHeld => ?_)
      · exact ⟨h_o_104.cell 4 _ rfl, h_m_104.cell 0 _ rfl, trivial⟩
      generalize w103.drew = w104 at *
      refine wpAnyH_take (i := 0) (oi := ?oir1_0) (v := ?vr1_0) ?hir1_0 (by kernel_rfl) (by kernel_rfl) (by kernel_rfl) ?hqr1_0 ?hyr1_0 (by assumption) ?restr1_0
      case hir1_0 => simp only [List.getElem?_toArray, List.getElem?_cons_succ, List.getElem?_cons_zero]; rfl
      case hqr1_0 => exact fun _ _ _ h => h
      case hyr1_0 => (refine Or.inl ⟨by rfl, ?_⟩; intro w hSw; (try dsimp only at hSw); go_simp; all_goals with_reducible rfl)
      try simp only [Act.put, List.setIfInBounds_toArray, List.set_cons_zero, List.set_cons_succ]
      refine wpAnyH_take (i := 1) (oi := ?oir1_1) (v := ?vr1_1) ?hir1_1 (by kernel_rfl) (by kernel_rfl) (by kernel_rfl) ?hqr1_1 ?hyr1_1 (by assumption) ?restr1_1
      case hir1_1 => simp only [List.getElem?_toArray, List.getElem?_cons_succ, List.getElem?_cons_zero]; rfl
      case hqr1_1 => exact fun _ _ _ h => h
      case hyr1_1 => (refine Or.inl ⟨by rfl, ?_⟩; intro w hSw; (try dsimp only at hSw); go_simp; all_goals with_reducible rfl)
      try simp only [Act.put, List.setIfInBounds_toArray, List.set_cons_zero, List.set_cons_succ]
      refine wpAnyH_take (i := 2) (oi := ?oir1_2) (v := ?vr1_2) ?hir1_2 (by kernel_rfl) (by kernel_rfl) (by kernel_rfl) ?hqr1_2 ?hyr1_2 (by assumption) ?restr1_2
      case hir1_2 => simp only [List.getElem?_toArray, List.getElem?_cons_succ, List.getElem?_cons_zero]; rfl
      case hqr1_2 => exact fun _ _ _ h => h
      case hyr1_2 => (refine Or.inl ⟨by rfl, ?_⟩; intro w hSw; (try dsimp only at hSw); go_simp; all_goals with_reducible rfl)
      try simp only [Act.put, List.setIfInBounds_toArray, List.set_cons_zero, List.set_cons_succ]
      refine wpAnyH_take (i := 3) (oi := ?oir1_3) (v := ?vr1_3) ?hir1_3 (by kernel_rfl) (by kernel_rfl) (by kernel_rfl) ?hqr1_3 ?hyr1_3 (by assumption) ?restr1_3
      case hir1_3 => simp only [List.getElem?_toArray, List.getElem?_cons_succ, List.getElem?_cons_zero]; rfl
      case hqr1_3 => exact fun _ _ _ h => h
      case hyr1_3 => (refine Or.inl ⟨by rfl, ?_⟩; intro w hSw; (try dsimp only at hSw); go_simp; all_goals with_reducible rfl)
      try simp only [Act.put, List.setIfInBounds_toArray, List.set_cons_zero, List.set_cons_succ]
      refine wpAnyH_take (i := 4) (oi := ?oir1_4) (v := ?vr1_4) ?hir1_4 (by kernel_rfl) (by kernel_rfl) (by kernel_rfl) ?hqr1_4 ?hyr1_4 (by assumption) ?restr1_4
      case hir1_4 => simp only [List.getElem?_toArray, List.getElem?_cons_succ, List.getElem?_cons_zero]; rfl
      case hqr1_4 => exact fun _ _ _ h => h
      case hyr1_4 => (refine Or.inl ⟨by rfl, ?_⟩; intro w hSw; (try dsimp only at hSw); go_simp; all_goals with_reducible rfl)
      try simp only [Act.put, List.setIfInBounds_toArray, List.set_cons_zero, List.set_cons_succ]
      refine wpAnyH_take (i := 5) (oi := ?oir1_5) (v := ?vr1_5) ?hir1_5 (by kernel_rfl) (by kernel_rfl) (by kernel_rfl) ?hqr1_5 ?hyr1_5 (by assumption) ?restr1_5
      case hir1_5 => simp only [List.getElem?_toArray, List.getElem?_cons_succ, List.getElem?_cons_zero]; rfl
      case hqr1_5 => exact fun _ _ _ h => h
      case hyr1_5 => (refine Or.inl ⟨by rfl, ?_⟩; intro w hSw; (try dsimp only at hSw); go_simp; all_goals with_reducible rfl)
      try simp only [Act.put, List.setIfInBounds_toArray, List.set_cons_zero, List.set_cons_succ]
      refine wpAnyH_ready (rs := [6]) (by kernel_rfl) (by simp) ?_
      refine AllReadyH.cons (o := ?or2_6) ?hor2_6 (fun K hK => ?kr2_6) AllReadyH.nil
      case hor2_6 => simp only [List.getElem?_toArray, List.getElem?_cons_succ, List.getElem?_cons_zero]; rfl
      go_simp
      have c := refOf_any w104 M (by have := HM.out.2; omega)
      refine c.mono ?_
      rintro e w105 ⟨a_f, n_f, c_f, rfl, h_f_105, hb⟩
      clear c
      have B105 := B104.trans (hb.mono B104.size)
      have h_pl_105 := h_pl_104.below hb
      have h_pb_105 := h_pb_104.below hb
      have h_p_105 := h_p_104.later hb
      have h_m_105 := h_m_104.later hb
      have h_s_105 := h_s_104.below hb
      have h_l_105 := h_l_104.below hb
      have h_BW_105 := h_BW_104.trans (hb.mono h_BW_104.size)
      have h_ol_105 := h_ol_104.below hb
      have h_ob_105 := h_ob_104.below hb
      have h_o_105 := h_o_104.later hb
      clear hb B104 h_pl_104 h_pb_104 h_p_104 h_m_104 h_s_104 h_l_104 h_BW_104 h_ol_104 h_ob_104 h_o_104
      go_wp2_with fail
      clear hHeld
      refine hK.out _ _ ?_ (fun hHeld => ?_)
      · exact ⟨h_o_105.cell 4 _ rfl, h_m_105.cell 0 _ rfl, trivial⟩
      clear hK K
      try simp only [Act.put, List.setIfInBounds_toArray, List.set_cons_zero, List.set_cons_succ]
      refine wpAnyH_ready (rs := [7]) (by kernel_rfl) (by simp) ?_
      refine AllReadyH.cons (o := ?or3_7) ?hor3_7 (fun K hK => ?kr3_7) AllReadyH.nil
      case hor3_7 => simp only [List.getElem?_toArray, List.getElem?_cons_succ, List.getElem?_cons_zero]; rfl
      go_simp
      have hol := h_ol_105
      rw [SL.out] at hol
      have c := refMul_any w105 hol h_f_105
      rw [mul_ok (Nat.lt_of_lt_of_le KB.out.1 (pw_le (by decide))) (Nat.lt_of_le_of_lt HM.out.2 (Nat.lt_of_lt_of_le (by decide) (pw_le (show 1 ≤ 96 by decide)))) (Nat.lt_of_lt_of_le (mul_lt_pw KB.out.1 (show M < pw 1 from Nat.lt_of_le_of_lt HM.out.2 (by decide))) (pw_le (by decide)))] at c
      refine c.mono ?_
      rintro e w106 ⟨a_x, n_x, c_x, rfl, h_x_106, hb⟩
      clear c
      have B106 := B105.trans (hb.mono B105.size)
      have h_pl_106 := h_pl_105.below hb
      have h_pb_106 := h_pb_105.below hb
      have h_p_106 := h_p_105.later hb
      have h_m_106 := h_m_105.later hb
      have h_s_106 := h_s_105.below hb
      have h_l_106 := h_l_105.below hb
      have h_BW_106 := h_BW_105.trans (hb.mono h_BW_105.size)
      have h_ol_106 := h_ol_105.below hb
      have h_ob_106 := h_ob_105.below hb
      have h_o_106 := h_o_105.later hb
      clear hb B105 h_pl_105 h_pb_105 h_p_105 h_m_105 h_s_105 h_l_105 h_BW_105 h_ol_105 h_ob_105 h_o_105 h_f_105
      clear hol
      go_wp2_with fail
      clear hHeld
      refine hK.out _ _ ?_ (fun hHeld => ?_)
      · exact ⟨h_o_106.cell 4 _ rfl, h_m_106.cell 0 _ rfl, trivial⟩
      clear hK K
      try simp only [Act.put, List.setIfInBounds_toArray, List.set_cons_zero, List.set_cons_succ]
      refine wpAnyH_take (i := 8) (oi := ?oir4_8) (v := ?vr4_8) ?hir4_8 (by kernel_rfl) (by kernel_rfl) (by kernel_rfl) ?hqr4_8 ?hyr4_8 (by assumption) ?restr4_8
      case hir4_8 => simp only [List.getElem?_toArray, List.getElem?_cons_succ, List.getElem?_cons_zero]; rfl
      case hqr4_8 => exact fun _ _ _ h => h
      case hyr4_8 => (refine Or.inl ⟨by rfl, ?_⟩; intro w hSw; (try dsimp only at hSw); go_simp; all_goals with_reducible rfl)
      try simp only [Act.put, List.setIfInBounds_toArray, List.set_cons_zero, List.set_cons_succ]
      refine wpAnyH_take (i := 9) (oi := ?oir4_9) (v := ?vr4_9) ?hir4_9 (by kernel_rfl) (by kernel_rfl) (by kernel_rfl) ?hqr4_9 ?hyr4_9 (by assumption) ?restr4_9
      case hir4_9 => simp only [List.getElem?_toArray, List.getElem?_cons_succ, List.getElem?_cons_zero]; rfl
      case hqr4_9 => exact fun _ _ _ h => h
      case hyr4_9 => (refine Or.inl ⟨by rfl, ?_⟩; intro w hSw; (try dsimp only at hSw); go_simp; all_goals with_reducible rfl)
      try simp only [Act.put, List.setIfInBounds_toArray, List.set_cons_zero, List.set_cons_succ]
      refine wpAnyH_take (i := 10) (oi := ?oir4_10) (v := ?vr4_10) ?hir4_10 (by kernel_rfl) (by kernel_rfl) (by kernel_rfl) ?hqr4_10 ?hyr4_10 (by assumption) ?restr4_10
      case hir4_10 => simp only [List.getElem?_toArray, List.getElem?_cons_succ, List.getElem?_cons_zero]; rfl
      case hqr4_10 => exact fun _ _ _ h => h
      case hyr4_10 => (refine Or.inl ⟨by rfl, ?_⟩; intro w hSw; (try dsimp only at hSw); go_simp; all_goals with_reducible rfl)
      try simp only [Act.put, List.setIfInBounds_toArray, List.set_cons_zero, List.set_cons_succ]
      refine wpAnyH_take (i := 11) (oi := ?oir4_11) (v := ?vr4_11) ?hir4_11 (by kernel_rfl) (by kernel_rfl) (by kernel_rfl) ?hqr4_11 ?hyr4_11 (by assumption) ?restr4_11
      case hir4_11 => simp only [List.getElem?_toArray, List.getElem?_cons_succ, List.getElem?_cons_zero]; rfl
      case hqr4_11 => exact fun _ _ _ h => h
      case hyr4_11 => (refine Or.inl ⟨by rfl, ?_⟩; intro w hSw; (try dsimp only at hSw); go_simp; all_goals with_reducible rfl)
      try simp only [Act.put, List.setIfInBounds_toArray, List.set_cons_zero, List.set_cons_succ]
      refine wpAnyH_take (i := 12) (oi := ?oir4_12) (v := ?vr4_12) ?hir4_12 (by kernel_rfl) (by kernel_rfl) (by kernel_rfl) ?hqr4_12 ?hyr4_12 (by assumption) ?restr4_12
      case hir4_12 => simp only [List.getElem?_toArray, List.getElem?_cons_succ, List.getElem?_cons_zero]; rfl
      case hqr4_12 => exact fun _ _ _ h => h
      case hyr4_12 => (refine Or.inl ⟨by rfl, ?_⟩; intro w hSw; (try dsimp only at hSw); go_simp; all_goals with_reducible rfl)
      try simp only [Act.put, List.setIfInBounds_toArray, List.set_cons_zero, List.set_cons_succ]
      refine wpAnyH_done (by kernel_rfl) ?_ _
      clear hHeld
      have SB : Sv < pw 8 ∧ Sv + K0 * M < pw 8 := by
        have hm := HM.out.2
        have e5 : pw 5 * 4000 ≤ pw 8 := by decide
        have kb := KB.out
        have q0 : K0 * 0 ≤ pw 5 * 1000 := Nat.mul_le_mul (Nat.le_of_lt kb.1) (by omega)
        have q1 : K1 * 0 ≤ pw 5 * 1000 := Nat.mul_le_mul (Nat.le_of_lt kb.2.1) (by omega)
        have q2 : K0 * M ≤ pw 5 * 1000 := Nat.mul_le_mul (Nat.le_of_lt kb.1) hm
        have hs : Sv = 0 := HI.out.1
        have p5 : 0 < pw 5 := pw_pos 5
        generalize pw 5 = P at *
        omega
      have SBH := Lib.hid SB
      clear SB
      go_wp2_with fail
      have c := refAdd_any w106 h_s_106 h_x_106
      rw [add_ok (Nat.lt_of_lt_of_le SBH.out.2 (pw_le (by decide)))] at c
      refine c.mono ?_
      rintro e w107 ⟨a_y, n_y, c_y, rfl, h_y_107, hb⟩
      clear c
      have B107 := B106.trans (hb.mono B106.size)
      have h_pl_107 := h_pl_106.below hb
      have h_pb_107 := h_pb_106.below hb
      have h_p_107 := h_p_106.later hb
      have h_m_107 := h_m_106.later hb
      have h_s_107 := h_s_106.below hb
      have h_l_107 := h_l_106.below hb
      have h_BW_107 := h_BW_106.trans (hb.mono h_BW_106.size)
      have h_ol_107 := h_ol_106.below hb
      have h_ob_107 := h_ob_106.below hb
      have h_o_107 := h_o_106.later hb
      have h_x_107 := h_x_106.below hb
      clear hb B106 h_pl_106 h_pb_106 h_p_106 h_m_106 h_s_106 h_l_106 h_BW_106 h_ol_106 h_ob_106 h_o_106 h_x_106
      have AL := Lib.hid (show leC (limbs Lv) (step p 0).lev = true by
        rw [SL.out, leC_ok (by rw [show Lv = 0 from HI.out.2]; exact pw_pos 96) (Nat.lt_of_lt_of_le KB.out.1 (pw_le (by decide)))]
        refine decide_eq_true ?_
        rw [show Lv = 0 from HI.out.2]
        exact Nat.zero_le _)
      have k_o_4 := h_o_107.cell 4 _ rfl
      go_wp2_with fail
      clear k_o_4
      have c := refAtMost_any w107 h_l_107 h_ol_107
      rw [AL.out] at c
      refine c.mono ?_
      rintro e w108 ⟨rfl, hb⟩
      clear c
      have B108 := B107.trans (hb.mono B107.size)
      have h_pl_108 := h_pl_107.below hb
      have h_pb_108 := h_pb_107.below hb
      have h_p_108 := h_p_107.later hb
      have h_m_108 := h_m_107.later hb
      have h_s_108 := h_s_107.below hb
      have h_l_108 := h_l_107.below hb
      have h_BW_108 := h_BW_107.trans (hb.mono h_BW_107.size)
      have h_ol_108 := h_ol_107.below hb
      have h_ob_108 := h_ob_107.below hb
      have h_o_108 := h_o_107.later hb
      have h_x_108 := h_x_107.below hb
      have h_y_108 := h_y_107.below hb
      clear hb B107 h_pl_107 h_pb_107 h_p_107 h_m_107 h_s_107 h_l_107 h_BW_107 h_ol_107 h_ob_107 h_o_107 h_x_107 h_y_107
      have k_o_4 := h_o_108.cell 4 _ rfl
      have k_m_0 := h_m_108.cell 0 _ rfl
      have ol := h_ol_108
      rw [SL.out] at ol
      have yy := h_y_108
      go_wp2_with fail
      go_roundw
      case rel => exact ⟨h_BW_108, _, _, _, _, _, _, _, _, rfl, rfl, yy, ol, .inr (.inl ⟨rfl, by go_num, rfl, Lib.hid ⟨⟨b0a, b0b⟩, by rw [HI.out.1, Nat.zero_add, HM.out.1], rfl⟩⟩)⟩
      case measure => simp [intOf]
    · have B100 := BASE.trans (BW.mono BASE.size)
      have h_pl_100 := h_pl_4.below BW
      have h_pb_100 := h_pb_4.below BW
      have h_p_100 := h_p_4.later BW
      have h_m_100 := h_m_4.later BW
      have h_s_100 := rs
      have h_l_100 := rl
      have h_BW_100 := BW
      clear rs rl BW
      have b0a : 0 ≤ m0 := HI.out.1.1
      have b0b : m0 ≤ 1000 := HI.out.1.2
      by_cases x0 : m1 < 0
      case pos =>
        have dd : decide (m1 < 0) = true := decide_eq_true x0
        clear x0
        have k_m_0 := h_m_100.cell 0 _ rfl
        have k_m_1 := h_m_100.cell 1 _ rfl
        have k_m_2 := h_m_100.cell 2 _ rfl
        have k_p_0 := h_p_100.cell 0 _ rfl
        have k_p_1 := h_p_100.cell 1 _ rfl
        have k_p_2 := h_p_100.cell 2 _ rfl
        have k_p_3 := h_p_100.cell 3 _ rfl
        have k_p_4 := h_p_100.cell 4 _ rfl
        have k_p_5 := h_p_100.cell 5 _ rfl
        go_wp2_with fail
        clear k_m_0 k_m_1 k_m_2 k_p_0 k_p_1 k_p_2 k_p_3 k_p_4 k_p_5
        have c := examples_any wr
        refine c.mono ?_
        rintro e w101 ⟨rfl, hb⟩
        clear c
        have B101 := B100.trans (hb.mono B100.size)
        have h_pl_101 := h_pl_100.below hb
        have h_pb_101 := h_pb_100.below hb
        have h_p_101 := h_p_100.later hb
        have h_m_101 := h_m_100.later hb
        have h_s_101 := h_s_100.below hb
        have h_l_101 := h_l_100.below hb
        have h_BW_101 := h_BW_100.trans (hb.mono h_BW_100.size)
        clear hb B100 h_pl_100 h_pb_100 h_p_100 h_m_100 h_s_100 h_l_100 h_BW_100
        go_wp2_with fail
        go_ret
        exact ⟨rfl, B101⟩
      by_cases x1 : 1000 < m1
      case pos =>
        have dd : decide (m1 < 0) = false := decide_eq_false x0
        have de : decide (1000 < m1) = true := decide_eq_true x1
        clear x0 x1
        have k_m_0 := h_m_100.cell 0 _ rfl
        have k_m_1 := h_m_100.cell 1 _ rfl
        have k_m_2 := h_m_100.cell 2 _ rfl
        have k_p_0 := h_p_100.cell 0 _ rfl
        have k_p_1 := h_p_100.cell 1 _ rfl
        have k_p_2 := h_p_100.cell 2 _ rfl
        have k_p_3 := h_p_100.cell 3 _ rfl
        have k_p_4 := h_p_100.cell 4 _ rfl
        have k_p_5 := h_p_100.cell 5 _ rfl
        go_wp2_with fail
        clear k_m_0 k_m_1 k_m_2 k_p_0 k_p_1 k_p_2 k_p_3 k_p_4 k_p_5
        have c := examples_any wr
        refine c.mono ?_
        rintro e w101 ⟨rfl, hb⟩
        clear c
        have B101 := B100.trans (hb.mono B100.size)
        have h_pl_101 := h_pl_100.below hb
        have h_pb_101 := h_pb_100.below hb
        have h_p_101 := h_p_100.later hb
        have h_m_101 := h_m_100.later hb
        have h_s_101 := h_s_100.below hb
        have h_l_101 := h_l_100.below hb
        have h_BW_101 := h_BW_100.trans (hb.mono h_BW_100.size)
        clear hb B100 h_pl_100 h_pb_100 h_p_100 h_m_100 h_s_100 h_l_100 h_BW_100
        go_wp2_with fail
        go_ret
        exact ⟨rfl, B101⟩
      have dd : decide (m1 < 0) = false := decide_eq_false x0
      have de : decide (1000 < m1) = false := decide_eq_false x1
      have b1a : 0 ≤ m1 := by omega
      have b1b : m1 ≤ 1000 := by omega
      clear x0 x1
      by_cases x2 : p.s1 = 1000000
      case pos =>
        have df : (p.s1 == 1000000) = true := beq_iff_eq.2 x2
        clear x2
        have k_m_0 := h_m_100.cell 0 _ rfl
        have k_m_1 := h_m_100.cell 1 _ rfl
        have k_m_2 := h_m_100.cell 2 _ rfl
        have k_p_0 := h_p_100.cell 0 _ rfl
        have k_p_1 := h_p_100.cell 1 _ rfl
        have k_p_2 := h_p_100.cell 2 _ rfl
        have k_p_3 := h_p_100.cell 3 _ rfl
        have k_p_4 := h_p_100.cell 4 _ rfl
        have k_p_5 := h_p_100.cell 5 _ rfl
        go_wp2_with fail
        clear k_m_0 k_m_1 k_m_2 k_p_0 k_p_1 k_p_2 k_p_3 k_p_4 k_p_5
        have c := examples_any wr
        refine c.mono ?_
        rintro e w101 ⟨rfl, hb⟩
        clear c
        have B101 := B100.trans (hb.mono B100.size)
        have h_pl_101 := h_pl_100.below hb
        have h_pb_101 := h_pb_100.below hb
        have h_p_101 := h_p_100.later hb
        have h_m_101 := h_m_100.later hb
        have h_s_101 := h_s_100.below hb
        have h_l_101 := h_l_100.below hb
        have h_BW_101 := h_BW_100.trans (hb.mono h_BW_100.size)
        clear hb B100 h_pl_100 h_pb_100 h_p_100 h_m_100 h_s_100 h_l_100 h_BW_100
        go_wp2_with fail
        go_ret
        exact ⟨rfl, B101⟩
      have df : (p.s1 == 1000000) = false := beq_eq_false_iff_ne.2 x2
      have OB := Lib.hid (obs_one V0.out (x := 1) (by decide) (by decide) x2)
      have SL := Lib.hid ((step_lev V0.out 1).trans (congrArg limbs KK.out.2.1.symm))
      obtain ⟨M, hM⟩ : ∃ M : Nat, M = m1.toNat := ⟨_, rfl⟩
      have cv : IntKind.u64.wrap m1 = (M : Int) := by
        simp only [IntKind.wrap, IntKind.bits, IntKind.signed]
        simp
        omega
      have HM := Lib.hid (show M = m1.toNat ∧ M ≤ 1000 from ⟨hM, by omega⟩)
      clear hM x2
      have k_m_0 := h_m_100.cell 0 _ rfl
      have k_m_1 := h_m_100.cell 1 _ rfl
      have k_m_2 := h_m_100.cell 2 _ rfl
      have k_p_0 := h_p_100.cell 0 _ rfl
      have k_p_1 := h_p_100.cell 1 _ rfl
      have k_p_2 := h_p_100.cell 2 _ rfl
      have k_p_3 := h_p_100.cell 3 _ rfl
      have k_p_4 := h_p_100.cell 4 _ rfl
      have k_p_5 := h_p_100.cell 5 _ rfl
      have hb := below_al wr (.cells #[.int .i64 1] 3)
      have B101 := B100.trans (hb.mono B100.size)
      have h_pl_101 := h_pl_100.below hb
      have h_pb_101 := h_pb_100.below hb
      have h_p_101 := h_p_100.later hb
      have h_m_101 := h_m_100.later hb
      have h_s_101 := h_s_100.below hb
      have h_l_101 := h_l_100.below hb
      have h_BW_101 := h_BW_100.trans (hb.mono h_BW_100.size)
      clear hb B100 h_pl_100 h_pb_100 h_p_100 h_m_100 h_s_100 h_l_100 h_BW_100
      have h_li_101 := rdI_one wr 1 (by unfold wide64; decide)
      go_wp2_with fail
      clear k_m_0 k_m_1 k_m_2 k_p_0 k_p_1 k_p_2 k_p_3 k_p_4 k_p_5
      generalize (wr.alloc (.cells #[.int .i64 1] 3)) = w101 at *
      have c := observe_any w101 h_pl_101 h_pb_101 pw_p h_li_101
      rw [OB.out] at c
      refine c.mono ?_
      rintro e w102 ⟨a_o, n_o, c_o, b_o, m_o, d_o, rfl, h_ol_102, h_ob_102, hb⟩
      clear c
      have B102 := B101.trans (hb.mono B101.size)
      have h_pl_102 := h_pl_101.below hb
      have h_pb_102 := h_pb_101.below hb
      have h_p_102 := h_p_101.later hb
      have h_m_102 := h_m_101.later hb
      have h_s_102 := h_s_101.below hb
      have h_l_102 := h_l_101.below hb
      have h_BW_102 := h_BW_101.trans (hb.mono h_BW_101.size)
      clear hb B101 h_pl_101 h_pb_101 h_p_101 h_m_101 h_s_101 h_l_101 h_BW_101 h_li_101
      have hb := below_al w102 (.cells (polC (step p 1) a_o n_o c_o b_o m_o d_o) 25)
      have B103 := B102.trans (hb.mono B102.size)
      have h_pl_103 := h_pl_102.below hb
      have h_pb_103 := h_pb_102.below hb
      have h_p_103 := h_p_102.later hb
      have h_m_103 := h_m_102.later hb
      have h_s_103 := h_s_102.below hb
      have h_l_103 := h_l_102.below hb
      have h_BW_103 := h_BW_102.trans (hb.mono h_BW_102.size)
      have h_ol_103 := h_ol_102.below hb
      have h_ob_103 := h_ob_102.below hb
      clear hb B102 h_pl_102 h_pb_102 h_p_102 h_m_102 h_s_102 h_l_102 h_BW_102 h_ol_102 h_ob_102
      have h_o_103 := Has.new w102 (polC (step p 1) a_o n_o c_o b_o m_o d_o) 25
      go_upto_region 11 with (first | refine wpList_store_new rfl 25 _ _ rfl atPol _ _ _ rfl rfl rfl rfl (pol_one (step p 1) _ _ _ _ _ _) ?_)
      generalize (w102.alloc (.cells (polC (step p 1) a_o n_o c_o b_o m_o d_o) 25)) = w103 at *
      have hb := (Below.refl w103.heap.size w103).drew
      have B104 := B103.trans (hb.mono B103.size)
      have h_pl_104 := h_pl_103.below hb
      have h_pb_104 := h_pb_103.below hb
      have h_p_104 := h_p_103.later hb
      have h_m_104 := h_m_103.later hb
      have h_s_104 := h_s_103.below hb
      have h_l_104 := h_l_103.below hb
      have h_BW_104 := h_BW_103.trans (hb.mono h_BW_103.size)
      have h_ol_104 := h_ol_103.below hb
      have h_ob_104 := h_ob_103.below hb
      have h_o_104 := h_o_103.later hb
      clear hb B103 h_pl_103 h_pb_103 h_p_103 h_m_103 h_s_103 h_l_103 h_BW_103 h_ol_103 h_ob_103 h_o_103
      refine wp_region_held_drew (S := (fun w' => w'.cell? ⟨w102.heap.size, 4, none⟩ = some (.slice a_o n_o c_o) ∧ w'.cell? ⟨w.heap.size + 1, 1, none⟩ = some (.int .i64 m1) ∧ True)) (by kernel_rfl) ?_ (fun hHeld => ?_)
      · exact ⟨h_o_104.cell 4 _ rfl, h_m_104.cell 1 _ rfl, trivial⟩
      generalize w103.drew = w104 at *
      refine wpAnyH_take (i := 0) (oi := ?oir5_0) (v := ?vr5_0) ?hir5_0 (by kernel_rfl) (by kernel_rfl) (by kernel_rfl) ?hqr5_0 ?hyr5_0 (by assumption) ?restr5_0
      case hir5_0 => simp only [List.getElem?_toArray, List.getElem?_cons_succ, List.getElem?_cons_zero]; rfl
      case hqr5_0 => exact fun _ _ _ h => h
      case hyr5_0 => (refine Or.inl ⟨by rfl, ?_⟩; intro w hSw; (try dsimp only at hSw); go_simp; all_goals with_reducible rfl)
      try simp only [Act.put, List.setIfInBounds_toArray, List.set_cons_zero, List.set_cons_succ]
      refine wpAnyH_take (i := 1) (oi := ?oir5_1) (v := ?vr5_1) ?hir5_1 (by kernel_rfl) (by kernel_rfl) (by kernel_rfl) ?hqr5_1 ?hyr5_1 (by assumption) ?restr5_1
      case hir5_1 => simp only [List.getElem?_toArray, List.getElem?_cons_succ, List.getElem?_cons_zero]; rfl
      case hqr5_1 => exact fun _ _ _ h => h
      case hyr5_1 => (refine Or.inl ⟨by rfl, ?_⟩; intro w hSw; (try dsimp only at hSw); go_simp; all_goals with_reducible rfl)
      try simp only [Act.put, List.setIfInBounds_toArray, List.set_cons_zero, List.set_cons_succ]
      refine wpAnyH_take (i := 2) (oi := ?oir5_2) (v := ?vr5_2) ?hir5_2 (by kernel_rfl) (by kernel_rfl) (by kernel_rfl) ?hqr5_2 ?hyr5_2 (by assumption) ?restr5_2
      case hir5_2 => simp only [List.getElem?_toArray, List.getElem?_cons_succ, List.getElem?_cons_zero]; rfl
      case hqr5_2 => exact fun _ _ _ h => h
      case hyr5_2 => (refine Or.inl ⟨by rfl, ?_⟩; intro w hSw; (try dsimp only at hSw); go_simp; all_goals with_reducible rfl)
      try simp only [Act.put, List.setIfInBounds_toArray, List.set_cons_zero, List.set_cons_succ]
      refine wpAnyH_take (i := 3) (oi := ?oir5_3) (v := ?vr5_3) ?hir5_3 (by kernel_rfl) (by kernel_rfl) (by kernel_rfl) ?hqr5_3 ?hyr5_3 (by assumption) ?restr5_3
      case hir5_3 => simp only [List.getElem?_toArray, List.getElem?_cons_succ, List.getElem?_cons_zero]; rfl
      case hqr5_3 => exact fun _ _ _ h => h
      case hyr5_3 => (refine Or.inl ⟨by rfl, ?_⟩; intro w hSw; (try dsimp only at hSw); go_simp; all_goals with_reducible rfl)
      try simp only [Act.put, List.setIfInBounds_toArray, List.set_cons_zero, List.set_cons_succ]
      refine wpAnyH_take (i := 4) (oi := ?oir5_4) (v := ?vr5_4) ?hir5_4 (by kernel_rfl) (by kernel_rfl) (by kernel_rfl) ?hqr5_4 ?hyr5_4 (by assumption) ?restr5_4
      case hir5_4 => simp only [List.getElem?_toArray, List.getElem?_cons_succ, List.getElem?_cons_zero]; rfl
      case hqr5_4 => exact fun _ _ _ h => h
      case hyr5_4 => (refine Or.inl ⟨by rfl, ?_⟩; intro w hSw; (try dsimp only at hSw); go_simp; all_goals with_reducible rfl)
      try simp only [Act.put, List.setIfInBounds_toArray, List.set_cons_zero, List.set_cons_succ]
      refine wpAnyH_take (i := 5) (oi := ?oir5_5) (v := ?vr5_5) ?hir5_5 (by kernel_rfl) (by kernel_rfl) (by kernel_rfl) ?hqr5_5 ?hyr5_5 (by assumption) ?restr5_5
      case hir5_5 => simp only [List.getElem?_toArray, List.getElem?_cons_succ, List.getElem?_cons_zero]; rfl
      case hqr5_5 => exact fun _ _ _ h => h
      case hyr5_5 => (refine Or.inl ⟨by rfl, ?_⟩; intro w hSw; (try dsimp only at hSw); go_simp; all_goals with_reducible rfl)
      try simp only [Act.put, List.setIfInBounds_toArray, List.set_cons_zero, List.set_cons_succ]
      refine wpAnyH_ready (rs := [6]) (by kernel_rfl) (by simp) ?_
      refine AllReadyH.cons (o := ?or6_6) ?hor6_6 (fun K hK => ?kr6_6) AllReadyH.nil
      case hor6_6 => simp only [List.getElem?_toArray, List.getElem?_cons_succ, List.getElem?_cons_zero]; rfl
      go_simp
      have c := refOf_any w104 M (by have := HM.out.2; omega)
      refine c.mono ?_
      rintro e w105 ⟨a_f, n_f, c_f, rfl, h_f_105, hb⟩
      clear c
      have B105 := B104.trans (hb.mono B104.size)
      have h_pl_105 := h_pl_104.below hb
      have h_pb_105 := h_pb_104.below hb
      have h_p_105 := h_p_104.later hb
      have h_m_105 := h_m_104.later hb
      have h_s_105 := h_s_104.below hb
      have h_l_105 := h_l_104.below hb
      have h_BW_105 := h_BW_104.trans (hb.mono h_BW_104.size)
      have h_ol_105 := h_ol_104.below hb
      have h_ob_105 := h_ob_104.below hb
      have h_o_105 := h_o_104.later hb
      clear hb B104 h_pl_104 h_pb_104 h_p_104 h_m_104 h_s_104 h_l_104 h_BW_104 h_ol_104 h_ob_104 h_o_104
      go_wp2_with fail
      clear hHeld
      refine hK.out _ _ ?_ (fun hHeld => ?_)
      · exact ⟨h_o_105.cell 4 _ rfl, h_m_105.cell 1 _ rfl, trivial⟩
      clear hK K
      try simp only [Act.put, List.setIfInBounds_toArray, List.set_cons_zero, List.set_cons_succ]
      refine wpAnyH_ready (rs := [7]) (by kernel_rfl) (by simp) ?_
      refine AllReadyH.cons (o := ?or7_7) ?hor7_7 (fun K hK => ?kr7_7) AllReadyH.nil
      case hor7_7 => simp only [List.getElem?_toArray, List.getElem?_cons_succ, List.getElem?_cons_zero]; rfl
      go_simp
      have hol := h_ol_105
      rw [SL.out] at hol
      have c := refMul_any w105 hol h_f_105
      rw [mul_ok (Nat.lt_of_lt_of_le KB.out.2.1 (pw_le (by decide))) (Nat.lt_of_le_of_lt HM.out.2 (Nat.lt_of_lt_of_le (by decide) (pw_le (show 1 ≤ 96 by decide)))) (Nat.lt_of_lt_of_le (mul_lt_pw KB.out.2.1 (show M < pw 1 from Nat.lt_of_le_of_lt HM.out.2 (by decide))) (pw_le (by decide)))] at c
      refine c.mono ?_
      rintro e w106 ⟨a_x, n_x, c_x, rfl, h_x_106, hb⟩
      clear c
      have B106 := B105.trans (hb.mono B105.size)
      have h_pl_106 := h_pl_105.below hb
      have h_pb_106 := h_pb_105.below hb
      have h_p_106 := h_p_105.later hb
      have h_m_106 := h_m_105.later hb
      have h_s_106 := h_s_105.below hb
      have h_l_106 := h_l_105.below hb
      have h_BW_106 := h_BW_105.trans (hb.mono h_BW_105.size)
      have h_ol_106 := h_ol_105.below hb
      have h_ob_106 := h_ob_105.below hb
      have h_o_106 := h_o_105.later hb
      clear hb B105 h_pl_105 h_pb_105 h_p_105 h_m_105 h_s_105 h_l_105 h_BW_105 h_ol_105 h_ob_105 h_o_105 h_f_105
      clear hol
      go_wp2_with fail
      clear hHeld
      refine hK.out _ _ ?_ (fun hHeld => ?_)
      · exact ⟨h_o_106.cell 4 _ rfl, h_m_106.cell 1 _ rfl, trivial⟩
      clear hK K
      try simp only [Act.put, List.setIfInBounds_toArray, List.set_cons_zero, List.set_cons_succ]
      refine wpAnyH_take (i := 8) (oi := ?oir8_8) (v := ?vr8_8) ?hir8_8 (by kernel_rfl) (by kernel_rfl) (by kernel_rfl) ?hqr8_8 ?hyr8_8 (by assumption) ?restr8_8
      case hir8_8 => simp only [List.getElem?_toArray, List.getElem?_cons_succ, List.getElem?_cons_zero]; rfl
      case hqr8_8 => exact fun _ _ _ h => h
      case hyr8_8 => (refine Or.inl ⟨by rfl, ?_⟩; intro w hSw; (try dsimp only at hSw); go_simp; all_goals with_reducible rfl)
      try simp only [Act.put, List.setIfInBounds_toArray, List.set_cons_zero, List.set_cons_succ]
      refine wpAnyH_take (i := 9) (oi := ?oir8_9) (v := ?vr8_9) ?hir8_9 (by kernel_rfl) (by kernel_rfl) (by kernel_rfl) ?hqr8_9 ?hyr8_9 (by assumption) ?restr8_9
      case hir8_9 => simp only [List.getElem?_toArray, List.getElem?_cons_succ, List.getElem?_cons_zero]; rfl
      case hqr8_9 => exact fun _ _ _ h => h
      case hyr8_9 => (refine Or.inl ⟨by rfl, ?_⟩; intro w hSw; (try dsimp only at hSw); go_simp; all_goals with_reducible rfl)
      try simp only [Act.put, List.setIfInBounds_toArray, List.set_cons_zero, List.set_cons_succ]
      refine wpAnyH_take (i := 10) (oi := ?oir8_10) (v := ?vr8_10) ?hir8_10 (by kernel_rfl) (by kernel_rfl) (by kernel_rfl) ?hqr8_10 ?hyr8_10 (by assumption) ?restr8_10
      case hir8_10 => simp only [List.getElem?_toArray, List.getElem?_cons_succ, List.getElem?_cons_zero]; rfl
      case hqr8_10 => exact fun _ _ _ h => h
      case hyr8_10 => (refine Or.inl ⟨by rfl, ?_⟩; intro w hSw; (try dsimp only at hSw); go_simp; all_goals with_reducible rfl)
      try simp only [Act.put, List.setIfInBounds_toArray, List.set_cons_zero, List.set_cons_succ]
      refine wpAnyH_take (i := 11) (oi := ?oir8_11) (v := ?vr8_11) ?hir8_11 (by kernel_rfl) (by kernel_rfl) (by kernel_rfl) ?hqr8_11 ?hyr8_11 (by assumption) ?restr8_11
      case hir8_11 => simp only [List.getElem?_toArray, List.getElem?_cons_succ, List.getElem?_cons_zero]; rfl
      case hqr8_11 => exact fun _ _ _ h => h
      case hyr8_11 => (refine Or.inl ⟨by rfl, ?_⟩; intro w hSw; (try dsimp only at hSw); go_simp; all_goals with_reducible rfl)
      try simp only [Act.put, List.setIfInBounds_toArray, List.set_cons_zero, List.set_cons_succ]
      refine wpAnyH_take (i := 12) (oi := ?oir8_12) (v := ?vr8_12) ?hir8_12 (by kernel_rfl) (by kernel_rfl) (by kernel_rfl) ?hqr8_12 ?hyr8_12 (by assumption) ?restr8_12
      case hir8_12 => simp only [List.getElem?_toArray, List.getElem?_cons_succ, List.getElem?_cons_zero]; rfl
      case hqr8_12 => exact fun _ _ _ h => h
      case hyr8_12 => (refine Or.inl ⟨by rfl, ?_⟩; intro w hSw; (try dsimp only at hSw); go_simp; all_goals with_reducible rfl)
      try simp only [Act.put, List.setIfInBounds_toArray, List.set_cons_zero, List.set_cons_succ]
      refine wpAnyH_done (by kernel_rfl) ?_ _
      clear hHeld
      have SB : Sv < pw 8 ∧ Sv + K1 * M < pw 8 := by
        have hm := HM.out.2
        have e5 : pw 5 * 4000 ≤ pw 8 := by decide
        have kb := KB.out
        have q0 : K0 * m0.toNat ≤ pw 5 * 1000 := Nat.mul_le_mul (Nat.le_of_lt kb.1) (by omega)
        have q1 : K1 * 0 ≤ pw 5 * 1000 := Nat.mul_le_mul (Nat.le_of_lt kb.2.1) (by omega)
        have q2 : K1 * M ≤ pw 5 * 1000 := Nat.mul_le_mul (Nat.le_of_lt kb.2.1) hm
        have hs : Sv = K0 * m0.toNat := HI.out.2.1
        have p5 : 0 < pw 5 := pw_pos 5
        generalize pw 5 = P at *
        omega
      have SBH := Lib.hid SB
      clear SB
      go_wp2_with fail
      have c := refAdd_any w106 h_s_106 h_x_106
      rw [add_ok (Nat.lt_of_lt_of_le SBH.out.2 (pw_le (by decide)))] at c
      refine c.mono ?_
      rintro e w107 ⟨a_y, n_y, c_y, rfl, h_y_107, hb⟩
      clear c
      have B107 := B106.trans (hb.mono B106.size)
      have h_pl_107 := h_pl_106.below hb
      have h_pb_107 := h_pb_106.below hb
      have h_p_107 := h_p_106.later hb
      have h_m_107 := h_m_106.later hb
      have h_s_107 := h_s_106.below hb
      have h_l_107 := h_l_106.below hb
      have h_BW_107 := h_BW_106.trans (hb.mono h_BW_106.size)
      have h_ol_107 := h_ol_106.below hb
      have h_ob_107 := h_ob_106.below hb
      have h_o_107 := h_o_106.later hb
      have h_x_107 := h_x_106.below hb
      clear hb B106 h_pl_106 h_pb_106 h_p_106 h_m_106 h_s_106 h_l_106 h_BW_106 h_ol_106 h_ob_106 h_o_106 h_x_106
      have AL := Lib.hid (show leC (limbs Lv) (step p 1).lev = true by
        rw [SL.out, leC_ok (by rw [show Lv = K0 from HI.out.2.2]; exact Nat.lt_of_lt_of_le KB.out.1 (pw_le (by decide))) (Nat.lt_of_lt_of_le KB.out.2.1 (pw_le (by decide)))]
        refine decide_eq_true ?_
        rw [show Lv = K0 from HI.out.2.2]
        exact KM.out.1)
      have k_o_4 := h_o_107.cell 4 _ rfl
      go_wp2_with fail
      clear k_o_4
      have c := refAtMost_any w107 h_l_107 h_ol_107
      rw [AL.out] at c
      refine c.mono ?_
      rintro e w108 ⟨rfl, hb⟩
      clear c
      have B108 := B107.trans (hb.mono B107.size)
      have h_pl_108 := h_pl_107.below hb
      have h_pb_108 := h_pb_107.below hb
      have h_p_108 := h_p_107.later hb
      have h_m_108 := h_m_107.later hb
      have h_s_108 := h_s_107.below hb
      have h_l_108 := h_l_107.below hb
      have h_BW_108 := h_BW_107.trans (hb.mono h_BW_107.size)
      have h_ol_108 := h_ol_107.below hb
      have h_ob_108 := h_ob_107.below hb
      have h_o_108 := h_o_107.later hb
      have h_x_108 := h_x_107.below hb
      have h_y_108 := h_y_107.below hb
      clear hb B107 h_pl_107 h_pb_107 h_p_107 h_m_107 h_s_107 h_l_107 h_BW_107 h_ol_107 h_ob_107 h_o_107 h_x_107 h_y_107
      have k_o_4 := h_o_108.cell 4 _ rfl
      have k_m_1 := h_m_108.cell 1 _ rfl
      have ol := h_ol_108
      rw [SL.out] at ol
      have yy := h_y_108
      go_wp2_with fail
      go_roundw
      case rel => exact ⟨h_BW_108, _, _, _, _, _, _, _, _, rfl, rfl, yy, ol, .inr (.inr (.inl ⟨rfl, rfl, by go_num, Lib.hid ⟨⟨b0a, b0b⟩, ⟨b1a, b1b⟩, by rw [HI.out.2.1, HM.out.1], rfl⟩⟩))⟩
      case measure => simp [intOf]
    · have B100 := BASE.trans (BW.mono BASE.size)
      have h_pl_100 := h_pl_4.below BW
      have h_pb_100 := h_pb_4.below BW
      have h_p_100 := h_p_4.later BW
      have h_m_100 := h_m_4.later BW
      have h_s_100 := rs
      have h_l_100 := rl
      have h_BW_100 := BW
      clear rs rl BW
      have b0a : 0 ≤ m0 := HI.out.1.1
      have b0b : m0 ≤ 1000 := HI.out.1.2
      have b1a : 0 ≤ m1 := HI.out.2.1.1
      have b1b : m1 ≤ 1000 := HI.out.2.1.2
      by_cases x0 : m2 < 0
      case pos =>
        have dd : decide (m2 < 0) = true := decide_eq_true x0
        clear x0
        have k_m_0 := h_m_100.cell 0 _ rfl
        have k_m_1 := h_m_100.cell 1 _ rfl
        have k_m_2 := h_m_100.cell 2 _ rfl
        have k_p_0 := h_p_100.cell 0 _ rfl
        have k_p_1 := h_p_100.cell 1 _ rfl
        have k_p_2 := h_p_100.cell 2 _ rfl
        have k_p_3 := h_p_100.cell 3 _ rfl
        have k_p_4 := h_p_100.cell 4 _ rfl
        have k_p_5 := h_p_100.cell 5 _ rfl
        go_wp2_with fail
        clear k_m_0 k_m_1 k_m_2 k_p_0 k_p_1 k_p_2 k_p_3 k_p_4 k_p_5
        have c := examples_any wr
        refine c.mono ?_
        rintro e w101 ⟨rfl, hb⟩
        clear c
        have B101 := B100.trans (hb.mono B100.size)
        have h_pl_101 := h_pl_100.below hb
        have h_pb_101 := h_pb_100.below hb
        have h_p_101 := h_p_100.later hb
        have h_m_101 := h_m_100.later hb
        have h_s_101 := h_s_100.below hb
        have h_l_101 := h_l_100.below hb
        have h_BW_101 := h_BW_100.trans (hb.mono h_BW_100.size)
        clear hb B100 h_pl_100 h_pb_100 h_p_100 h_m_100 h_s_100 h_l_100 h_BW_100
        go_wp2_with fail
        go_ret
        exact ⟨rfl, B101⟩
      by_cases x1 : 1000 < m2
      case pos =>
        have dd : decide (m2 < 0) = false := decide_eq_false x0
        have de : decide (1000 < m2) = true := decide_eq_true x1
        clear x0 x1
        have k_m_0 := h_m_100.cell 0 _ rfl
        have k_m_1 := h_m_100.cell 1 _ rfl
        have k_m_2 := h_m_100.cell 2 _ rfl
        have k_p_0 := h_p_100.cell 0 _ rfl
        have k_p_1 := h_p_100.cell 1 _ rfl
        have k_p_2 := h_p_100.cell 2 _ rfl
        have k_p_3 := h_p_100.cell 3 _ rfl
        have k_p_4 := h_p_100.cell 4 _ rfl
        have k_p_5 := h_p_100.cell 5 _ rfl
        go_wp2_with fail
        clear k_m_0 k_m_1 k_m_2 k_p_0 k_p_1 k_p_2 k_p_3 k_p_4 k_p_5
        have c := examples_any wr
        refine c.mono ?_
        rintro e w101 ⟨rfl, hb⟩
        clear c
        have B101 := B100.trans (hb.mono B100.size)
        have h_pl_101 := h_pl_100.below hb
        have h_pb_101 := h_pb_100.below hb
        have h_p_101 := h_p_100.later hb
        have h_m_101 := h_m_100.later hb
        have h_s_101 := h_s_100.below hb
        have h_l_101 := h_l_100.below hb
        have h_BW_101 := h_BW_100.trans (hb.mono h_BW_100.size)
        clear hb B100 h_pl_100 h_pb_100 h_p_100 h_m_100 h_s_100 h_l_100 h_BW_100
        go_wp2_with fail
        go_ret
        exact ⟨rfl, B101⟩
      have dd : decide (m2 < 0) = false := decide_eq_false x0
      have de : decide (1000 < m2) = false := decide_eq_false x1
      have b2a : 0 ≤ m2 := by omega
      have b2b : m2 ≤ 1000 := by omega
      clear x0 x1
      by_cases x2 : p.s2 = 1000000
      case pos =>
        have df : (p.s2 == 1000000) = true := beq_iff_eq.2 x2
        clear x2
        have k_m_0 := h_m_100.cell 0 _ rfl
        have k_m_1 := h_m_100.cell 1 _ rfl
        have k_m_2 := h_m_100.cell 2 _ rfl
        have k_p_0 := h_p_100.cell 0 _ rfl
        have k_p_1 := h_p_100.cell 1 _ rfl
        have k_p_2 := h_p_100.cell 2 _ rfl
        have k_p_3 := h_p_100.cell 3 _ rfl
        have k_p_4 := h_p_100.cell 4 _ rfl
        have k_p_5 := h_p_100.cell 5 _ rfl
        go_wp2_with fail
        clear k_m_0 k_m_1 k_m_2 k_p_0 k_p_1 k_p_2 k_p_3 k_p_4 k_p_5
        have c := examples_any wr
        refine c.mono ?_
        rintro e w101 ⟨rfl, hb⟩
        clear c
        have B101 := B100.trans (hb.mono B100.size)
        have h_pl_101 := h_pl_100.below hb
        have h_pb_101 := h_pb_100.below hb
        have h_p_101 := h_p_100.later hb
        have h_m_101 := h_m_100.later hb
        have h_s_101 := h_s_100.below hb
        have h_l_101 := h_l_100.below hb
        have h_BW_101 := h_BW_100.trans (hb.mono h_BW_100.size)
        clear hb B100 h_pl_100 h_pb_100 h_p_100 h_m_100 h_s_100 h_l_100 h_BW_100
        go_wp2_with fail
        go_ret
        exact ⟨rfl, B101⟩
      have df : (p.s2 == 1000000) = false := beq_eq_false_iff_ne.2 x2
      have OB := Lib.hid (obs_one V0.out (x := 2) (by decide) (by decide) x2)
      have SL := Lib.hid ((step_lev V0.out 2).trans (congrArg limbs KK.out.2.2.symm))
      obtain ⟨M, hM⟩ : ∃ M : Nat, M = m2.toNat := ⟨_, rfl⟩
      have cv : IntKind.u64.wrap m2 = (M : Int) := by
        simp only [IntKind.wrap, IntKind.bits, IntKind.signed]
        simp
        omega
      have HM := Lib.hid (show M = m2.toNat ∧ M ≤ 1000 from ⟨hM, by omega⟩)
      clear hM x2
      have k_m_0 := h_m_100.cell 0 _ rfl
      have k_m_1 := h_m_100.cell 1 _ rfl
      have k_m_2 := h_m_100.cell 2 _ rfl
      have k_p_0 := h_p_100.cell 0 _ rfl
      have k_p_1 := h_p_100.cell 1 _ rfl
      have k_p_2 := h_p_100.cell 2 _ rfl
      have k_p_3 := h_p_100.cell 3 _ rfl
      have k_p_4 := h_p_100.cell 4 _ rfl
      have k_p_5 := h_p_100.cell 5 _ rfl
      have hb := below_al wr (.cells #[.int .i64 2] 3)
      have B101 := B100.trans (hb.mono B100.size)
      have h_pl_101 := h_pl_100.below hb
      have h_pb_101 := h_pb_100.below hb
      have h_p_101 := h_p_100.later hb
      have h_m_101 := h_m_100.later hb
      have h_s_101 := h_s_100.below hb
      have h_l_101 := h_l_100.below hb
      have h_BW_101 := h_BW_100.trans (hb.mono h_BW_100.size)
      clear hb B100 h_pl_100 h_pb_100 h_p_100 h_m_100 h_s_100 h_l_100 h_BW_100
      have h_li_101 := rdI_one wr 2 (by unfold wide64; decide)
      go_wp2_with fail
      clear k_m_0 k_m_1 k_m_2 k_p_0 k_p_1 k_p_2 k_p_3 k_p_4 k_p_5
      generalize (wr.alloc (.cells #[.int .i64 2] 3)) = w101 at *
      have c := observe_any w101 h_pl_101 h_pb_101 pw_p h_li_101
      rw [OB.out] at c
      refine c.mono ?_
      rintro e w102 ⟨a_o, n_o, c_o, b_o, m_o, d_o, rfl, h_ol_102, h_ob_102, hb⟩
      clear c
      have B102 := B101.trans (hb.mono B101.size)
      have h_pl_102 := h_pl_101.below hb
      have h_pb_102 := h_pb_101.below hb
      have h_p_102 := h_p_101.later hb
      have h_m_102 := h_m_101.later hb
      have h_s_102 := h_s_101.below hb
      have h_l_102 := h_l_101.below hb
      have h_BW_102 := h_BW_101.trans (hb.mono h_BW_101.size)
      clear hb B101 h_pl_101 h_pb_101 h_p_101 h_m_101 h_s_101 h_l_101 h_BW_101 h_li_101
      have hb := below_al w102 (.cells (polC (step p 2) a_o n_o c_o b_o m_o d_o) 25)
      have B103 := B102.trans (hb.mono B102.size)
      have h_pl_103 := h_pl_102.below hb
      have h_pb_103 := h_pb_102.below hb
      have h_p_103 := h_p_102.later hb
      have h_m_103 := h_m_102.later hb
      have h_s_103 := h_s_102.below hb
      have h_l_103 := h_l_102.below hb
      have h_BW_103 := h_BW_102.trans (hb.mono h_BW_102.size)
      have h_ol_103 := h_ol_102.below hb
      have h_ob_103 := h_ob_102.below hb
      clear hb B102 h_pl_102 h_pb_102 h_p_102 h_m_102 h_s_102 h_l_102 h_BW_102 h_ol_102 h_ob_102
      have h_o_103 := Has.new w102 (polC (step p 2) a_o n_o c_o b_o m_o d_o) 25
      go_upto_region 11 with (first | refine wpList_store_new rfl 25 _ _ rfl atPol _ _ _ rfl rfl rfl rfl (pol_one (step p 2) _ _ _ _ _ _) ?_)
      generalize (w102.alloc (.cells (polC (step p 2) a_o n_o c_o b_o m_o d_o) 25)) = w103 at *
      have hb := (Below.refl w103.heap.size w103).drew
      have B104 := B103.trans (hb.mono B103.size)
      have h_pl_104 := h_pl_103.below hb
      have h_pb_104 := h_pb_103.below hb
      have h_p_104 := h_p_103.later hb
      have h_m_104 := h_m_103.later hb
      have h_s_104 := h_s_103.below hb
      have h_l_104 := h_l_103.below hb
      have h_BW_104 := h_BW_103.trans (hb.mono h_BW_103.size)
      have h_ol_104 := h_ol_103.below hb
      have h_ob_104 := h_ob_103.below hb
      have h_o_104 := h_o_103.later hb
      clear hb B103 h_pl_103 h_pb_103 h_p_103 h_m_103 h_s_103 h_l_103 h_BW_103 h_ol_103 h_ob_103 h_o_103
      refine wp_region_held_drew (S := (fun w' => w'.cell? ⟨w102.heap.size, 4, none⟩ = some (.slice a_o n_o c_o) ∧ w'.cell? ⟨w.heap.size + 1, 2, none⟩ = some (.int .i64 m2) ∧ True)) (by kernel_rfl) ?_ (fun hHeld => ?_)
      · exact ⟨h_o_104.cell 4 _ rfl, h_m_104.cell 2 _ rfl, trivial⟩
      generalize w103.drew = w104 at *
      refine wpAnyH_take (i := 0) (oi := ?oir9_0) (v := ?vr9_0) ?hir9_0 (by kernel_rfl) (by kernel_rfl) (by kernel_rfl) ?hqr9_0 ?hyr9_0 (by assumption) ?restr9_0
      case hir9_0 => simp only [List.getElem?_toArray, List.getElem?_cons_succ, List.getElem?_cons_zero]; rfl
      case hqr9_0 => exact fun _ _ _ h => h
      case hyr9_0 => (refine Or.inl ⟨by rfl, ?_⟩; intro w hSw; (try dsimp only at hSw); go_simp; all_goals with_reducible rfl)
      try simp only [Act.put, List.setIfInBounds_toArray, List.set_cons_zero, List.set_cons_succ]
      refine wpAnyH_take (i := 1) (oi := ?oir9_1) (v := ?vr9_1) ?hir9_1 (by kernel_rfl) (by kernel_rfl) (by kernel_rfl) ?hqr9_1 ?hyr9_1 (by assumption) ?restr9_1
      case hir9_1 => simp only [List.getElem?_toArray, List.getElem?_cons_succ, List.getElem?_cons_zero]; rfl
      case hqr9_1 => exact fun _ _ _ h => h
      case hyr9_1 => (refine Or.inl ⟨by rfl, ?_⟩; intro w hSw; (try dsimp only at hSw); go_simp; all_goals with_reducible rfl)
      try simp only [Act.put, List.setIfInBounds_toArray, List.set_cons_zero, List.set_cons_succ]
      refine wpAnyH_take (i := 2) (oi := ?oir9_2) (v := ?vr9_2) ?hir9_2 (by kernel_rfl) (by kernel_rfl) (by kernel_rfl) ?hqr9_2 ?hyr9_2 (by assumption) ?restr9_2
      case hir9_2 => simp only [List.getElem?_toArray, List.getElem?_cons_succ, List.getElem?_cons_zero]; rfl
      case hqr9_2 => exact fun _ _ _ h => h
      case hyr9_2 => (refine Or.inl ⟨by rfl, ?_⟩; intro w hSw; (try dsimp only at hSw); go_simp; all_goals with_reducible rfl)
      try simp only [Act.put, List.setIfInBounds_toArray, List.set_cons_zero, List.set_cons_succ]
      refine wpAnyH_take (i := 3) (oi := ?oir9_3) (v := ?vr9_3) ?hir9_3 (by kernel_rfl) (by kernel_rfl) (by kernel_rfl) ?hqr9_3 ?hyr9_3 (by assumption) ?restr9_3
      case hir9_3 => simp only [List.getElem?_toArray, List.getElem?_cons_succ, List.getElem?_cons_zero]; rfl
      case hqr9_3 => exact fun _ _ _ h => h
      case hyr9_3 => (refine Or.inl ⟨by rfl, ?_⟩; intro w hSw; (try dsimp only at hSw); go_simp; all_goals with_reducible rfl)
      try simp only [Act.put, List.setIfInBounds_toArray, List.set_cons_zero, List.set_cons_succ]
      refine wpAnyH_take (i := 4) (oi := ?oir9_4) (v := ?vr9_4) ?hir9_4 (by kernel_rfl) (by kernel_rfl) (by kernel_rfl) ?hqr9_4 ?hyr9_4 (by assumption) ?restr9_4
      case hir9_4 => simp only [List.getElem?_toArray, List.getElem?_cons_succ, List.getElem?_cons_zero]; rfl
      case hqr9_4 => exact fun _ _ _ h => h
      case hyr9_4 => (refine Or.inl ⟨by rfl, ?_⟩; intro w hSw; (try dsimp only at hSw); go_simp; all_goals with_reducible rfl)
      try simp only [Act.put, List.setIfInBounds_toArray, List.set_cons_zero, List.set_cons_succ]
      refine wpAnyH_take (i := 5) (oi := ?oir9_5) (v := ?vr9_5) ?hir9_5 (by kernel_rfl) (by kernel_rfl) (by kernel_rfl) ?hqr9_5 ?hyr9_5 (by assumption) ?restr9_5
      case hir9_5 => simp only [List.getElem?_toArray, List.getElem?_cons_succ, List.getElem?_cons_zero]; rfl
      case hqr9_5 => exact fun _ _ _ h => h
      case hyr9_5 => (refine Or.inl ⟨by rfl, ?_⟩; intro w hSw; (try dsimp only at hSw); go_simp; all_goals with_reducible rfl)
      try simp only [Act.put, List.setIfInBounds_toArray, List.set_cons_zero, List.set_cons_succ]
      refine wpAnyH_ready (rs := [6]) (by kernel_rfl) (by simp) ?_
      refine AllReadyH.cons (o := ?or10_6) ?hor10_6 (fun K hK => ?kr10_6) AllReadyH.nil
      case hor10_6 => simp only [List.getElem?_toArray, List.getElem?_cons_succ, List.getElem?_cons_zero]; rfl
      go_simp
      have c := refOf_any w104 M (by have := HM.out.2; omega)
      refine c.mono ?_
      rintro e w105 ⟨a_f, n_f, c_f, rfl, h_f_105, hb⟩
      clear c
      have B105 := B104.trans (hb.mono B104.size)
      have h_pl_105 := h_pl_104.below hb
      have h_pb_105 := h_pb_104.below hb
      have h_p_105 := h_p_104.later hb
      have h_m_105 := h_m_104.later hb
      have h_s_105 := h_s_104.below hb
      have h_l_105 := h_l_104.below hb
      have h_BW_105 := h_BW_104.trans (hb.mono h_BW_104.size)
      have h_ol_105 := h_ol_104.below hb
      have h_ob_105 := h_ob_104.below hb
      have h_o_105 := h_o_104.later hb
      clear hb B104 h_pl_104 h_pb_104 h_p_104 h_m_104 h_s_104 h_l_104 h_BW_104 h_ol_104 h_ob_104 h_o_104
      go_wp2_with fail
      clear hHeld
      refine hK.out _ _ ?_ (fun hHeld => ?_)
      · exact ⟨h_o_105.cell 4 _ rfl, h_m_105.cell 2 _ rfl, trivial⟩
      clear hK K
      try simp only [Act.put, List.setIfInBounds_toArray, List.set_cons_zero, List.set_cons_succ]
      refine wpAnyH_ready (rs := [7]) (by kernel_rfl) (by simp) ?_
      refine AllReadyH.cons (o := ?or11_7) ?hor11_7 (fun K hK => ?kr11_7) AllReadyH.nil
      case hor11_7 => simp only [List.getElem?_toArray, List.getElem?_cons_succ, List.getElem?_cons_zero]; rfl
      go_simp
      have hol := h_ol_105
      rw [SL.out] at hol
      have c := refMul_any w105 hol h_f_105
      rw [mul_ok (Nat.lt_of_lt_of_le KB.out.2.2 (pw_le (by decide))) (Nat.lt_of_le_of_lt HM.out.2 (Nat.lt_of_lt_of_le (by decide) (pw_le (show 1 ≤ 96 by decide)))) (Nat.lt_of_lt_of_le (mul_lt_pw KB.out.2.2 (show M < pw 1 from Nat.lt_of_le_of_lt HM.out.2 (by decide))) (pw_le (by decide)))] at c
      refine c.mono ?_
      rintro e w106 ⟨a_x, n_x, c_x, rfl, h_x_106, hb⟩
      clear c
      have B106 := B105.trans (hb.mono B105.size)
      have h_pl_106 := h_pl_105.below hb
      have h_pb_106 := h_pb_105.below hb
      have h_p_106 := h_p_105.later hb
      have h_m_106 := h_m_105.later hb
      have h_s_106 := h_s_105.below hb
      have h_l_106 := h_l_105.below hb
      have h_BW_106 := h_BW_105.trans (hb.mono h_BW_105.size)
      have h_ol_106 := h_ol_105.below hb
      have h_ob_106 := h_ob_105.below hb
      have h_o_106 := h_o_105.later hb
      clear hb B105 h_pl_105 h_pb_105 h_p_105 h_m_105 h_s_105 h_l_105 h_BW_105 h_ol_105 h_ob_105 h_o_105 h_f_105
      clear hol
      go_wp2_with fail
      clear hHeld
      refine hK.out _ _ ?_ (fun hHeld => ?_)
      · exact ⟨h_o_106.cell 4 _ rfl, h_m_106.cell 2 _ rfl, trivial⟩
      clear hK K
      try simp only [Act.put, List.setIfInBounds_toArray, List.set_cons_zero, List.set_cons_succ]
      refine wpAnyH_take (i := 8) (oi := ?oir12_8) (v := ?vr12_8) ?hir12_8 (by kernel_rfl) (by kernel_rfl) (by kernel_rfl) ?hqr12_8 ?hyr12_8 (by assumption) ?restr12_8
      case hir12_8 => simp only [List.getElem?_toArray, List.getElem?_cons_succ, List.getElem?_cons_zero]; rfl
      case hqr12_8 => exact fun _ _ _ h => h
      case hyr12_8 => (refine Or.inl ⟨by rfl, ?_⟩; intro w hSw; (try dsimp only at hSw); go_simp; all_goals with_reducible rfl)
      try simp only [Act.put, List.setIfInBounds_toArray, List.set_cons_zero, List.set_cons_succ]
      refine wpAnyH_take (i := 9) (oi := ?oir12_9) (v := ?vr12_9) ?hir12_9 (by kernel_rfl) (by kernel_rfl) (by kernel_rfl) ?hqr12_9 ?hyr12_9 (by assumption) ?restr12_9
      case hir12_9 => simp only [List.getElem?_toArray, List.getElem?_cons_succ, List.getElem?_cons_zero]; rfl
      case hqr12_9 => exact fun _ _ _ h => h
      case hyr12_9 => (refine Or.inl ⟨by rfl, ?_⟩; intro w hSw; (try dsimp only at hSw); go_simp; all_goals with_reducible rfl)
      try simp only [Act.put, List.setIfInBounds_toArray, List.set_cons_zero, List.set_cons_succ]
      refine wpAnyH_take (i := 10) (oi := ?oir12_10) (v := ?vr12_10) ?hir12_10 (by kernel_rfl) (by kernel_rfl) (by kernel_rfl) ?hqr12_10 ?hyr12_10 (by assumption) ?restr12_10
      case hir12_10 => simp only [List.getElem?_toArray, List.getElem?_cons_succ, List.getElem?_cons_zero]; rfl
      case hqr12_10 => exact fun _ _ _ h => h
      case hyr12_10 => (refine Or.inl ⟨by rfl, ?_⟩; intro w hSw; (try dsimp only at hSw); go_simp; all_goals with_reducible rfl)
      try simp only [Act.put, List.setIfInBounds_toArray, List.set_cons_zero, List.set_cons_succ]
      refine wpAnyH_take (i := 11) (oi := ?oir12_11) (v := ?vr12_11) ?hir12_11 (by kernel_rfl) (by kernel_rfl) (by kernel_rfl) ?hqr12_11 ?hyr12_11 (by assumption) ?restr12_11
      case hir12_11 => simp only [List.getElem?_toArray, List.getElem?_cons_succ, List.getElem?_cons_zero]; rfl
      case hqr12_11 => exact fun _ _ _ h => h
      case hyr12_11 => (refine Or.inl ⟨by rfl, ?_⟩; intro w hSw; (try dsimp only at hSw); go_simp; all_goals with_reducible rfl)
      try simp only [Act.put, List.setIfInBounds_toArray, List.set_cons_zero, List.set_cons_succ]
      refine wpAnyH_take (i := 12) (oi := ?oir12_12) (v := ?vr12_12) ?hir12_12 (by kernel_rfl) (by kernel_rfl) (by kernel_rfl) ?hqr12_12 ?hyr12_12 (by assumption) ?restr12_12
      case hir12_12 => simp only [List.getElem?_toArray, List.getElem?_cons_succ, List.getElem?_cons_zero]; rfl
      case hqr12_12 => exact fun _ _ _ h => h
      case hyr12_12 => (refine Or.inl ⟨by rfl, ?_⟩; intro w hSw; (try dsimp only at hSw); go_simp; all_goals with_reducible rfl)
      try simp only [Act.put, List.setIfInBounds_toArray, List.set_cons_zero, List.set_cons_succ]
      refine wpAnyH_done (by kernel_rfl) ?_ _
      clear hHeld
      have SB : Sv < pw 8 ∧ Sv + K2 * M < pw 8 := by
        have hm := HM.out.2
        have e5 : pw 5 * 4000 ≤ pw 8 := by decide
        have kb := KB.out
        have q0 : K0 * m0.toNat ≤ pw 5 * 1000 := Nat.mul_le_mul (Nat.le_of_lt kb.1) (by omega)
        have q1 : K1 * m1.toNat ≤ pw 5 * 1000 := Nat.mul_le_mul (Nat.le_of_lt kb.2.1) (by omega)
        have q2 : K2 * M ≤ pw 5 * 1000 := Nat.mul_le_mul (Nat.le_of_lt kb.2.2) hm
        have hs : Sv = K0 * m0.toNat + K1 * m1.toNat := HI.out.2.2.1
        have p5 : 0 < pw 5 := pw_pos 5
        generalize pw 5 = P at *
        omega
      have SBH := Lib.hid SB
      clear SB
      go_wp2_with fail
      have c := refAdd_any w106 h_s_106 h_x_106
      rw [add_ok (Nat.lt_of_lt_of_le SBH.out.2 (pw_le (by decide)))] at c
      refine c.mono ?_
      rintro e w107 ⟨a_y, n_y, c_y, rfl, h_y_107, hb⟩
      clear c
      have B107 := B106.trans (hb.mono B106.size)
      have h_pl_107 := h_pl_106.below hb
      have h_pb_107 := h_pb_106.below hb
      have h_p_107 := h_p_106.later hb
      have h_m_107 := h_m_106.later hb
      have h_s_107 := h_s_106.below hb
      have h_l_107 := h_l_106.below hb
      have h_BW_107 := h_BW_106.trans (hb.mono h_BW_106.size)
      have h_ol_107 := h_ol_106.below hb
      have h_ob_107 := h_ob_106.below hb
      have h_o_107 := h_o_106.later hb
      have h_x_107 := h_x_106.below hb
      clear hb B106 h_pl_106 h_pb_106 h_p_106 h_m_106 h_s_106 h_l_106 h_BW_106 h_ol_106 h_ob_106 h_o_106 h_x_106
      have AL := Lib.hid (show leC (limbs Lv) (step p 2).lev = true by
        rw [SL.out, leC_ok (by rw [show Lv = K1 from HI.out.2.2.2]; exact Nat.lt_of_lt_of_le KB.out.2.1 (pw_le (by decide))) (Nat.lt_of_lt_of_le KB.out.2.2 (pw_le (by decide)))]
        refine decide_eq_true ?_
        rw [show Lv = K1 from HI.out.2.2.2]
        exact KM.out.2)
      have k_o_4 := h_o_107.cell 4 _ rfl
      go_wp2_with fail
      clear k_o_4
      have c := refAtMost_any w107 h_l_107 h_ol_107
      rw [AL.out] at c
      refine c.mono ?_
      rintro e w108 ⟨rfl, hb⟩
      clear c
      have B108 := B107.trans (hb.mono B107.size)
      have h_pl_108 := h_pl_107.below hb
      have h_pb_108 := h_pb_107.below hb
      have h_p_108 := h_p_107.later hb
      have h_m_108 := h_m_107.later hb
      have h_s_108 := h_s_107.below hb
      have h_l_108 := h_l_107.below hb
      have h_BW_108 := h_BW_107.trans (hb.mono h_BW_107.size)
      have h_ol_108 := h_ol_107.below hb
      have h_ob_108 := h_ob_107.below hb
      have h_o_108 := h_o_107.later hb
      have h_x_108 := h_x_107.below hb
      have h_y_108 := h_y_107.below hb
      clear hb B107 h_pl_107 h_pb_107 h_p_107 h_m_107 h_s_107 h_l_107 h_BW_107 h_ol_107 h_ob_107 h_o_107 h_x_107 h_y_107
      have k_o_4 := h_o_108.cell 4 _ rfl
      have k_m_2 := h_m_108.cell 2 _ rfl
      have ol := h_ol_108
      rw [SL.out] at ol
      have yy := h_y_108
      go_wp2_with fail
      go_roundw
      case rel => exact ⟨h_BW_108, _, _, _, _, _, _, _, _, rfl, rfl, yy, ol, .inr (.inr (.inr ⟨rfl, rfl, rfl, Lib.hid ⟨⟨b0a, b0b⟩, ⟨b1a, b1b⟩, ⟨b2a, b2b⟩, by rw [HI.out.2.2.1, HM.out.1]⟩⟩))⟩
      case measure => simp [intOf]
    · have B100 := BASE.trans (BW.mono BASE.size)
      have h_pl_100 := h_pl_4.below BW
      have h_pb_100 := h_pb_4.below BW
      have h_p_100 := h_p_4.later BW
      have h_m_100 := h_m_4.later BW
      have h_s_100 := rs
      have h_l_100 := rl
      have h_BW_100 := BW
      clear rs rl BW
      have b0a : 0 ≤ m0 := HI.out.1.1
      have b0b : m0 ≤ 1000 := HI.out.1.2
      have b1a : 0 ≤ m1 := HI.out.2.1.1
      have b1b : m1 ≤ 1000 := HI.out.2.1.2
      have b2a : 0 ≤ m2 := HI.out.2.2.1.1
      have b2b : m2 ≤ 1000 := HI.out.2.2.1.2
      obtain ⟨M, hM⟩ : ∃ M : Nat, M = (m0 + m1 + m2).toNat := ⟨_, rfl⟩
      have cv : IntKind.u64.wrap (m0 + m1 + m2) = (M : Int) := by
        simp only [IntKind.wrap, IntKind.bits, IntKind.signed]
        simp
        omega
      have HM := Lib.hid (show M = m0.toNat + m1.toNat + m2.toNat ∧ M ≤ 3000 from ⟨by omega, by omega⟩)
      clear hM
      go_upto_region 19 with fail
      have hb := (Below.refl wr.heap.size wr).drew
      have B101 := B100.trans (hb.mono B100.size)
      have h_pl_101 := h_pl_100.below hb
      have h_pb_101 := h_pb_100.below hb
      have h_p_101 := h_p_100.later hb
      have h_m_101 := h_m_100.later hb
      have h_s_101 := h_s_100.below hb
      have h_l_101 := h_l_100.below hb
      have h_BW_101 := h_BW_100.trans (hb.mono h_BW_100.size)
      clear hb B100 h_pl_100 h_pb_100 h_p_100 h_m_100 h_s_100 h_l_100 h_BW_100
      refine wp_region_held_drew (S := (fun w' => w'.cell? ⟨w.heap.size, 4, none⟩ = some (.slice a_p n_p c_p) ∧ True)) (by kernel_rfl) ?_ (fun hHeld => ?_)
      · exact ⟨h_p_101.cell 4 _ rfl, trivial⟩
      generalize wr.drew = w101 at *
      refine wpAnyH_take (i := 0) (oi := ?oir13_0) (v := ?vr13_0) ?hir13_0 (by kernel_rfl) (by kernel_rfl) (by kernel_rfl) ?hqr13_0 ?hyr13_0 (by assumption) ?restr13_0
      case hir13_0 => simp only [List.getElem?_toArray, List.getElem?_cons_succ, List.getElem?_cons_zero]; rfl
      case hqr13_0 => exact fun _ _ _ h => h
      case hyr13_0 => (refine Or.inl ⟨by rfl, ?_⟩; intro w hSw; (try dsimp only at hSw); go_simp; all_goals with_reducible rfl)
      try simp only [Act.put, List.setIfInBounds_toArray, List.set_cons_zero, List.set_cons_succ]
      refine wpAnyH_take (i := 1) (oi := ?oir13_1) (v := ?vr13_1) ?hir13_1 (by kernel_rfl) (by kernel_rfl) (by kernel_rfl) ?hqr13_1 ?hyr13_1 (by assumption) ?restr13_1
      case hir13_1 => simp only [List.getElem?_toArray, List.getElem?_cons_succ, List.getElem?_cons_zero]; rfl
      case hqr13_1 => exact fun _ _ _ h => h
      case hyr13_1 => (refine Or.inl ⟨by rfl, ?_⟩; intro w hSw; (try dsimp only at hSw); go_simp; all_goals with_reducible rfl)
      try simp only [Act.put, List.setIfInBounds_toArray, List.set_cons_zero, List.set_cons_succ]
      refine wpAnyH_take (i := 2) (oi := ?oir13_2) (v := ?vr13_2) ?hir13_2 (by kernel_rfl) (by kernel_rfl) (by kernel_rfl) ?hqr13_2 ?hyr13_2 (by assumption) ?restr13_2
      case hir13_2 => simp only [List.getElem?_toArray, List.getElem?_cons_succ, List.getElem?_cons_zero]; rfl
      case hqr13_2 => exact fun _ _ _ h => h
      case hyr13_2 => (refine Or.inl ⟨by rfl, ?_⟩; intro w hSw; (try dsimp only at hSw); go_simp; all_goals with_reducible rfl)
      try simp only [Act.put, List.setIfInBounds_toArray, List.set_cons_zero, List.set_cons_succ]
      refine wpAnyH_take (i := 3) (oi := ?oir13_3) (v := ?vr13_3) ?hir13_3 (by kernel_rfl) (by kernel_rfl) (by kernel_rfl) ?hqr13_3 ?hyr13_3 (by assumption) ?restr13_3
      case hir13_3 => simp only [List.getElem?_toArray, List.getElem?_cons_succ, List.getElem?_cons_zero]; rfl
      case hqr13_3 => exact fun _ _ _ h => h
      case hyr13_3 => (refine Or.inl ⟨by rfl, ?_⟩; intro w hSw; (try dsimp only at hSw); go_simp; all_goals with_reducible rfl)
      try simp only [Act.put, List.setIfInBounds_toArray, List.set_cons_zero, List.set_cons_succ]
      refine wpAnyH_ready (rs := [4]) (by kernel_rfl) (by simp) ?_
      refine AllReadyH.cons (o := ?or14_4) ?hor14_4 (fun K hK => ?kr14_4) AllReadyH.nil
      case hor14_4 => simp only [List.getElem?_toArray, List.getElem?_cons_succ, List.getElem?_cons_zero]; rfl
      go_simp
      have c := refOf_any w101 M (by have := HM.out.2; omega)
      refine c.mono ?_
      rintro e w102 ⟨a_f, n_f, c_f, rfl, h_f_102, hb⟩
      clear c
      have B102 := B101.trans (hb.mono B101.size)
      have h_pl_102 := h_pl_101.below hb
      have h_pb_102 := h_pb_101.below hb
      have h_p_102 := h_p_101.later hb
      have h_m_102 := h_m_101.later hb
      have h_s_102 := h_s_101.below hb
      have h_l_102 := h_l_101.below hb
      have h_BW_102 := h_BW_101.trans (hb.mono h_BW_101.size)
      clear hb B101 h_pl_101 h_pb_101 h_p_101 h_m_101 h_s_101 h_l_101 h_BW_101
      go_wp2_with fail
      clear hHeld
      refine hK.out _ _ ?_ (fun hHeld => ?_)
      · exact ⟨h_p_102.cell 4 _ rfl, trivial⟩
      clear hK K
      try simp only [Act.put, List.setIfInBounds_toArray, List.set_cons_zero, List.set_cons_succ]
      refine wpAnyH_ready (rs := [5]) (by kernel_rfl) (by simp) ?_
      refine AllReadyH.cons (o := ?or15_5) ?hor15_5 (fun K hK => ?kr15_5) AllReadyH.nil
      case hor15_5 => simp only [List.getElem?_toArray, List.getElem?_cons_succ, List.getElem?_cons_zero]; rfl
      go_simp
      have hol := h_pl_102
      rw [V0.out.lev] at hol
      have c := refMul_any w102 hol h_f_102
      rw [mul_ok V0.out.pw.1 (Nat.lt_of_le_of_lt HM.out.2 (Nat.lt_of_lt_of_le (by decide) (pw_le (show 1 ≤ 96 by decide)))) (Nat.lt_of_lt_of_le (mul_lt_pw (show La < pw 5 from Nat.lt_of_le_of_lt (Nat.le_trans V0.out.le V0.out.hi) (by decide)) (show M < pw 1 from Nat.lt_of_le_of_lt HM.out.2 (by decide))) (pw_le (by decide)))] at c
      refine c.mono ?_
      rintro e w103 ⟨a_x, n_x, c_x, rfl, h_x_103, hb⟩
      clear c
      have B103 := B102.trans (hb.mono B102.size)
      have h_pl_103 := h_pl_102.below hb
      have h_pb_103 := h_pb_102.below hb
      have h_p_103 := h_p_102.later hb
      have h_m_103 := h_m_102.later hb
      have h_s_103 := h_s_102.below hb
      have h_l_103 := h_l_102.below hb
      have h_BW_103 := h_BW_102.trans (hb.mono h_BW_102.size)
      clear hb B102 h_pl_102 h_pb_102 h_p_102 h_m_102 h_s_102 h_l_102 h_BW_102 h_f_102
      clear hol
      go_wp2_with fail
      clear hHeld
      refine hK.out _ _ ?_ (fun hHeld => ?_)
      · exact ⟨h_p_103.cell 4 _ rfl, trivial⟩
      clear hK K
      try simp only [Act.put, List.setIfInBounds_toArray, List.set_cons_zero, List.set_cons_succ]
      refine wpAnyH_take (i := 6) (oi := ?oir16_6) (v := ?vr16_6) ?hir16_6 (by kernel_rfl) (by kernel_rfl) (by kernel_rfl) ?hqr16_6 ?hyr16_6 (by assumption) ?restr16_6
      case hir16_6 => simp only [List.getElem?_toArray, List.getElem?_cons_succ, List.getElem?_cons_zero]; rfl
      case hqr16_6 => exact fun _ _ _ h => h
      case hyr16_6 => (refine Or.inl ⟨by rfl, ?_⟩; intro w hSw; (try dsimp only at hSw); go_simp; all_goals with_reducible rfl)
      try simp only [Act.put, List.setIfInBounds_toArray, List.set_cons_zero, List.set_cons_succ]
      refine wpAnyH_take (i := 7) (oi := ?oir16_7) (v := ?vr16_7) ?hir16_7 (by kernel_rfl) (by kernel_rfl) (by kernel_rfl) ?hqr16_7 ?hyr16_7 (by assumption) ?restr16_7
      case hir16_7 => simp only [List.getElem?_toArray, List.getElem?_cons_succ, List.getElem?_cons_zero]; rfl
      case hqr16_7 => exact fun _ _ _ h => h
      case hyr16_7 => (refine Or.inl ⟨by rfl, ?_⟩; intro w hSw; (try dsimp only at hSw); go_simp; all_goals with_reducible rfl)
      try simp only [Act.put, List.setIfInBounds_toArray, List.set_cons_zero, List.set_cons_succ]
      refine wpAnyH_take (i := 8) (oi := ?oir16_8) (v := ?vr16_8) ?hir16_8 (by kernel_rfl) (by kernel_rfl) (by kernel_rfl) ?hqr16_8 ?hyr16_8 (by assumption) ?restr16_8
      case hir16_8 => simp only [List.getElem?_toArray, List.getElem?_cons_succ, List.getElem?_cons_zero]; rfl
      case hqr16_8 => exact fun _ _ _ h => h
      case hyr16_8 => (refine Or.inl ⟨by rfl, ?_⟩; intro w hSw; (try dsimp only at hSw); go_simp; all_goals with_reducible rfl)
      try simp only [Act.put, List.setIfInBounds_toArray, List.set_cons_zero, List.set_cons_succ]
      refine wpAnyH_take (i := 9) (oi := ?oir16_9) (v := ?vr16_9) ?hir16_9 (by kernel_rfl) (by kernel_rfl) (by kernel_rfl) ?hqr16_9 ?hyr16_9 (by assumption) ?restr16_9
      case hir16_9 => simp only [List.getElem?_toArray, List.getElem?_cons_succ, List.getElem?_cons_zero]; rfl
      case hqr16_9 => exact fun _ _ _ h => h
      case hyr16_9 => (refine Or.inl ⟨by rfl, ?_⟩; intro w hSw; (try dsimp only at hSw); go_simp; all_goals with_reducible rfl)
      try simp only [Act.put, List.setIfInBounds_toArray, List.set_cons_zero, List.set_cons_succ]
      refine wpAnyH_take (i := 10) (oi := ?oir16_10) (v := ?vr16_10) ?hir16_10 (by kernel_rfl) (by kernel_rfl) (by kernel_rfl) ?hqr16_10 ?hyr16_10 (by assumption) ?restr16_10
      case hir16_10 => simp only [List.getElem?_toArray, List.getElem?_cons_succ, List.getElem?_cons_zero]; rfl
      case hqr16_10 => exact fun _ _ _ h => h
      case hyr16_10 => (refine Or.inl ⟨by rfl, ?_⟩; intro w hSw; (try dsimp only at hSw); go_simp; all_goals with_reducible rfl)
      try simp only [Act.put, List.setIfInBounds_toArray, List.set_cons_zero, List.set_cons_succ]
      refine wpAnyH_done (by kernel_rfl) ?_ _
      clear hHeld
      by_cases big : m0 + m1 + m2 < m1 + 2 * m2
      case pos =>
        have db : decide (m0 + m1 + m2 < m1 + 2 * m2) = true := decide_eq_true big
        clear big
        go_wp2_with fail
        have c := examples_any w103
        refine c.mono ?_
        rintro e w104 ⟨rfl, hb⟩
        clear c
        have B104 := B103.trans (hb.mono B103.size)
        have h_pl_104 := h_pl_103.below hb
        have h_pb_104 := h_pb_103.below hb
        have h_p_104 := h_p_103.later hb
        have h_m_104 := h_m_103.later hb
        have h_s_104 := h_s_103.below hb
        have h_l_104 := h_l_103.below hb
        have h_BW_104 := h_BW_103.trans (hb.mono h_BW_103.size)
        have h_x_104 := h_x_103.below hb
        clear hb B103 h_pl_103 h_pb_103 h_p_103 h_m_103 h_s_103 h_l_103 h_BW_103 h_x_103
        go_wp2_with fail
        go_ret
        exact ⟨rfl, B104⟩
      have db : decide (m0 + m1 + m2 < m1 + 2 * m2) = false := decide_eq_false big
      have AL := Lib.hid (show leC (limbs Sv) (limbs (La * M)) = true by
        have hs := HI.out.2.2.2
        have kb := KB.out
        have m96 : La * M < pw 96 := Nat.lt_of_lt_of_le (mul_lt_pw (show La < pw 5 from Nat.lt_of_le_of_lt (Nat.le_trans V0.out.le V0.out.hi) (by decide)) (show M < pw 1 from Nat.lt_of_le_of_lt HM.out.2 (by decide))) (pw_le (by decide))
        have hle : Sv ≤ La * M := by
          rw [hs, HM.out.1, KK.out.1, KK.out.2.1, KK.out.2.2]
          exact super_sum V0.out.bet (by omega)
        rw [leC_ok (Nat.lt_of_le_of_lt hle m96) m96]
        exact decide_eq_true hle)
      clear big
      go_wp2_with fail
      have c := refAtMost_any w103 h_s_103 h_x_103
      rw [AL.out] at c
      refine c.mono ?_
      rintro e w104 ⟨rfl, hb⟩
      clear c
      have B104 := B103.trans (hb.mono B103.size)
      have h_pl_104 := h_pl_103.below hb
      have h_pb_104 := h_pb_103.below hb
      have h_p_104 := h_p_103.later hb
      have h_m_104 := h_m_103.later hb
      have h_s_104 := h_s_103.below hb
      have h_l_104 := h_l_103.below hb
      have h_BW_104 := h_BW_103.trans (hb.mono h_BW_103.size)
      have h_x_104 := h_x_103.below hb
      clear hb B103 h_pl_103 h_pb_103 h_p_103 h_m_103 h_s_103 h_l_103 h_BW_103 h_x_103
      go_wp2_with fail
      have c := examples_any w104
      refine c.mono ?_
      rintro e w105 ⟨rfl, hb⟩
      clear c
      have B105 := B104.trans (hb.mono B104.size)
      have h_pl_105 := h_pl_104.below hb
      have h_pb_105 := h_pb_104.below hb
      have h_p_105 := h_p_104.later hb
      have h_m_105 := h_m_104.later hb
      have h_s_105 := h_s_104.below hb
      have h_l_105 := h_l_104.below hb
      have h_BW_105 := h_BW_104.trans (hb.mono h_BW_104.size)
      have h_x_105 := h_x_104.below hb
      clear hb B104 h_pl_104 h_pb_104 h_p_104 h_m_104 h_s_104 h_l_104 h_BW_104 h_x_104
      go_wp2_with fail
      go_ret
      exact ⟨rfl, B105⟩

end Go.Proofs.Ytkomdiblopdfiaa
