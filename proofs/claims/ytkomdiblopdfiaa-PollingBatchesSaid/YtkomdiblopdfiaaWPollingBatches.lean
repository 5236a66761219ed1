/- The walk of the law PollingBatches: it returns true and turns nothing that was there. No condition. Printed by gen_pollaws.py. -/
import Derived.Test.YtkomdiblopdfiaaPolV
import Derived.Test.YtkomdiblopdfiaaPolT
import Derived.Deep.CutRange
import Derived.BigQuiet
namespace Go.Proofs.Ytkomdiblopdfiaa
open Go.RowKit Go.Suf
set_option linter.unusedVariables false
set_option linter.unusedSimpArgs false

set_option maxRecDepth 100000 in
set_option maxHeartbeats 8000000 in
theorem pollingBatches_walk (w : World) {p : PV} {a_p b_p : Option Addr} {n_p c_p m_p d_p : Nat} (h_pl : Rd .u32 w a_p n_p c_p p.lev) (h_pb : Rd .u32 w b_p m_p d_p p.best) (pw_p : PW p) {a_v : Option Addr} {n_v c_v : Nat} {v : List Int} (h_v : RdI w a_v n_v c_v v) (z : Int) (h_z1 : -9223372036854775808 ≤ z) (h_z2 : z ≤ 9223372036854775807) :
    Calls Try.prog 7 #[polV p a_p n_p c_p b_p m_p d_p, .slice a_v n_v c_v, .int .i64 z] w fun e w' => e = .returned (.bool true) ∧ Below w.heap.size w w' := by
  have B0 : Below w.heap.size w w := Below.refl _ _
  have h_pl_0 := h_pl
  have h_pb_0 := h_pb
  have h_v_0 := h_v
  by_cases e1 : greatP p = true
  case pos =>
    go_enter Try.func7, Try.ntmps7
    have hb := below_al w (.cells (polC p a_p n_p c_p b_p m_p d_p) 25)
    have B1 := B0.trans (hb.mono B0.size)
    have h_pl_1 := h_pl_0.below hb
    have h_pb_1 := h_pb_0.below hb
    have h_v_1 := h_v_0.below hb
    clear hb B0 h_pl_0 h_pb_0 h_v_0
    have h_p_1 := Has.new w (polC p a_p n_p c_p b_p m_p d_p) 25
    have k_p_0 := h_p_1.cell 0 _ rfl
    have k_p_1 := h_p_1.cell 1 _ rfl
    have k_p_2 := h_p_1.cell 2 _ rfl
    have k_p_3 := h_p_1.cell 3 _ rfl
    have k_p_4 := h_p_1.cell 4 _ rfl
    have k_p_5 := h_p_1.cell 5 _ rfl
    go_wp2_with fail
    clear k_p_0 k_p_1 k_p_2 k_p_3 k_p_4 k_p_5
    generalize (w.alloc (.cells (polC p a_p n_p c_p b_p m_p d_p) 25)) = w1 at *
    have c := great_any w1 (p := p) h_pl_1 h_pb_1
    rw [e1] at c
    refine c.mono ?_
    rintro e w2 ⟨rfl, hb⟩
    clear c
    have B2 := B1.trans (hb.mono B1.size)
    have h_pl_2 := h_pl_1.below hb
    have h_pb_2 := h_pb_1.below hb
    have h_v_2 := h_v_1.below hb
    have h_p_2 := h_p_1.later hb
    clear hb B1 h_pl_1 h_pb_1 h_v_1 h_p_1
    go_wp2_with fail
    have c := examples_any w2
    refine c.mono ?_
    rintro e w3 ⟨rfl, hb⟩
    clear c
    have B3 := B2.trans (hb.mono B2.size)
    have h_pl_3 := h_pl_2.below hb
    have h_pb_3 := h_pb_2.below hb
    have h_v_3 := h_v_2.below hb
    have h_p_3 := h_p_2.later hb
    clear hb B2 h_pl_2 h_pb_2 h_v_2 h_p_2
    go_wp2_with fail
    go_ret
    exact ⟨rfl, B3⟩
  have E1 := Lib.hid (show greatP p = false by simpa using e1)
  clear e1
  by_cases e2 : chkP p = 0
  case neg =>
    have e2 := (chkP_two p).resolve_left e2
    go_enter Try.func7, Try.ntmps7
    have hb := below_al w (.cells (polC p a_p n_p c_p b_p m_p d_p) 25)
    have B1 := B0.trans (hb.mono B0.size)
    have h_pl_1 := h_pl_0.below hb
    have h_pb_1 := h_pb_0.below hb
    have h_v_1 := h_v_0.below hb
    clear hb B0 h_pl_0 h_pb_0 h_v_0
    have h_p_1 := Has.new w (polC p a_p n_p c_p b_p m_p d_p) 25
    have k_p_0 := h_p_1.cell 0 _ rfl
    have k_p_1 := h_p_1.cell 1 _ rfl
    have k_p_2 := h_p_1.cell 2 _ rfl
    have k_p_3 := h_p_1.cell 3 _ rfl
    have k_p_4 := h_p_1.cell 4 _ rfl
    have k_p_5 := h_p_1.cell 5 _ rfl
    go_wp2_with fail
    clear k_p_0 k_p_1 k_p_2 k_p_3 k_p_4 k_p_5
    generalize (w.alloc (.cells (polC p a_p n_p c_p b_p m_p d_p) 25)) = w1 at *
    have c := great_any w1 (p := p) h_pl_1 h_pb_1
    rw [E1.out] at c
    refine c.mono ?_
    rintro e w2 ⟨rfl, hb⟩
    clear c
    have B2 := B1.trans (hb.mono B1.size)
    have h_pl_2 := h_pl_1.below hb
    have h_pb_2 := h_pb_1.below hb
    have h_v_2 := h_v_1.below hb
    have h_p_2 := h_p_1.later hb
    clear hb B1 h_pl_1 h_pb_1 h_v_1 h_p_1
    have k_p_0 := h_p_2.cell 0 _ rfl
    have k_p_1 := h_p_2.cell 1 _ rfl
    have k_p_2 := h_p_2.cell 2 _ rfl
    have k_p_3 := h_p_2.cell 3 _ rfl
    have k_p_4 := h_p_2.cell 4 _ rfl
    have k_p_5 := h_p_2.cell 5 _ rfl
    go_wp2_with fail
    clear k_p_0 k_p_1 k_p_2 k_p_3 k_p_4 k_p_5
    have c := refPolCheck_any w2 (q := p) h_pl_2 h_pb_2 pw_p
    rw [e2] at c
    refine c.mono ?_
    rintro e w3 ⟨rfl, hb⟩
    clear c
    have B3 := B2.trans (hb.mono B2.size)
    have h_pl_3 := h_pl_2.below hb
    have h_pb_3 := h_pb_2.below hb
    have h_v_3 := h_v_2.below hb
    have h_p_3 := h_p_2.later hb
    clear hb B2 h_pl_2 h_pb_2 h_v_2 h_p_2
    go_wp2_with fail
    have c := examples_any w3
    refine c.mono ?_
    rintro e w4 ⟨rfl, hb⟩
    clear c
    have B4 := B3.trans (hb.mono B3.size)
    have h_pl_4 := h_pl_3.below hb
    have h_pb_4 := h_pb_3.below hb
    have h_v_4 := h_v_3.below hb
    have h_p_4 := h_p_3.later hb
    clear hb B3 h_pl_3 h_pb_3 h_v_3 h_p_3
    go_wp2_with fail
    go_ret
    exact ⟨rfl, B4⟩
  have E2 := Lib.hid e2
  clear e2
  by_cases e3 : 100 < n_v
  case pos =>
    have d3 : decide ((100 : Int) < (n_v : Int)) = true := decide_eq_true (by omega)
    clear e3
    go_enter Try.func7, Try.ntmps7
    have hb := below_al w (.cells (polC p a_p n_p c_p b_p m_p d_p) 25)
    have B1 := B0.trans (hb.mono B0.size)
    have h_pl_1 := h_pl_0.below hb
    have h_pb_1 := h_pb_0.below hb
    have h_v_1 := h_v_0.below hb
    clear hb B0 h_pl_0 h_pb_0 h_v_0
    have h_p_1 := Has.new w (polC p a_p n_p c_p b_p m_p d_p) 25
    have k_p_0 := h_p_1.cell 0 _ rfl
    have k_p_1 := h_p_1.cell 1 _ rfl
    have k_p_2 := h_p_1.cell 2 _ rfl
    have k_p_3 := h_p_1.cell 3 _ rfl
    have k_p_4 := h_p_1.cell 4 _ rfl
    have k_p_5 := h_p_1.cell 5 _ rfl
    go_wp2_with fail
    clear k_p_0 k_p_1 k_p_2 k_p_3 k_p_4 k_p_5
    generalize (w.alloc (.cells (polC p a_p n_p c_p b_p m_p d_p) 25)) = w1 at *
    have c := great_any w1 (p := p) h_pl_1 h_pb_1
    rw [E1.out] at c
    refine c.mono ?_
    rintro e w2 ⟨rfl, hb⟩
    clear c
    have B2 := B1.trans (hb.mono B1.size)
    have h_pl_2 := h_pl_1.below hb
    have h_pb_2 := h_pb_1.below hb
    have h_v_2 := h_v_1.below hb
    have h_p_2 := h_p_1.later hb
    clear hb B1 h_pl_1 h_pb_1 h_v_1 h_p_1
    have k_p_0 := h_p_2.cell 0 _ rfl
    have k_p_1 := h_p_2.cell 1 _ rfl
    have k_p_2 := h_p_2.cell 2 _ rfl
    have k_p_3 := h_p_2.cell 3 _ rfl
    have k_p_4 := h_p_2.cell 4 _ rfl
    have k_p_5 := h_p_2.cell 5 _ rfl
    go_wp2_with fail
    clear k_p_0 k_p_1 k_p_2 k_p_3 k_p_4 k_p_5
    have c := refPolCheck_any w2 (q := p) h_pl_2 h_pb_2 pw_p
    rw [E2.out] at c
    refine c.mono ?_
    rintro e w3 ⟨rfl, hb⟩
    clear c
    have B3 := B2.trans (hb.mono B2.size)
    have h_pl_3 := h_pl_2.below hb
    have h_pb_3 := h_pb_2.below hb
    have h_v_3 := h_v_2.below hb
    have h_p_3 := h_p_2.later hb
    clear hb B2 h_pl_2 h_pb_2 h_v_2 h_p_2
    go_wp2_with fail
    have c := examples_any w3
    refine c.mono ?_
    rintro e w4 ⟨rfl, hb⟩
    clear c
    have B4 := B3.trans (hb.mono B3.size)
    have h_pl_4 := h_pl_3.below hb
    have h_pb_4 := h_pb_3.below hb
    have h_v_4 := h_v_3.below hb
    have h_p_4 := h_p_3.later hb
    clear hb B3 h_pl_3 h_pb_3 h_v_3 h_p_3
    go_wp2_with fail
    go_ret
    exact ⟨rfl, B4⟩
  have d3 : decide ((100 : Int) < (n_v : Int)) = false := decide_eq_false (by omega)
  clear e3
  go_enter Try.func7, Try.ntmps7
  have hb := below_al w (.cells (polC p a_p n_p c_p b_p m_p d_p) 25)
  have B1 := B0.trans (hb.mono B0.size)
  have h_pl_1 := h_pl_0.below hb
  have h_pb_1 := h_pb_0.below hb
  have h_v_1 := h_v_0.below hb
  clear hb B0 h_pl_0 h_pb_0 h_v_0
  have h_p_1 := Has.new w (polC p a_p n_p c_p b_p m_p d_p) 25
  have k_p_0 := h_p_1.cell 0 _ rfl
  have k_p_1 := h_p_1.cell 1 _ rfl
  have k_p_2 := h_p_1.cell 2 _ rfl
  have k_p_3 := h_p_1.cell 3 _ rfl
  have k_p_4 := h_p_1.cell 4 _ rfl
  have k_p_5 := h_p_1.cell 5 _ rfl
  go_wp2_with fail
  clear k_p_0 k_p_1 k_p_2 k_p_3 k_p_4 k_p_5
  generalize (w.alloc (.cells (polC p a_p n_p c_p b_p m_p d_p) 25)) = w1 at *
  have c := great_any w1 (p := p) h_pl_1 h_pb_1
  rw [E1.out] at c
  refine c.mono ?_
  rintro e w2 ⟨rfl, hb⟩
  clear c
  have B2 := B1.trans (hb.mono B1.size)
  have h_pl_2 := h_pl_1.below hb
  have h_pb_2 := h_pb_1.below hb
  have h_v_2 := h_v_1.below hb
  have h_p_2 := h_p_1.later hb
  clear hb B1 h_pl_1 h_pb_1 h_v_1 h_p_1
  have k_p_0 := h_p_2.cell 0 _ rfl
  have k_p_1 := h_p_2.cell 1 _ rfl
  have k_p_2 := h_p_2.cell 2 _ rfl
  have k_p_3 := h_p_2.cell 3 _ rfl
  have k_p_4 := h_p_2.cell 4 _ rfl
  have k_p_5 := h_p_2.cell 5 _ rfl
  go_wp2_with fail
  clear k_p_0 k_p_1 k_p_2 k_p_3 k_p_4 k_p_5
  have c := refPolCheck_any w2 (q := p) h_pl_2 h_pb_2 pw_p
  rw [E2.out] at c
  refine c.mono ?_
  rintro e w3 ⟨rfl, hb⟩
  clear c
  have B3 := B2.trans (hb.mono B2.size)
  have h_pl_3 := h_pl_2.below hb
  have h_pb_3 := h_pb_2.below hb
  have h_v_3 := h_v_2.below hb
  have h_p_3 := h_p_2.later hb
  clear hb B2 h_pl_2 h_pb_2 h_v_2 h_p_2
  obtain ⟨La, Wa, vld0⟩ := chkP_get (fun x hx => h_pl_3.bd x hx) (fun x hx => h_pb_3.bd x hx) E2.out
  have V0 := Lib.hid vld0
  obtain ⟨K, hK⟩ : ∃ K : Nat, K = (min (max z 0) (n_v : Int)).toNat := ⟨_, rfl⟩
  have hKn : K ≤ n_v := by omega
  have HK := Lib.hid hK
  clear hK vld0
  go_upto_region 3 with fail
  go_cut [2] from 29 to 33 (fun s wx => s = Value.int .i64 (K : Nat) ∧ wx = w3)
  case first =>
    go_wp2_with fail
    all_goals go_meet
    all_goals (refine ⟨congrArg (Value.int .i64) ?_, rfl⟩; rw [HK.out]; omega)
  case rest =>
  obtain ⟨rfl, hw⟩ := hcut
  have hw := hw.symm
  subst hw
  clear h_z1 h_z2
  have HN := Lib.hid hKn
  obtain ⟨a_t, h_vt_3, f1, f2⟩ := run_uptoI etI h_v_3 K hKn
  obtain ⟨a_d, h_vd_3, f3, f4⟩ := run_fromI etI h_v_3 K hKn
  have LN := Lib.hid h_v_3.len
  have ways := obsC_ways V0.out (v.take K)
  have TK := Lib.hid ways
  clear ways hKn
  have k_p_0 := h_p_3.cell 0 _ rfl
  have k_p_1 := h_p_3.cell 1 _ rfl
  have k_p_2 := h_p_3.cell 2 _ rfl
  have k_p_3 := h_p_3.cell 3 _ rfl
  have k_p_4 := h_p_3.cell 4 _ rfl
  have k_p_5 := h_p_3.cell 5 _ rfl
  go_wp2_with fail
  clear k_p_0 k_p_1 k_p_2 k_p_3 k_p_4 k_p_5
  have c := observe_any w3 h_pl_3 h_pb_3 pw_p h_v_3
  refine c.mono ?_
  rintro e w4 ⟨a_l, n_l, c_l, b_l, m_l, d_l, rfl, h_ll_4, h_lb_4, hb⟩
  clear c
  have B4 := B3.trans (hb.mono B3.size)
  have h_pl_4 := h_pl_3.below hb
  have h_pb_4 := h_pb_3.below hb
  have h_v_4 := h_v_3.below hb
  have h_p_4 := h_p_3.later hb
  have h_vt_4 := h_vt_3.below hb
  have h_vd_4 := h_vd_3.below hb
  clear hb B3 h_pl_3 h_pb_3 h_v_3 h_p_3 h_vt_3 h_vd_3
  have hb := below_al w4 (.cells (polC (obsC p v).1 a_l n_l c_l b_l m_l d_l) 25)
  have B5 := B4.trans (hb.mono B4.size)
  have h_pl_5 := h_pl_4.below hb
  have h_pb_5 := h_pb_4.below hb
  have h_v_5 := h_v_4.below hb
  have h_p_5 := h_p_4.later hb
  have h_vt_5 := h_vt_4.below hb
  have h_vd_5 := h_vd_4.below hb
  have h_ll_5 := h_ll_4.below hb
  have h_lb_5 := h_lb_4.below hb
  clear hb B4 h_pl_4 h_pb_4 h_v_4 h_p_4 h_vt_4 h_vd_4 h_ll_4 h_lb_4
  have h_l_5 := Has.new w4 (polC (obsC p v).1 a_l n_l c_l b_l m_l d_l) 25
  rcases TK.out with ⟨hn, ho⟩ | ⟨q, Lb, Wb, hn, ho, v1, hB, hbet, hsum⟩
  case inl =>
    have EQ := Lib.hid (show obsC p v = (zeroP, 2) from obsC_none V0.out.chk (obsN_fail hn))
    have HO := Lib.hid ho
    clear hn ho
    have e2 : (obsC p v).2 = 2 := by rw [EQ.out]
    go_upto_region 5 with (first | refine wpList_store_new rfl 25 _ _ rfl atPol _ _ _ rfl rfl rfl rfl (pol_one (obsC p v).1 _ _ _ _ _ _) ?_)
    generalize (w4.alloc (.cells (polC (obsC p v).1 a_l n_l c_l b_l m_l d_l) 25)) = w5 at *
    go_cut [9, 10] from 40 to 47 (fun s1 s2 wx => ∃ a_a n_a c_a b_a m_a d_a g_a, s1 = Value.pointer (some ⟨g_a, 0, none⟩) ∧ s2 = Value.int .i64 2 ∧ PRow 25 w5 wx g_a (polC zeroP a_a n_a c_a b_a m_a d_a) ∧ Rd .u32 wx a_a n_a c_a (zeroP).lev ∧ Rd .u32 wx b_a m_a d_a (zeroP).best)
    case first =>
      have D0 := (Below.refl w5.heap.size w5).drew
      have e_p := h_p_5.later D0
      have e_pl := h_pl_5.below D0
      have e_pb := h_pb_5.below D0
      have e_vt := h_vt_5.below D0
      refine wp_region_held_drew (S := (fun w' => Below w5.heap.size w5 w' ∧ w'.cell? ⟨w.heap.size, 0, none⟩ = some (.int .i64 (p).bet) ∧ w'.cell? ⟨w.heap.size, 1, none⟩ = some (.int .i64 (p).s0) ∧ w'.cell? ⟨w.heap.size, 2, none⟩ = some (.int .i64 (p).s1) ∧ w'.cell? ⟨w.heap.size, 3, none⟩ = some (.int .i64 (p).s2) ∧ w'.cell? ⟨w.heap.size, 4, none⟩ = some (.slice a_p n_p c_p) ∧ w'.cell? ⟨w.heap.size, 5, none⟩ = some (.slice b_p m_p d_p))) (by kernel_rfl) ?_ (fun hHeld => ?_)
      · exact ⟨D0, e_p.cell 0 _ rfl, e_p.cell 1 _ rfl, e_p.cell 2 _ rfl, e_p.cell 3 _ rfl, e_p.cell 4 _ rfl, e_p.cell 5 _ rfl⟩
      refine wpAnyH_take (i := 0) (oi := ?oir1_0) (v := ?vr1_0) ?hir1_0 (by kernel_rfl) (by kernel_rfl) (by kernel_rfl) ?hqr1_0 ?hyr1_0 (by assumption) ?restr1_0
      case hir1_0 => simp only [List.getElem?_toArray, List.getElem?_cons_succ, List.getElem?_cons_zero]; rfl
      case hqr1_0 => exact fun _ _ _ h => h
      case hyr1_0 => (refine Or.inl ⟨by rfl, ?_⟩; intro w hSw; (try dsimp only at hSw); go_simp; all_goals with_reducible rfl)
      try simp only [Act.put, List.setIfInBounds_toArray, List.set_cons_zero, List.set_cons_succ]
      refine wpAnyH_take (i := 1) (oi := ?oir1_1) (v := ?vr1_1) ?hir1_1 (by kernel_rfl) (by kernel_rfl) (by kernel_rfl) ?hqr1_1 ?hyr1_1 (by assumption) ?restr1_1
      case hir1_1 => simp only [List.getElem?_toArray, List.getElem?_cons_succ, List.getElem?_cons_zero]; rfl
      case hqr1_1 => exact fun _ _ _ h => h
      case hyr1_1 => (refine Or.inl ⟨by rfl, ?_⟩; intro w hSw; (try dsimp only at hSw); go_simp; all_goals with_reducible rfl)
      try simp only [Act.put, List.setIfInBounds_toArray, List.set_cons_zero, List.set_cons_succ]
      refine wpAnyH_take (i := 2) (oi := ?oir1_2) (v := ?vr1_2) ?hir1_2 (by kernel_rfl) (by kernel_rfl) (by kernel_rfl) ?hqr1_2 ?hyr1_2 (by assumption) ?restr1_2
      case hir1_2 => simp only [List.getElem?_toArray, List.getElem?_cons_succ, List.getElem?_cons_zero]; rfl
      case hqr1_2 => exact fun _ _ _ h => h
      case hyr1_2 => (refine Or.inl ⟨by rfl, ?_⟩; intro w hSw; (try dsimp only at hSw); go_simp; all_goals with_reducible rfl)
      try simp only [Act.put, List.setIfInBounds_toArray, List.set_cons_zero, List.set_cons_succ]
      refine wpAnyH_take (i := 3) (oi := ?oir1_3) (v := ?vr1_3) ?hir1_3 (by kernel_rfl) (by kernel_rfl) (by kernel_rfl) ?hqr1_3 ?hyr1_3 (by assumption) ?restr1_3
      case hir1_3 => simp only [List.getElem?_toArray, List.getElem?_cons_succ, List.getElem?_cons_zero]; rfl
      case hqr1_3 => exact fun _ _ _ h => h
      case hyr1_3 => (refine Or.inl ⟨by rfl, ?_⟩; intro w hSw; (try dsimp only at hSw); go_simp; all_goals with_reducible rfl)
      try simp only [Act.put, List.setIfInBounds_toArray, List.set_cons_zero, List.set_cons_succ]
      refine wpAnyH_ready (rs := [4, 8]) (by kernel_rfl) (by simp) ?_
      refine (AllReadyH.cons (o := ?ob10_4) ?hob10_4 (fun K hK => ?kb10_4) (AllReadyH.cons (o := ?ob10_8) ?hob10_8 (fun K hK => ?kb10_8) AllReadyH.nil))
      case hob10_4 => simp only [List.getElem?_toArray, List.getElem?_cons_succ, List.getElem?_cons_zero]; rfl
      case hob10_8 => simp only [List.getElem?_toArray, List.getElem?_cons_succ, List.getElem?_cons_zero]; rfl
      case kb10_4 =>
        go_simp
        have c := observe_any w5.drew e_pl e_pb pw_p e_vt
        rw [HO.out] at c
        refine c.mono ?_
        rintro e wq ⟨a_a, n_a, c_a, b_a, m_a, d_a, rfl, y1, y2, hq⟩
        clear c
        have D0 := hHeld.1.trans (hq.mono hHeld.1.size)
        have e_p := e_p.later hq
        have e_pl := e_pl.below hq
        have e_pb := e_pb.below hq
        have e_vt := e_vt.below hq
        go_wp2_with fail
        refine hK.out _ _ ?_ (fun hHeld => ?_)
        · exact ⟨D0, e_p.cell 0 _ rfl, e_p.cell 1 _ rfl, e_p.cell 2 _ rfl, e_p.cell 3 _ rfl, e_p.cell 4 _ rfl, e_p.cell 5 _ rfl⟩
        clear hK K
        try simp only [Act.put, List.setIfInBounds_toArray, List.set_cons_zero, List.set_cons_succ]
        refine wpAnyH_take (i := 5) (oi := ?oir5_5) (v := ?vr5_5) ?hir5_5 (by kernel_rfl) (by kernel_rfl) (by kernel_rfl) ?hqr5_5 ?hyr5_5 (by assumption) ?restr5_5
        case hir5_5 => simp only [List.getElem?_toArray, List.getElem?_cons_succ, List.getElem?_cons_zero]; rfl
        case hqr5_5 => exact fun _ _ _ h => h
        case hyr5_5 => (refine Or.inl ⟨by rfl, ?_⟩; intro w hSw; (try dsimp only at hSw); go_simp; all_goals with_reducible rfl)
        try simp only [Act.put, List.setIfInBounds_toArray, List.set_cons_zero, List.set_cons_succ]
        refine wpAnyH_take (i := 6) (oi := ?oir5_6) (v := ?vr5_6) ?hir5_6 (by kernel_rfl) (by kernel_rfl) (by kernel_rfl) ?hqr5_6 ?hyr5_6 (by assumption) ?restr5_6
        case hir5_6 => simp only [List.getElem?_toArray, List.getElem?_cons_succ, List.getElem?_cons_zero]; rfl
        case hqr5_6 => exact fun _ _ _ h => h
        case hyr5_6 => (refine Or.inl ⟨by rfl, ?_⟩; intro w hSw; (try dsimp only at hSw); go_simp; all_goals with_reducible rfl)
        try simp only [Act.put, List.setIfInBounds_toArray, List.set_cons_zero, List.set_cons_succ]
        refine wpAnyH_take (i := 7) (oi := ?oir5_7) (v := ?vr5_7) ?hir5_7 (by kernel_rfl) (by kernel_rfl) (by kernel_rfl) ?hqr5_7 ?hyr5_7 (by assumption) ?restr5_7
        case hir5_7 => simp only [List.getElem?_toArray, List.getElem?_cons_succ, List.getElem?_cons_zero]; rfl
        case hqr5_7 => exact fun _ _ _ h => h
        case hyr5_7 => (refine Or.inl ⟨by rfl, ?_⟩; intro w hSw; (try dsimp only at hSw); go_simp; all_goals with_reducible rfl)
        try simp only [Act.put, List.setIfInBounds_toArray, List.set_cons_zero, List.set_cons_succ]
        refine wpAnyH_ready (rs := [8]) (by kernel_rfl) (by simp) ?_
        refine (AllReadyH.cons (o := ?ob4_8) ?hob4_8 (fun K hK => ?kb4_8) AllReadyH.nil)
        case hob4_8 => simp only [List.getElem?_toArray, List.getElem?_cons_succ, List.getElem?_cons_zero]; rfl
        case kb4_8 =>
          go_simp
          refine hK.out _ _ ?_ (fun hHeld => ?_)
          · exact ⟨(D0.trans ((below_al wq _).mono D0.size)), (e_p.later (below_al wq _)).cell 0 _ rfl, (e_p.later (below_al wq _)).cell 1 _ rfl, (e_p.later (below_al wq _)).cell 2 _ rfl, (e_p.later (below_al wq _)).cell 3 _ rfl, (e_p.later (below_al wq _)).cell 4 _ rfl, (e_p.later (below_al wq _)).cell 5 _ rfl⟩
          clear hK K
          try simp only [Act.put, List.setIfInBounds_toArray, List.set_cons_zero, List.set_cons_succ]
          have RA := (PRow.new 25 wq zc).rebase hHeld.1 D0.size
          have e_p := e_p.later (below_al wq (.cells zc 25))
          refine wpAnyH_ready (rs := [9]) (by kernel_rfl) (by simp) ?_
          refine (AllReadyH.cons (o := ?ob3_9) ?hob3_9 (fun K hK => ?kb3_9) AllReadyH.nil)
          case hob3_9 => simp only [List.getElem?_toArray, List.getElem?_cons_succ, List.getElem?_cons_zero]; rfl
          case kb3_9 =>
            rw [if_pos (by rfl)]
            refine op_store_whole 25 _ _ rfl atPol _ _ _ RA.row rfl rfl rfl rfl (pol_one zeroP _ _ _ _ _ _) ?_
            refine hK.out _ _ ?_ (fun hHeld => ?_)
            · exact ⟨below_row RA.below RA.lo _, cell_row (e_p.cell 0 _ rfl) (by have := RA.lo; have := h_p_5.lt; omega), cell_row (e_p.cell 1 _ rfl) (by have := RA.lo; have := h_p_5.lt; omega), cell_row (e_p.cell 2 _ rfl) (by have := RA.lo; have := h_p_5.lt; omega), cell_row (e_p.cell 3 _ rfl) (by have := RA.lo; have := h_p_5.lt; omega), cell_row (e_p.cell 4 _ rfl) (by have := RA.lo; have := h_p_5.lt; omega), cell_row (e_p.cell 5 _ rfl) (by have := RA.lo; have := h_p_5.lt; omega)⟩
            clear hK K
            try simp only [Act.put, List.setIfInBounds_toArray, List.set_cons_zero, List.set_cons_succ]
            refine wpAnyH_take (i := 10) (oi := ?oir2_10) (v := ?vr2_10) ?hir2_10 (by kernel_rfl) (by kernel_rfl) (by kernel_rfl) ?hqr2_10 ?hyr2_10 (by assumption) ?restr2_10
            case hir2_10 => simp only [List.getElem?_toArray, List.getElem?_cons_succ, List.getElem?_cons_zero]; rfl
            case hqr2_10 => exact fun _ _ _ h => h
            case hyr2_10 => (refine Or.inl ⟨by rfl, ?_⟩; intro w hSw; (try dsimp only at hSw); go_simp; all_goals with_reducible rfl)
            try simp only [Act.put, List.setIfInBounds_toArray, List.set_cons_zero, List.set_cons_succ]
            refine wpAnyH_done (by kernel_rfl) ?_ _
            go_wp2_with fail
            go_meet
            exact ⟨a_a, n_a, c_a, b_a, m_a, d_a, _, rfl, rfl, RA.put _, rd_rowset (y1.below (below_al wq _)) RA.row (pol_noint zeroP _ _ _ _ _ _) _, rd_rowset (y2.below (below_al wq _)) RA.row (pol_noint zeroP _ _ _ _ _ _) _⟩
      case kb10_8 =>
        go_simp
        refine hK.out _ _ ?_ (fun hHeld => ?_)
        · exact ⟨(D0.trans ((below_al w5.drew _).mono D0.size)), (e_p.later (below_al w5.drew _)).cell 0 _ rfl, (e_p.later (below_al w5.drew _)).cell 1 _ rfl, (e_p.later (below_al w5.drew _)).cell 2 _ rfl, (e_p.later (below_al w5.drew _)).cell 3 _ rfl, (e_p.later (below_al w5.drew _)).cell 4 _ rfl, (e_p.later (below_al w5.drew _)).cell 5 _ rfl⟩
        clear hK K
        try simp only [Act.put, List.setIfInBounds_toArray, List.set_cons_zero, List.set_cons_succ]
        have RA : PRow 25 w5 _ w5.heap.size zc := (PRow.new 25 w5.drew zc).rebase hHeld.1 D0.size
        have e_p := e_p.later (below_al w5.drew (.cells zc 25))
        have e_pl := e_pl.below (below_al w5.drew (.cells zc 25))
        have e_pb := e_pb.below (below_al w5.drew (.cells zc 25))
        have e_vt := e_vt.below (below_al w5.drew (.cells zc 25))
        refine wpAnyH_ready (rs := [4]) (by kernel_rfl) (by simp) ?_
        refine (AllReadyH.cons (o := ?ob9_4) ?hob9_4 (fun K hK => ?kb9_4) AllReadyH.nil)
        case hob9_4 => simp only [List.getElem?_toArray, List.getElem?_cons_succ, List.getElem?_cons_zero]; rfl
        case kb9_4 =>
          go_simp
          have c := observe_any (w5.drew.alloc (.cells zc 25)) e_pl e_pb pw_p e_vt
          rw [HO.out] at c
          refine c.mono ?_
          rintro e wq ⟨a_a, n_a, c_a, b_a, m_a, d_a, rfl, y1, y2, hq⟩
          clear c
          have D0 := hHeld.1.trans (hq.mono hHeld.1.size)
          have e_p := e_p.later hq
          have e_pl := e_pl.below hq
          have e_pb := e_pb.below hq
          have e_vt := e_vt.below hq
          go_wp2_with fail
          refine hK.out _ _ ?_ (fun hHeld => ?_)
          · exact ⟨D0, e_p.cell 0 _ rfl, e_p.cell 1 _ rfl, e_p.cell 2 _ rfl, e_p.cell 3 _ rfl, e_p.cell 4 _ rfl, e_p.cell 5 _ rfl⟩
          clear hK K
          try simp only [Act.put, List.setIfInBounds_toArray, List.set_cons_zero, List.set_cons_succ]
          refine wpAnyH_take (i := 5) (oi := ?oir6_5) (v := ?vr6_5) ?hir6_5 (by kernel_rfl) (by kernel_rfl) (by kernel_rfl) ?hqr6_5 ?hyr6_5 (by assumption) ?restr6_5
          case hir6_5 => simp only [List.getElem?_toArray, List.getElem?_cons_succ, List.getElem?_cons_zero]; rfl
          case hqr6_5 => exact fun _ _ _ h => h
          case hyr6_5 => (refine Or.inl ⟨by rfl, ?_⟩; intro w hSw; (try dsimp only at hSw); go_simp; all_goals with_reducible rfl)
          try simp only [Act.put, List.setIfInBounds_toArray, List.set_cons_zero, List.set_cons_succ]
          refine wpAnyH_take (i := 6) (oi := ?oir6_6) (v := ?vr6_6) ?hir6_6 (by kernel_rfl) (by kernel_rfl) (by kernel_rfl) ?hqr6_6 ?hyr6_6 (by assumption) ?restr6_6
          case hir6_6 => simp only [List.getElem?_toArray, List.getElem?_cons_succ, List.getElem?_cons_zero]; rfl
          case hqr6_6 => exact fun _ _ _ h => h
          case hyr6_6 => (refine Or.inl ⟨by rfl, ?_⟩; intro w hSw; (try dsimp only at hSw); go_simp; all_goals with_reducible rfl)
          try simp only [Act.put, List.setIfInBounds_toArray, List.set_cons_zero, List.set_cons_succ]
          refine wpAnyH_take (i := 7) (oi := ?oir6_7) (v := ?vr6_7) ?hir6_7 (by kernel_rfl) (by kernel_rfl) (by kernel_rfl) ?hqr6_7 ?hyr6_7 (by assumption) ?restr6_7
          case hir6_7 => simp only [List.getElem?_toArray, List.getElem?_cons_succ, List.getElem?_cons_zero]; rfl
          case hqr6_7 => exact fun _ _ _ h => h
          case hyr6_7 => (refine Or.inl ⟨by rfl, ?_⟩; intro w hSw; (try dsimp only at hSw); go_simp; all_goals with_reducible rfl)
          try simp only [Act.put, List.setIfInBounds_toArray, List.set_cons_zero, List.set_cons_succ]
          have RA := RA.later hq
          refine wpAnyH_ready (rs := [9]) (by kernel_rfl) (by simp) ?_
          refine (AllReadyH.cons (o := ?ob8_9) ?hob8_9 (fun K hK => ?kb8_9) AllReadyH.nil)
          case hob8_9 => simp only [List.getElem?_toArray, List.getElem?_cons_succ, List.getElem?_cons_zero]; rfl
          case kb8_9 =>
            rw [if_pos (by rfl)]
            refine op_store_whole 25 _ _ rfl atPol _ _ _ RA.row rfl rfl rfl rfl (pol_one zeroP _ _ _ _ _ _) ?_
            refine hK.out _ _ ?_ (fun hHeld => ?_)
            · exact ⟨below_row RA.below RA.lo _, cell_row (e_p.cell 0 _ rfl) (by have := RA.lo; have := h_p_5.lt; omega), cell_row (e_p.cell 1 _ rfl) (by have := RA.lo; have := h_p_5.lt; omega), cell_row (e_p.cell 2 _ rfl) (by have := RA.lo; have := h_p_5.lt; omega), cell_row (e_p.cell 3 _ rfl) (by have := RA.lo; have := h_p_5.lt; omega), cell_row (e_p.cell 4 _ rfl) (by have := RA.lo; have := h_p_5.lt; omega), cell_row (e_p.cell 5 _ rfl) (by have := RA.lo; have := h_p_5.lt; omega)⟩
            clear hK K
            try simp only [Act.put, List.setIfInBounds_toArray, List.set_cons_zero, List.set_cons_succ]
            refine wpAnyH_take (i := 10) (oi := ?oir7_10) (v := ?vr7_10) ?hir7_10 (by kernel_rfl) (by kernel_rfl) (by kernel_rfl) ?hqr7_10 ?hyr7_10 (by assumption) ?restr7_10
            case hir7_10 => simp only [List.getElem?_toArray, List.getElem?_cons_succ, List.getElem?_cons_zero]; rfl
            case hqr7_10 => exact fun _ _ _ h => h
            case hyr7_10 => (refine Or.inl ⟨by rfl, ?_⟩; intro w hSw; (try dsimp only at hSw); go_simp; all_goals with_reducible rfl)
            try simp only [Act.put, List.setIfInBounds_toArray, List.set_cons_zero, List.set_cons_succ]
            refine wpAnyH_done (by kernel_rfl) ?_ _
            go_wp2_with fail
            go_meet
            exact ⟨a_a, n_a, c_a, b_a, m_a, d_a, _, rfl, rfl, RA.put _, rd_rowset y1 RA.row (pol_noint zeroP _ _ _ _ _ _) _, rd_rowset y2 RA.row (pol_noint zeroP _ _ _ _ _ _) _⟩
    case rest =>
    obtain ⟨a_a, n_a, c_a, b_a, m_a, d_a, g_a, rfl, rfl, R_a, h_al_6, h_ab_6⟩ := hcut
    have hb := R_a.below
    have h_a_6 : Has w5 wc g_a (polC zeroP a_a n_a c_a b_a m_a d_a) := ⟨R_a.below, fun i v h => R_a.cell i v h, R_a.lt⟩
    clear R_a
    have B6 := B5.trans (hb.mono B5.size)
    have h_pl_6 := h_pl_5.below hb
    have h_pb_6 := h_pb_5.below hb
    have h_v_6 := h_v_5.below hb
    have h_p_6 := h_p_5.later hb
    have h_vt_6 := h_vt_5.below hb
    have h_vd_6 := h_vd_5.below hb
    have h_ll_6 := h_ll_5.below hb
    have h_lb_6 := h_lb_5.below hb
    have h_l_6 := h_l_5.later hb
    clear hb B5 h_pl_5 h_pb_5 h_v_5 h_p_5 h_vt_5 h_vd_5 h_ll_5 h_lb_5 h_l_5
    obtain ⟨w6, hw⟩ : ∃ w, w = wc := ⟨_, rfl⟩
    subst hw
    go_wp2_with fail
    have c := examples_any w6
    refine c.mono ?_
    rintro e w7 ⟨rfl, hb⟩
    clear c
    have B7 := B6.trans (hb.mono B6.size)
    have h_pl_7 := h_pl_6.below hb
    have h_pb_7 := h_pb_6.below hb
    have h_v_7 := h_v_6.below hb
    have h_p_7 := h_p_6.later hb
    have h_vt_7 := h_vt_6.below hb
    have h_vd_7 := h_vd_6.below hb
    have h_ll_7 := h_ll_6.below hb
    have h_lb_7 := h_lb_6.below hb
    have h_l_7 := h_l_6.later hb
    have h_a_7 := h_a_6.later hb
    have h_al_7 := h_al_6.below hb
    have h_ab_7 := h_ab_6.below hb
    clear hb B6 h_pl_6 h_pb_6 h_v_6 h_p_6 h_vt_6 h_vd_6 h_ll_6 h_lb_6 h_l_6 h_a_6 h_al_6 h_ab_6
    go_wp2_with fail
    go_ret
    exact ⟨rfl, B7⟩
  case inr =>
  have HO := Lib.hid ho
  have V1 := Lib.hid v1
  have TWO := Lib.hid (obsC_two V0.out hn v1)
  have PQ : PW q := by
    have s0 := v1.s0
    have s1 := v1.s1
    have s2 := v1.s2
    have b := v1.bet
    unfold inS at s0 s1 s2
    exact ⟨by unfold wide64; omega, by unfold wide64; omega, by unfold wide64; omega, by unfold wide64; omega⟩
  have SUM := Lib.hid (show q.s0 + q.s1 + q.s2 = p.s0 + p.s1 + p.s2 + (K : Nat) by rw [hsum, List.length_take, LN.out, Nat.min_eq_left HN.out])
  have BT := Lib.hid hbet
  clear ho v1 hn hB hbet hsum
  go_upto_region 5 with (first | refine wpList_store_new rfl 25 _ _ rfl atPol _ _ _ rfl rfl rfl rfl (pol_one (obsC p v).1 _ _ _ _ _ _) ?_)
  generalize (w4.alloc (.cells (polC (obsC p v).1 a_l n_l c_l b_l m_l d_l) 25)) = w5 at *
  go_cut [9, 10] from 40 to 47 (fun s1 s2 wx => ∃ a_a n_a c_a b_a m_a d_a g_a, s1 = Value.pointer (some ⟨g_a, 0, none⟩) ∧ s2 = Value.int .i64 0 ∧ PRow 25 w5 wx g_a (polC q a_a n_a c_a b_a m_a d_a) ∧ Rd .u32 wx a_a n_a c_a (q).lev ∧ Rd .u32 wx b_a m_a d_a (q).best)
  case first =>
    have D0 := (Below.refl w5.heap.size w5).drew
    have e_p := h_p_5.later D0
    have e_pl := h_pl_5.below D0
    have e_pb := h_pb_5.below D0
    have e_vt := h_vt_5.below D0
    refine wp_region_held_drew (S := (fun w' => Below w5.heap.size w5 w' ∧ w'.cell? ⟨w.heap.size, 0, none⟩ = some (.int .i64 (p).bet) ∧ w'.cell? ⟨w.heap.size, 1, none⟩ = some (.int .i64 (p).s0) ∧ w'.cell? ⟨w.heap.size, 2, none⟩ = some (.int .i64 (p).s1) ∧ w'.cell? ⟨w.heap.size, 3, none⟩ = some (.int .i64 (p).s2) ∧ w'.cell? ⟨w.heap.size, 4, none⟩ = some (.slice a_p n_p c_p) ∧ w'.cell? ⟨w.heap.size, 5, none⟩ = some (.slice b_p m_p d_p))) (by kernel_rfl) ?_ (fun hHeld => ?_)
    · exact ⟨D0, e_p.cell 0 _ rfl, e_p.cell 1 _ rfl, e_p.cell 2 _ rfl, e_p.cell 3 _ rfl, e_p.cell 4 _ rfl, e_p.cell 5 _ rfl⟩
    refine wpAnyH_take (i := 0) (oi := ?oir11_0) (v := ?vr11_0) ?hir11_0 (by kernel_rfl) (by kernel_rfl) (by kernel_rfl) ?hqr11_0 ?hyr11_0 (by assumption) ?restr11_0
    case hir11_0 => simp only [List.getElem?_toArray, List.getElem?_cons_succ, List.getElem?_cons_zero]; rfl
    case hqr11_0 => exact fun _ _ _ h => h
    case hyr11_0 => (refine Or.inl ⟨by rfl, ?_⟩; intro w hSw; (try dsimp only at hSw); go_simp; all_goals with_reducible rfl)
    try simp only [Act.put, List.setIfInBounds_toArray, List.set_cons_zero, List.set_cons_succ]
    refine wpAnyH_take (i := 1) (oi := ?oir11_1) (v := ?vr11_1) ?hir11_1 (by kernel_rfl) (by kernel_rfl) (by kernel_rfl) ?hqr11_1 ?hyr11_1 (by assumption) ?restr11_1
    case hir11_1 => simp only [List.getElem?_toArray, List.getElem?_cons_succ, List.getElem?_cons_zero]; rfl
    case hqr11_1 => exact fun _ _ _ h => h
    case hyr11_1 => (refine Or.inl ⟨by rfl, ?_⟩; intro w hSw; (try dsimp only at hSw); go_simp; all_goals with_reducible rfl)
    try simp only [Act.put, List.setIfInBounds_toArray, List.set_cons_zero, List.set_cons_succ]
    refine wpAnyH_take (i := 2) (oi := ?oir11_2) (v := ?vr11_2) ?hir11_2 (by kernel_rfl) (by kernel_rfl) (by kernel_rfl) ?hqr11_2 ?hyr11_2 (by assumption) ?restr11_2
    case hir11_2 => simp only [List.getElem?_toArray, List.getElem?_cons_succ, List.getElem?_cons_zero]; rfl
    case hqr11_2 => exact fun _ _ _ h => h
    case hyr11_2 => (refine Or.inl ⟨by rfl, ?_⟩; intro w hSw; (try dsimp only at hSw); go_simp; all_goals with_reducible rfl)
    try simp only [Act.put, List.setIfInBounds_toArray, List.set_cons_zero, List.set_cons_succ]
    refine wpAnyH_take (i := 3) (oi := ?oir11_3) (v := ?vr11_3) ?hir11_3 (by kernel_rfl) (by kernel_rfl) (by kernel_rfl) ?hqr11_3 ?hyr11_3 (by assumption) ?restr11_3
    case hir11_3 => simp only [List.getElem?_toArray, List.getElem?_cons_succ, List.getElem?_cons_zero]; rfl
    case hqr11_3 => exact fun _ _ _ h => h
    case hyr11_3 => (refine Or.inl ⟨by rfl, ?_⟩; intro w hSw; (try dsimp only at hSw); go_simp; all_goals with_reducible rfl)
    try simp only [Act.put, List.setIfInBounds_toArray, List.set_cons_zero, List.set_cons_succ]
    refine wpAnyH_ready (rs := [4, 8]) (by kernel_rfl) (by simp) ?_
    refine (AllReadyH.cons (o := ?ob20_4) ?hob20_4 (fun K hK => ?kb20_4) (AllReadyH.cons (o := ?ob20_8) ?hob20_8 (fun K hK => ?kb20_8) AllReadyH.nil))
    case hob20_4 => simp only [List.getElem?_toArray, List.getElem?_cons_succ, List.getElem?_cons_zero]; rfl
    case hob20_8 => simp only [List.getElem?_toArray, List.getElem?_cons_succ, List.getElem?_cons_zero]; rfl
    case kb20_4 =>
      go_simp
      have c := observe_any w5.drew e_pl e_pb pw_p e_vt
      rw [HO.out] at c
      refine c.mono ?_
      rintro e wq ⟨a_a, n_a, c_a, b_a, m_a, d_a, rfl, y1, y2, hq⟩
      clear c
      have D0 := hHeld.1.trans (hq.mono hHeld.1.size)
      have e_p := e_p.later hq
      have e_pl := e_pl.below hq
      have e_pb := e_pb.below hq
      have e_vt := e_vt.below hq
      go_wp2_with fail
      refine hK.out _ _ ?_ (fun hHeld => ?_)
      · exact ⟨D0, e_p.cell 0 _ rfl, e_p.cell 1 _ rfl, e_p.cell 2 _ rfl, e_p.cell 3 _ rfl, e_p.cell 4 _ rfl, e_p.cell 5 _ rfl⟩
      clear hK K
      try simp only [Act.put, List.setIfInBounds_toArray, List.set_cons_zero, List.set_cons_succ]
      refine wpAnyH_take (i := 5) (oi := ?oir15_5) (v := ?vr15_5) ?hir15_5 (by kernel_rfl) (by kernel_rfl) (by kernel_rfl) ?hqr15_5 ?hyr15_5 (by assumption) ?restr15_5
      case hir15_5 => simp only [List.getElem?_toArray, List.getElem?_cons_succ, List.getElem?_cons_zero]; rfl
      case hqr15_5 => exact fun _ _ _ h => h
      case hyr15_5 => (refine Or.inl ⟨by rfl, ?_⟩; intro w hSw; (try dsimp only at hSw); go_simp; all_goals with_reducible rfl)
      try simp only [Act.put, List.setIfInBounds_toArray, List.set_cons_zero, List.set_cons_succ]
      refine wpAnyH_take (i := 6) (oi := ?oir15_6) (v := ?vr15_6) ?hir15_6 (by kernel_rfl) (by kernel_rfl) (by kernel_rfl) ?hqr15_6 ?hyr15_6 (by assumption) ?restr15_6
      case hir15_6 => simp only [List.getElem?_toArray, List.getElem?_cons_succ, List.getElem?_cons_zero]; rfl
      case hqr15_6 => exact fun _ _ _ h => h
      case hyr15_6 => (refine Or.inl ⟨by rfl, ?_⟩; intro w hSw; (try dsimp only at hSw); go_simp; all_goals with_reducible rfl)
      try simp only [Act.put, List.setIfInBounds_toArray, List.set_cons_zero, List.set_cons_succ]
      refine wpAnyH_take (i := 7) (oi := ?oir15_7) (v := ?vr15_7) ?hir15_7 (by kernel_rfl) (by kernel_rfl) (by kernel_rfl) ?hqr15_7 ?hyr15_7 (by assumption) ?restr15_7
      case hir15_7 => simp only [List.getElem?_toArray, List.getElem?_cons_succ, List.getElem?_cons_zero]; rfl
      case hqr15_7 => exact fun _ _ _ h => h
      case hyr15_7 => (refine Or.inl ⟨by rfl, ?_⟩; intro w hSw; (try dsimp only at hSw); go_simp; all_goals with_reducible rfl)
      try simp only [Act.put, List.setIfInBounds_toArray, List.set_cons_zero, List.set_cons_succ]
      refine wpAnyH_ready (rs := [8]) (by kernel_rfl) (by simp) ?_
      refine (AllReadyH.cons (o := ?ob14_8) ?hob14_8 (fun K hK => ?kb14_8) AllReadyH.nil)
      case hob14_8 => simp only [List.getElem?_toArray, List.getElem?_cons_succ, List.getElem?_cons_zero]; rfl
      case kb14_8 =>
        go_simp
        refine hK.out _ _ ?_ (fun hHeld => ?_)
        · exact ⟨(D0.trans ((below_al wq _).mono D0.size)), (e_p.later (below_al wq _)).cell 0 _ rfl, (e_p.later (below_al wq _)).cell 1 _ rfl, (e_p.later (below_al wq _)).cell 2 _ rfl, (e_p.later (below_al wq _)).cell 3 _ rfl, (e_p.later (below_al wq _)).cell 4 _ rfl, (e_p.later (below_al wq _)).cell 5 _ rfl⟩
        clear hK K
        try simp only [Act.put, List.setIfInBounds_toArray, List.set_cons_zero, List.set_cons_succ]
        have RA := (PRow.new 25 wq zc).rebase hHeld.1 D0.size
        have e_p := e_p.later (below_al wq (.cells zc 25))
        refine wpAnyH_ready (rs := [9]) (by kernel_rfl) (by simp) ?_
        refine (AllReadyH.cons (o := ?ob13_9) ?hob13_9 (fun K hK => ?kb13_9) AllReadyH.nil)
        case hob13_9 => simp only [List.getElem?_toArray, List.getElem?_cons_succ, List.getElem?_cons_zero]; rfl
        case kb13_9 =>
          rw [if_pos (by rfl)]
          refine op_store_whole 25 _ _ rfl atPol _ _ _ RA.row rfl rfl rfl rfl (pol_one q _ _ _ _ _ _) ?_
          refine hK.out _ _ ?_ (fun hHeld => ?_)
          · exact ⟨below_row RA.below RA.lo _, cell_row (e_p.cell 0 _ rfl) (by have := RA.lo; have := h_p_5.lt; omega), cell_row (e_p.cell 1 _ rfl) (by have := RA.lo; have := h_p_5.lt; omega), cell_row (e_p.cell 2 _ rfl) (by have := RA.lo; have := h_p_5.lt; omega), cell_row (e_p.cell 3 _ rfl) (by have := RA.lo; have := h_p_5.lt; omega), cell_row (e_p.cell 4 _ rfl) (by have := RA.lo; have := h_p_5.lt; omega), cell_row (e_p.cell 5 _ rfl) (by have := RA.lo; have := h_p_5.lt; omega)⟩
          clear hK K
          try simp only [Act.put, List.setIfInBounds_toArray, List.set_cons_zero, List.set_cons_succ]
          refine wpAnyH_take (i := 10) (oi := ?oir12_10) (v := ?vr12_10) ?hir12_10 (by kernel_rfl) (by kernel_rfl) (by kernel_rfl) ?hqr12_10 ?hyr12_10 (by assumption) ?restr12_10
          case hir12_10 => simp only [List.getElem?_toArray, List.getElem?_cons_succ, List.getElem?_cons_zero]; rfl
          case hqr12_10 => exact fun _ _ _ h => h
          case hyr12_10 => (refine Or.inl ⟨by rfl, ?_⟩; intro w hSw; (try dsimp only at hSw); go_simp; all_goals with_reducible rfl)
          try simp only [Act.put, List.setIfInBounds_toArray, List.set_cons_zero, List.set_cons_succ]
          refine wpAnyH_done (by kernel_rfl) ?_ _
          go_wp2_with fail
          go_meet
          exact ⟨a_a, n_a, c_a, b_a, m_a, d_a, _, rfl, rfl, RA.put _, rd_rowset (y1.below (below_al wq _)) RA.row (pol_noint zeroP _ _ _ _ _ _) _, rd_rowset (y2.below (below_al wq _)) RA.row (pol_noint zeroP _ _ _ _ _ _) _⟩
    case kb20_8 =>
      go_simp
      refine hK.out _ _ ?_ (fun hHeld => ?_)
      · exact ⟨(D0.trans ((below_al w5.drew _).mono D0.size)), (e_p.later (below_al w5.drew _)).cell 0 _ rfl, (e_p.later (below_al w5.drew _)).cell 1 _ rfl, (e_p.later (below_al w5.drew _)).cell 2 _ rfl, (e_p.later (below_al w5.drew _)).cell 3 _ rfl, (e_p.later (below_al w5.drew _)).cell 4 _ rfl, (e_p.later (below_al w5.drew _)).cell 5 _ rfl⟩
      clear hK K
      try simp only [Act.put, List.setIfInBounds_toArray, List.set_cons_zero, List.set_cons_succ]
      have RA : PRow 25 w5 _ w5.heap.size zc := (PRow.new 25 w5.drew zc).rebase hHeld.1 D0.size
      have e_p := e_p.later (below_al w5.drew (.cells zc 25))
      have e_pl := e_pl.below (below_al w5.drew (.cells zc 25))
      have e_pb := e_pb.below (below_al w5.drew (.cells zc 25))
      have e_vt := e_vt.below (below_al w5.drew (.cells zc 25))
      refine wpAnyH_ready (rs := [4]) (by kernel_rfl) (by simp) ?_
      refine (AllReadyH.cons (o := ?ob19_4) ?hob19_4 (fun K hK => ?kb19_4) AllReadyH.nil)
      case hob19_4 => simp only [List.getElem?_toArray, List.getElem?_cons_succ, List.getElem?_cons_zero]; rfl
      case kb19_4 =>
        go_simp
        have c := observe_any (w5.drew.alloc (.cells zc 25)) e_pl e_pb pw_p e_vt
        rw [HO.out] at c
        refine c.mono ?_
        rintro e wq ⟨a_a, n_a, c_a, b_a, m_a, d_a, rfl, y1, y2, hq⟩
        clear c
        have D0 := hHeld.1.trans (hq.mono hHeld.1.size)
        have e_p := e_p.later hq
        have e_pl := e_pl.below hq
        have e_pb := e_pb.below hq
        have e_vt := e_vt.below hq
        go_wp2_with fail
        refine hK.out _ _ ?_ (fun hHeld => ?_)
        · exact ⟨D0, e_p.cell 0 _ rfl, e_p.cell 1 _ rfl, e_p.cell 2 _ rfl, e_p.cell 3 _ rfl, e_p.cell 4 _ rfl, e_p.cell 5 _ rfl⟩
        clear hK K
        try simp only [Act.put, List.setIfInBounds_toArray, List.set_cons_zero, List.set_cons_succ]
        refine wpAnyH_take (i := 5) (oi := ?oir16_5) (v := ?vr16_5) ?hir16_5 (by kernel_rfl) (by kernel_rfl) (by kernel_rfl) ?hqr16_5 ?hyr16_5 (by assumption) ?restr16_5
        case hir16_5 => simp only [List.getElem?_toArray, List.getElem?_cons_succ, List.getElem?_cons_zero]; rfl
        case hqr16_5 => exact fun _ _ _ h => h
        case hyr16_5 => (refine Or.inl ⟨by rfl, ?_⟩; intro w hSw; (try dsimp only at hSw); go_simp; all_goals with_reducible rfl)
        try simp only [Act.put, List.setIfInBounds_toArray, List.set_cons_zero, List.set_cons_succ]
        refine wpAnyH_take (i := 6) (oi := ?oir16_6) (v := ?vr16_6) ?hir16_6 (by kernel_rfl) (by kernel_rfl) (by kernel_rfl) ?hqr16_6 ?hyr16_6 (by assumption) ?restr16_6
        case hir16_6 => simp only [List.getElem?_toArray, List.getElem?_cons_succ, List.getElem?_cons_zero]; rfl
        case hqr16_6 => exact fun _ _ _ h => h
        case hyr16_6 => (refine Or.inl ⟨by rfl, ?_⟩; intro w hSw; (try dsimp only at hSw); go_simp; all_goals with_reducible rfl)
        try simp only [Act.put, List.setIfInBounds_toArray, List.set_cons_zero, List.set_cons_succ]
        refine wpAnyH_take (i := 7) (oi := ?oir16_7) (v := ?vr16_7) ?hir16_7 (by kernel_rfl) (by kernel_rfl) (by kernel_rfl) ?hqr16_7 ?hyr16_7 (by assumption) ?restr16_7
        case hir16_7 => simp only [List.getElem?_toArray, List.getElem?_cons_succ, List.getElem?_cons_zero]; rfl
        case hqr16_7 => exact fun _ _ _ h => h
        case hyr16_7 => (refine Or.inl ⟨by rfl, ?_⟩; intro w hSw; (try dsimp only at hSw); go_simp; all_goals with_reducible rfl)
        try simp only [Act.put, List.setIfInBounds_toArray, List.set_cons_zero, List.set_cons_succ]
        have RA := RA.later hq
        refine wpAnyH_ready (rs := [9]) (by kernel_rfl) (by simp) ?_
        refine (AllReadyH.cons (o := ?ob18_9) ?hob18_9 (fun K hK => ?kb18_9) AllReadyH.nil)
        case hob18_9 => simp only [List.getElem?_toArray, List.getElem?_cons_succ, List.getElem?_cons_zero]; rfl
        case kb18_9 =>
          rw [if_pos (by rfl)]
          refine op_store_whole 25 _ _ rfl atPol _ _ _ RA.row rfl rfl rfl rfl (pol_one q _ _ _ _ _ _) ?_
          refine hK.out _ _ ?_ (fun hHeld => ?_)
          · exact ⟨below_row RA.below RA.lo _, cell_row (e_p.cell 0 _ rfl) (by have := RA.lo; have := h_p_5.lt; omega), cell_row (e_p.cell 1 _ rfl) (by have := RA.lo; have := h_p_5.lt; omega), cell_row (e_p.cell 2 _ rfl) (by have := RA.lo; have := h_p_5.lt; omega), cell_row (e_p.cell 3 _ rfl) (by have := RA.lo; have := h_p_5.lt; omega), cell_row (e_p.cell 4 _ rfl) (by have := RA.lo; have := h_p_5.lt; omega), cell_row (e_p.cell 5 _ rfl) (by have := RA.lo; have := h_p_5.lt; omega)⟩
          clear hK K
          try simp only [Act.put, List.setIfInBounds_toArray, List.set_cons_zero, List.set_cons_succ]
          refine wpAnyH_take (i := 10) (oi := ?oir17_10) (v := ?vr17_10) ?hir17_10 (by kernel_rfl) (by kernel_rfl) (by kernel_rfl) ?hqr17_10 ?hyr17_10 (by assumption) ?restr17_10
          case hir17_10 => simp only [List.getElem?_toArray, List.getElem?_cons_succ, List.getElem?_cons_zero]; rfl
          case hqr17_10 => exact fun _ _ _ h => h
          case hyr17_10 => (refine Or.inl ⟨by rfl, ?_⟩; intro w hSw; (try dsimp only at hSw); go_simp; all_goals with_reducible rfl)
          try simp only [Act.put, List.setIfInBounds_toArray, List.set_cons_zero, List.set_cons_succ]
          refine wpAnyH_done (by kernel_rfl) ?_ _
          go_wp2_with fail
          go_meet
          exact ⟨a_a, n_a, c_a, b_a, m_a, d_a, _, rfl, rfl, RA.put _, rd_rowset y1 RA.row (pol_noint zeroP _ _ _ _ _ _) _, rd_rowset y2 RA.row (pol_noint zeroP _ _ _ _ _ _) _⟩
  case rest =>
  obtain ⟨a_a, n_a, c_a, b_a, m_a, d_a, g_a, rfl, rfl, R_a, h_al_6, h_ab_6⟩ := hcut
  have hb := R_a.below
  have h_a_6 : Has w5 wc g_a (polC q a_a n_a c_a b_a m_a d_a) := ⟨R_a.below, fun i v h => R_a.cell i v h, R_a.lt⟩
  clear R_a
  have B6 := B5.trans (hb.mono B5.size)
  have h_pl_6 := h_pl_5.below hb
  have h_pb_6 := h_pb_5.below hb
  have h_v_6 := h_v_5.below hb
  have h_p_6 := h_p_5.later hb
  have h_vt_6 := h_vt_5.below hb
  have h_vd_6 := h_vd_5.below hb
  have h_ll_6 := h_ll_5.below hb
  have h_lb_6 := h_lb_5.below hb
  have h_l_6 := h_l_5.later hb
  clear hb B5 h_pl_5 h_pb_5 h_v_5 h_p_5 h_vt_5 h_vd_5 h_ll_5 h_lb_5 h_l_5
  obtain ⟨w6, hw⟩ : ∃ w, w = wc := ⟨_, rfl⟩
  subst hw
  go_upto_region 8 with fail
  go_cut [11, 12] from 56 to 63 (fun s1 s2 wx => ∃ a_b n_b c_b b_b m_b d_b g_b, s1 = Value.pointer (some ⟨g_b, 0, none⟩) ∧ s2 = Value.int .i64 (obsC p v).2 ∧ PRow 25 w6 wx g_b (polC (obsC p v).1 a_b n_b c_b b_b m_b d_b) ∧ Rd .u32 wx a_b n_b c_b ((obsC p v).1).lev ∧ Rd .u32 wx b_b m_b d_b ((obsC p v).1).best)
  case first =>
    have D0 := (Below.refl w6.heap.size w6).drew
    have e_a := h_a_6.later D0
    have e_al := h_al_6.below D0
    have e_ab := h_ab_6.below D0
    have e_vd := h_vd_6.below D0
    refine wp_region_held_drew (S := (fun w' => Below w6.heap.size w6 w' ∧ w'.cell? ⟨g_a, 0, none⟩ = some (.int .i64 (q).bet) ∧ w'.cell? ⟨g_a, 1, none⟩ = some (.int .i64 (q).s0) ∧ w'.cell? ⟨g_a, 2, none⟩ = some (.int .i64 (q).s1) ∧ w'.cell? ⟨g_a, 3, none⟩ = some (.int .i64 (q).s2) ∧ w'.cell? ⟨g_a, 4, none⟩ = some (.slice a_a n_a c_a) ∧ w'.cell? ⟨g_a, 5, none⟩ = some (.slice b_a m_a d_a))) (by kernel_rfl) ?_ (fun hHeld => ?_)
    · exact ⟨D0, e_a.cell 0 _ rfl, e_a.cell 1 _ rfl, e_a.cell 2 _ rfl, e_a.cell 3 _ rfl, e_a.cell 4 _ rfl, e_a.cell 5 _ rfl⟩
    refine wpAnyH_take (i := 0) (oi := ?oir21_0) (v := ?vr21_0) ?hir21_0 (by kernel_rfl) (by kernel_rfl) (by kernel_rfl) ?hqr21_0 ?hyr21_0 (by assumption) ?restr21_0
    case hir21_0 => simp only [List.getElem?_toArray, List.getElem?_cons_succ, List.getElem?_cons_zero]; rfl
    case hqr21_0 => exact fun _ _ _ h => h
    case hyr21_0 => (refine Or.inl ⟨by rfl, ?_⟩; intro w hSw; (try dsimp only at hSw); go_simp; all_goals with_reducible rfl)
    try simp only [Act.put, List.setIfInBounds_toArray, List.set_cons_zero, List.set_cons_succ]
    refine wpAnyH_take (i := 1) (oi := ?oir21_1) (v := ?vr21_1) ?hir21_1 (by kernel_rfl) (by kernel_rfl) (by kernel_rfl) ?hqr21_1 ?hyr21_1 (by assumption) ?restr21_1
    case hir21_1 => simp only [List.getElem?_toArray, List.getElem?_cons_succ, List.getElem?_cons_zero]; rfl
    case hqr21_1 => exact fun _ _ _ h => h
    case hyr21_1 => (refine Or.inl ⟨by rfl, ?_⟩; intro w hSw; (try dsimp only at hSw); go_simp; all_goals with_reducible rfl)
    try simp only [Act.put, List.setIfInBounds_toArray, List.set_cons_zero, List.set_cons_succ]
    refine wpAnyH_take (i := 2) (oi := ?oir21_2) (v := ?vr21_2) ?hir21_2 (by kernel_rfl) (by kernel_rfl) (by kernel_rfl) ?hqr21_2 ?hyr21_2 (by assumption) ?restr21_2
    case hir21_2 => simp only [List.getElem?_toArray, List.getElem?_cons_succ, List.getElem?_cons_zero]; rfl
    case hqr21_2 => exact fun _ _ _ h => h
    case hyr21_2 => (refine Or.inl ⟨by rfl, ?_⟩; intro w hSw; (try dsimp only at hSw); go_simp; all_goals with_reducible rfl)
    try simp only [Act.put, List.setIfInBounds_toArray, List.set_cons_zero, List.set_cons_succ]
    refine wpAnyH_take (i := 3) (oi := ?oir21_3) (v := ?vr21_3) ?hir21_3 (by kernel_rfl) (by kernel_rfl) (by kernel_rfl) ?hqr21_3 ?hyr21_3 (by assumption) ?restr21_3
    case hir21_3 => simp only [List.getElem?_toArray, List.getElem?_cons_succ, List.getElem?_cons_zero]; rfl
    case hqr21_3 => exact fun _ _ _ h => h
    case hyr21_3 => (refine Or.inl ⟨by rfl, ?_⟩; intro w hSw; (try dsimp only at hSw); go_simp; all_goals with_reducible rfl)
    try simp only [Act.put, List.setIfInBounds_toArray, List.set_cons_zero, List.set_cons_succ]
    refine wpAnyH_ready (rs := [4, 8]) (by kernel_rfl) (by simp) ?_
    refine (AllReadyH.cons (o := ?ob30_4) ?hob30_4 (fun K hK => ?kb30_4) (AllReadyH.cons (o := ?ob30_8) ?hob30_8 (fun K hK => ?kb30_8) AllReadyH.nil))
    case hob30_4 => simp only [List.getElem?_toArray, List.getElem?_cons_succ, List.getElem?_cons_zero]; rfl
    case hob30_8 => simp only [List.getElem?_toArray, List.getElem?_cons_succ, List.getElem?_cons_zero]; rfl
    case kb30_4 =>
      go_simp
      have c := observe_any w6.drew e_al e_ab PQ e_vd
      rw [TWO.out] at c
      refine c.mono ?_
      rintro e wq ⟨a_b, n_b, c_b, b_b, m_b, d_b, rfl, y1, y2, hq⟩
      clear c
      have D0 := hHeld.1.trans (hq.mono hHeld.1.size)
      have e_a := e_a.later hq
      have e_al := e_al.below hq
      have e_ab := e_ab.below hq
      have e_vd := e_vd.below hq
      go_wp2_with fail
      refine hK.out _ _ ?_ (fun hHeld => ?_)
      · exact ⟨D0, e_a.cell 0 _ rfl, e_a.cell 1 _ rfl, e_a.cell 2 _ rfl, e_a.cell 3 _ rfl, e_a.cell 4 _ rfl, e_a.cell 5 _ rfl⟩
      clear hK K
      try simp only [Act.put, List.setIfInBounds_toArray, List.set_cons_zero, List.set_cons_succ]
      refine wpAnyH_take (i := 5) (oi := ?oir25_5) (v := ?vr25_5) ?hir25_5 (by kernel_rfl) (by kernel_rfl) (by kernel_rfl) ?hqr25_5 ?hyr25_5 (by assumption) ?restr25_5
      case hir25_5 => simp only [List.getElem?_toArray, List.getElem?_cons_succ, List.getElem?_cons_zero]; rfl
      case hqr25_5 => exact fun _ _ _ h => h
      case hyr25_5 => (refine Or.inl ⟨by rfl, ?_⟩; intro w hSw; (try dsimp only at hSw); go_simp; all_goals with_reducible rfl)
      try simp only [Act.put, List.setIfInBounds_toArray, List.set_cons_zero, List.set_cons_succ]
      refine wpAnyH_take (i := 6) (oi := ?oir25_6) (v := ?vr25_6) ?hir25_6 (by kernel_rfl) (by kernel_rfl) (by kernel_rfl) ?hqr25_6 ?hyr25_6 (by assumption) ?restr25_6
      case hir25_6 => simp only [List.getElem?_toArray, List.getElem?_cons_succ, List.getElem?_cons_zero]; rfl
      case hqr25_6 => exact fun _ _ _ h => h
      case hyr25_6 => (refine Or.inl ⟨by rfl, ?_⟩; intro w hSw; (try dsimp only at hSw); go_simp; all_goals with_reducible rfl)
      try simp only [Act.put, List.setIfInBounds_toArray, List.set_cons_zero, List.set_cons_succ]
      refine wpAnyH_take (i := 7) (oi := ?oir25_7) (v := ?vr25_7) ?hir25_7 (by kernel_rfl) (by kernel_rfl) (by kernel_rfl) ?hqr25_7 ?hyr25_7 (by assumption) ?restr25_7
      case hir25_7 => simp only [List.getElem?_toArray, List.getElem?_cons_succ, List.getElem?_cons_zero]; rfl
      case hqr25_7 => exact fun _ _ _ h => h
      case hyr25_7 => (refine Or.inl ⟨by rfl, ?_⟩; intro w hSw; (try dsimp only at hSw); go_simp; all_goals with_reducible rfl)
      try simp only [Act.put, List.setIfInBounds_toArray, List.set_cons_zero, List.set_cons_succ]
      refine wpAnyH_ready (rs := [8]) (by kernel_rfl) (by simp) ?_
      refine (AllReadyH.cons (o := ?ob24_8) ?hob24_8 (fun K hK => ?kb24_8) AllReadyH.nil)
      case hob24_8 => simp only [List.getElem?_toArray, List.getElem?_cons_succ, List.getElem?_cons_zero]; rfl
      case kb24_8 =>
        go_simp
        refine hK.out _ _ ?_ (fun hHeld => ?_)
        · exact ⟨(D0.trans ((below_al wq _).mono D0.size)), (e_a.later (below_al wq _)).cell 0 _ rfl, (e_a.later (below_al wq _)).cell 1 _ rfl, (e_a.later (below_al wq _)).cell 2 _ rfl, (e_a.later (below_al wq _)).cell 3 _ rfl, (e_a.later (below_al wq _)).cell 4 _ rfl, (e_a.later (below_al wq _)).cell 5 _ rfl⟩
        clear hK K
        try simp only [Act.put, List.setIfInBounds_toArray, List.set_cons_zero, List.set_cons_succ]
        have RA := (PRow.new 25 wq zc).rebase hHeld.1 D0.size
        have e_a := e_a.later (below_al wq (.cells zc 25))
        refine wpAnyH_ready (rs := [9]) (by kernel_rfl) (by simp) ?_
        refine (AllReadyH.cons (o := ?ob23_9) ?hob23_9 (fun K hK => ?kb23_9) AllReadyH.nil)
        case hob23_9 => simp only [List.getElem?_toArray, List.getElem?_cons_succ, List.getElem?_cons_zero]; rfl
        case kb23_9 =>
          rw [if_pos (by rfl)]
          refine op_store_whole 25 _ _ rfl atPol _ _ _ RA.row rfl rfl rfl rfl (pol_one (obsC p v).1 _ _ _ _ _ _) ?_
          refine hK.out _ _ ?_ (fun hHeld => ?_)
          · exact ⟨below_row RA.below RA.lo _, cell_row (e_a.cell 0 _ rfl) (by have := RA.lo; have := h_a_6.lt; omega), cell_row (e_a.cell 1 _ rfl) (by have := RA.lo; have := h_a_6.lt; omega), cell_row (e_a.cell 2 _ rfl) (by have := RA.lo; have := h_a_6.lt; omega), cell_row (e_a.cell 3 _ rfl) (by have := RA.lo; have := h_a_6.lt; omega), cell_row (e_a.cell 4 _ rfl) (by have := RA.lo; have := h_a_6.lt; omega), cell_row (e_a.cell 5 _ rfl) (by have := RA.lo; have := h_a_6.lt; omega)⟩
          clear hK K
          try simp only [Act.put, List.setIfInBounds_toArray, List.set_cons_zero, List.set_cons_succ]
          refine wpAnyH_take (i := 10) (oi := ?oir22_10) (v := ?vr22_10) ?hir22_10 (by kernel_rfl) (by kernel_rfl) (by kernel_rfl) ?hqr22_10 ?hyr22_10 (by assumption) ?restr22_10
          case hir22_10 => simp only [List.getElem?_toArray, List.getElem?_cons_succ, List.getElem?_cons_zero]; rfl
          case hqr22_10 => exact fun _ _ _ h => h
          case hyr22_10 => (refine Or.inl ⟨by rfl, ?_⟩; intro w hSw; (try dsimp only at hSw); go_simp; all_goals with_reducible rfl)
          try simp only [Act.put, List.setIfInBounds_toArray, List.set_cons_zero, List.set_cons_succ]
          refine wpAnyH_done (by kernel_rfl) ?_ _
          go_wp2_with fail
          go_meet
          exact ⟨a_b, n_b, c_b, b_b, m_b, d_b, _, rfl, rfl, RA.put _, rd_rowset (y1.below (below_al wq _)) RA.row (pol_noint zeroP _ _ _ _ _ _) _, rd_rowset (y2.below (below_al wq _)) RA.row (pol_noint zeroP _ _ _ _ _ _) _⟩
    case kb30_8 =>
      go_simp
      refine hK.out _ _ ?_ (fun hHeld => ?_)
      · exact ⟨(D0.trans ((below_al w6.drew _).mono D0.size)), (e_a.later (below_al w6.drew _)).cell 0 _ rfl, (e_a.later (below_al w6.drew _)).cell 1 _ rfl, (e_a.later (below_al w6.drew _)).cell 2 _ rfl, (e_a.later (below_al w6.drew _)).cell 3 _ rfl, (e_a.later (below_al w6.drew _)).cell 4 _ rfl, (e_a.later (below_al w6.drew _)).cell 5 _ rfl⟩
      clear hK K
      try simp only [Act.put, List.setIfInBounds_toArray, List.set_cons_zero, List.set_cons_succ]
      have RA : PRow 25 w6 _ w6.heap.size zc := (PRow.new 25 w6.drew zc).rebase hHeld.1 D0.size
      have e_a := e_a.later (below_al w6.drew (.cells zc 25))
      have e_al := e_al.below (below_al w6.drew (.cells zc 25))
      have e_ab := e_ab.below (below_al w6.drew (.cells zc 25))
      have e_vd := e_vd.below (below_al w6.drew (.cells zc 25))
      refine wpAnyH_ready (rs := [4]) (by kernel_rfl) (by simp) ?_
      refine (AllReadyH.cons (o := ?ob29_4) ?hob29_4 (fun K hK => ?kb29_4) AllReadyH.nil)
      case hob29_4 => simp only [List.getElem?_toArray, List.getElem?_cons_succ, List.getElem?_cons_zero]; rfl
      case kb29_4 =>
        go_simp
        have c := observe_any (w6.drew.alloc (.cells zc 25)) e_al e_ab PQ e_vd
        rw [TWO.out] at c
        refine c.mono ?_
        rintro e wq ⟨a_b, n_b, c_b, b_b, m_b, d_b, rfl, y1, y2, hq⟩
        clear c
        have D0 := hHeld.1.trans (hq.mono hHeld.1.size)
        have e_a := e_a.later hq
        have e_al := e_al.below hq
        have e_ab := e_ab.below hq
        have e_vd := e_vd.below hq
        go_wp2_with fail
        refine hK.out _ _ ?_ (fun hHeld => ?_)
        · exact ⟨D0, e_a.cell 0 _ rfl, e_a.cell 1 _ rfl, e_a.cell 2 _ rfl, e_a.cell 3 _ rfl, e_a.cell 4 _ rfl, e_a.cell 5 _ rfl⟩
        clear hK K
        try simp only [Act.put, List.setIfInBounds_toArray, List.set_cons_zero, List.set_cons_succ]
        refine wpAnyH_take (i := 5) (oi := ?oir26_5) (v := ?vr26_5) ?hir26_5 (by kernel_rfl) (by kernel_rfl) (by kernel_rfl) ?hqr26_5 ?hyr26_5 (by assumption) ?restr26_5
        case hir26_5 => simp only [List.getElem?_toArray, List.getElem?_cons_succ, List.getElem?_cons_zero]; rfl
        case hqr26_5 => exact fun _ _ _ h => h
        case hyr26_5 => (refine Or.inl ⟨by rfl, ?_⟩; intro w hSw; (try dsimp only at hSw); go_simp; all_goals with_reducible rfl)
        try simp only [Act.put, List.setIfInBounds_toArray, List.set_cons_zero, List.set_cons_succ]
        refine wpAnyH_take (i := 6) (oi := ?oir26_6) (v := ?vr26_6) ?hir26_6 (by kernel_rfl) (by kernel_rfl) (by kernel_rfl) ?hqr26_6 ?hyr26_6 (by assumption) ?restr26_6
        case hir26_6 => simp only [List.getElem?_toArray, List.getElem?_cons_succ, List.getElem?_cons_zero]; rfl
        case hqr26_6 => exact fun _ _ _ h => h
        case hyr26_6 => (refine Or.inl ⟨by rfl, ?_⟩; intro w hSw; (try dsimp only at hSw); go_simp; all_goals with_reducible rfl)
        try simp only [Act.put, List.setIfInBounds_toArray, List.set_cons_zero, List.set_cons_succ]
        refine wpAnyH_take (i := 7) (oi := ?oir26_7) (v := ?vr26_7) ?hir26_7 (by kernel_rfl) (by kernel_rfl) (by kernel_rfl) ?hqr26_7 ?hyr26_7 (by assumption) ?restr26_7
        case hir26_7 => simp only [List.getElem?_toArray, List.getElem?_cons_succ, List.getElem?_cons_zero]; rfl
        case hqr26_7 => exact fun _ _ _ h => h
        case hyr26_7 => (refine Or.inl ⟨by rfl, ?_⟩; intro w hSw; (try dsimp only at hSw); go_simp; all_goals with_reducible rfl)
        try simp only [Act.put, List.setIfInBounds_toArray, List.set_cons_zero, List.set_cons_succ]
        have RA := RA.later hq
        refine wpAnyH_ready (rs := [9]) (by kernel_rfl) (by simp) ?_
        refine (AllReadyH.cons (o := ?ob28_9) ?hob28_9 (fun K hK => ?kb28_9) AllReadyH.nil)
        case hob28_9 => simp only [List.getElem?_toArray, List.getElem?_cons_succ, List.getElem?_cons_zero]; rfl
        case kb28_9 =>
          rw [if_pos (by rfl)]
          refine op_store_whole 25 _ _ rfl atPol _ _ _ RA.row rfl rfl rfl rfl (pol_one (obsC p v).1 _ _ _ _ _ _) ?_
          refine hK.out _ _ ?_ (fun hHeld => ?_)
          · exact ⟨below_row RA.below RA.lo _, cell_row (e_a.cell 0 _ rfl) (by have := RA.lo; have := h_a_6.lt; omega), cell_row (e_a.cell 1 _ rfl) (by have := RA.lo; have := h_a_6.lt; omega), cell_row (e_a.cell 2 _ rfl) (by have := RA.lo; have := h_a_6.lt; omega), cell_row (e_a.cell 3 _ rfl) (by have := RA.lo; have := h_a_6.lt; omega), cell_row (e_a.cell 4 _ rfl) (by have := RA.lo; have := h_a_6.lt; omega), cell_row (e_a.cell 5 _ rfl) (by have := RA.lo; have := h_a_6.lt; omega)⟩
          clear hK K
          try simp only [Act.put, List.setIfInBounds_toArray, List.set_cons_zero, List.set_cons_succ]
          refine wpAnyH_take (i := 10) (oi := ?oir27_10) (v := ?vr27_10) ?hir27_10 (by kernel_rfl) (by kernel_rfl) (by kernel_rfl) ?hqr27_10 ?hyr27_10 (by assumption) ?restr27_10
          case hir27_10 => simp only [List.getElem?_toArray, List.getElem?_cons_succ, List.getElem?_cons_zero]; rfl
          case hqr27_10 => exact fun _ _ _ h => h
          case hyr27_10 => (refine Or.inl ⟨by rfl, ?_⟩; intro w hSw; (try dsimp only at hSw); go_simp; all_goals with_reducible rfl)
          try simp only [Act.put, List.setIfInBounds_toArray, List.set_cons_zero, List.set_cons_succ]
          refine wpAnyH_done (by kernel_rfl) ?_ _
          go_wp2_with fail
          go_meet
          exact ⟨a_b, n_b, c_b, b_b, m_b, d_b, _, rfl, rfl, RA.put _, rd_rowset y1 RA.row (pol_noint zeroP _ _ _ _ _ _) _, rd_rowset y2 RA.row (pol_noint zeroP _ _ _ _ _ _) _⟩
  case rest =>
  obtain ⟨a_b, n_b, c_b, b_b, m_b, d_b, g_b, rfl, rfl, R_b, h_bl_7, h_bb_7⟩ := hcut
  have hb := R_b.below
  have h_b_7 : Has w6 wc g_b (polC (obsC p v).1 a_b n_b c_b b_b m_b d_b) := ⟨R_b.below, fun i v h => R_b.cell i v h, R_b.lt⟩
  clear R_b
  have B7 := B6.trans (hb.mono B6.size)
  have h_pl_7 := h_pl_6.below hb
  have h_pb_7 := h_pb_6.below hb
  have h_v_7 := h_v_6.below hb
  have h_p_7 := h_p_6.later hb
  have h_vt_7 := h_vt_6.below hb
  have h_vd_7 := h_vd_6.below hb
  have h_ll_7 := h_ll_6.below hb
  have h_lb_7 := h_lb_6.below hb
  have h_l_7 := h_l_6.later hb
  have h_a_7 := h_a_6.later hb
  have h_al_7 := h_al_6.below hb
  have h_ab_7 := h_ab_6.below hb
  clear hb B6 h_pl_6 h_pb_6 h_v_6 h_p_6 h_vt_6 h_vd_6 h_ll_6 h_lb_6 h_l_6 h_a_6 h_al_6 h_ab_6
  obtain ⟨w7, hw⟩ : ∃ w, w = wc := ⟨_, rfl⟩
  subst hw
  have k_l_0 := h_l_7.cell 0 _ rfl
  have k_l_1 := h_l_7.cell 1 _ rfl
  have k_l_2 := h_l_7.cell 2 _ rfl
  have k_l_3 := h_l_7.cell 3 _ rfl
  have k_l_4 := h_l_7.cell 4 _ rfl
  have k_l_5 := h_l_7.cell 5 _ rfl
  have k_b_0 := h_b_7.cell 0 _ rfl
  have k_b_1 := h_b_7.cell 1 _ rfl
  have k_b_2 := h_b_7.cell 2 _ rfl
  have k_b_3 := h_b_7.cell 3 _ rfl
  have k_b_4 := h_b_7.cell 4 _ rfl
  have k_b_5 := h_b_7.cell 5 _ rfl
  go_wp2_with fail
  clear k_l_0 k_l_1 k_l_2 k_l_3 k_l_4 k_l_5 k_b_0 k_b_1 k_b_2 k_b_3 k_b_4 k_b_5
  have c := refPolSame_any w7 (p := (obsC p v).1) (q := (obsC p v).1) h_ll_7 h_lb_7 h_bl_7 h_bb_7
  rw [samePV_self] at c
  refine c.mono ?_
  rintro e w8 ⟨rfl, hb⟩
  clear c
  have B8 := B7.trans (hb.mono B7.size)
  have h_pl_8 := h_pl_7.below hb
  have h_pb_8 := h_pb_7.below hb
  have h_v_8 := h_v_7.below hb
  have h_p_8 := h_p_7.later hb
  have h_vt_8 := h_vt_7.below hb
  have h_vd_8 := h_vd_7.below hb
  have h_ll_8 := h_ll_7.below hb
  have h_lb_8 := h_lb_7.below hb
  have h_l_8 := h_l_7.later hb
  have h_a_8 := h_a_7.later hb
  have h_al_8 := h_al_7.below hb
  have h_ab_8 := h_ab_7.below hb
  have h_b_8 := h_b_7.later hb
  have h_bl_8 := h_bl_7.below hb
  have h_bb_8 := h_bb_7.below hb
  clear hb B7 h_pl_7 h_pb_7 h_v_7 h_p_7 h_vt_7 h_vd_7 h_ll_7 h_lb_7 h_l_7 h_a_7 h_al_7 h_ab_7 h_b_7 h_bl_7 h_bb_7
  obtain ⟨c, hc⟩ : ∃ c, c = obsC q [1] := ⟨_, rfl⟩
  have HC := Lib.hid hc
  have cw : (q.s1 = 1000000 ∧ c = (zeroP, 2)) ∨ (q.s1 < 1000000 ∧ c = (step q 1, 0)) := by
    have s1 := V1.out.s1
    unfold inS at s1
    by_cases h : q.s1 = 1000000
    · refine .inl ⟨h, ?_⟩
      rw [hc]
      refine obsC_none V1.out.chk ?_
      show (obs1 q 1).bind _ = none
      rw [obs1_out (.inr (.inr (by show 1000000 ≤ q.s1; omega)))]
      rfl
    · refine .inr ⟨by omega, ?_⟩
      rw [hc]
      refine obsC_some V1.out.chk ?_
      show (obs1 q 1).bind some = _
      rw [obs1_in (by rintro (h1 | h1 | h1); exact absurd h1 (by decide); exact absurd h1 (by decide); (have h1 : 1000000 ≤ q.s1 := h1); omega)]
      rfl
  have CW := Lib.hid cw
  clear hc cw
  have k_a_0 := h_a_8.cell 0 _ rfl
  have k_a_1 := h_a_8.cell 1 _ rfl
  have k_a_2 := h_a_8.cell 2 _ rfl
  have k_a_3 := h_a_8.cell 3 _ rfl
  have k_a_4 := h_a_8.cell 4 _ rfl
  have k_a_5 := h_a_8.cell 5 _ rfl
  have hb := below_al w8 (.cells #[.int .i64 1] 3)
  have B9 := B8.trans (hb.mono B8.size)
  have h_pl_9 := h_pl_8.below hb
  have h_pb_9 := h_pb_8.below hb
  have h_v_9 := h_v_8.below hb
  have h_p_9 := h_p_8.later hb
  have h_vt_9 := h_vt_8.below hb
  have h_vd_9 := h_vd_8.below hb
  have h_ll_9 := h_ll_8.below hb
  have h_lb_9 := h_lb_8.below hb
  have h_l_9 := h_l_8.later hb
  have h_a_9 := h_a_8.later hb
  have h_al_9 := h_al_8.below hb
  have h_ab_9 := h_ab_8.below hb
  have h_b_9 := h_b_8.later hb
  have h_bl_9 := h_bl_8.below hb
  have h_bb_9 := h_bb_8.below hb
  clear hb B8 h_pl_8 h_pb_8 h_v_8 h_p_8 h_vt_8 h_vd_8 h_ll_8 h_lb_8 h_l_8 h_a_8 h_al_8 h_ab_8 h_b_8 h_bl_8 h_bb_8
  have h_li_9 := rdI_one w8 1 (by unfold wide64; decide)
  go_wp2_with fail
  clear k_a_0 k_a_1 k_a_2 k_a_3 k_a_4 k_a_5
  generalize (w8.alloc (.cells #[.int .i64 1] 3)) = w9 at *
  have c := observe_any w9 h_al_9 h_ab_9 PQ h_li_9
  rw [← HC.out] at c
  refine c.mono ?_
  rintro e w10 ⟨a_c, n_c, c_c, b_c, m_c, d_c, rfl, h_cl_10, h_cb_10, hb⟩
  clear c
  have B10 := B9.trans (hb.mono B9.size)
  have h_pl_10 := h_pl_9.below hb
  have h_pb_10 := h_pb_9.below hb
  have h_v_10 := h_v_9.below hb
  have h_p_10 := h_p_9.later hb
  have h_vt_10 := h_vt_9.below hb
  have h_vd_10 := h_vd_9.below hb
  have h_ll_10 := h_ll_9.below hb
  have h_lb_10 := h_lb_9.below hb
  have h_l_10 := h_l_9.later hb
  have h_a_10 := h_a_9.later hb
  have h_al_10 := h_al_9.below hb
  have h_ab_10 := h_ab_9.below hb
  have h_b_10 := h_b_9.later hb
  have h_bl_10 := h_bl_9.below hb
  have h_bb_10 := h_bb_9.below hb
  clear hb B9 h_pl_9 h_pb_9 h_v_9 h_p_9 h_vt_9 h_vd_9 h_ll_9 h_lb_9 h_l_9 h_a_9 h_al_9 h_ab_9 h_b_9 h_bl_9 h_bb_9 h_li_9
  rcases CW.out with ⟨hs, rfl⟩ | ⟨hs, rfl⟩
  case inl =>
    have hb := below_al w10 (.cells (polC zeroP a_c n_c c_c b_c m_c d_c) 25)
    have B11 := B10.trans (hb.mono B10.size)
    have h_pl_11 := h_pl_10.below hb
    have h_pb_11 := h_pb_10.below hb
    have h_v_11 := h_v_10.below hb
    have h_p_11 := h_p_10.later hb
    have h_vt_11 := h_vt_10.below hb
    have h_vd_11 := h_vd_10.below hb
    have h_ll_11 := h_ll_10.below hb
    have h_lb_11 := h_lb_10.below hb
    have h_l_11 := h_l_10.later hb
    have h_a_11 := h_a_10.later hb
    have h_al_11 := h_al_10.below hb
    have h_ab_11 := h_ab_10.below hb
    have h_b_11 := h_b_10.later hb
    have h_bl_11 := h_bl_10.below hb
    have h_bb_11 := h_bb_10.below hb
    have h_cl_11 := h_cl_10.below hb
    have h_cb_11 := h_cb_10.below hb
    clear hb B10 h_pl_10 h_pb_10 h_v_10 h_p_10 h_vt_10 h_vd_10 h_ll_10 h_lb_10 h_l_10 h_a_10 h_al_10 h_ab_10 h_b_10 h_bl_10 h_bb_10 h_cl_10 h_cb_10
    have h_c_11 := Has.new w10 (polC zeroP a_c n_c c_c b_c m_c d_c) 25
    clear hs
    go_upto_region 12 with (first | refine wpList_store_new rfl 25 _ _ rfl atPol _ _ _ rfl rfl rfl rfl (pol_one zeroP _ _ _ _ _ _) ?_)
    generalize (w10.alloc (.cells (polC zeroP a_c n_c c_c b_c m_c d_c) 25)) = w11 at *
    have s0 := V1.out.s0
    have s1 := V1.out.s1
    have s2 := V1.out.s2
    have t0 := V0.out.s0
    have t1 := V0.out.s1
    have t2 := V0.out.s2
    unfold inS at s0 s1 s2 t0 t1 t2
    have bq : (q.bet == p.bet) = true := beq_iff_eq.2 BT.out
    have nq : (q.s0 + q.s1 + q.s2 - p.s0 - p.s1 - p.s2 == (K : Int)) = true := beq_iff_eq.2 (by have := SUM.out; omega)
    have k_a_0 := h_a_11.cell 0 _ rfl
    have k_a_1 := h_a_11.cell 1 _ rfl
    have k_a_2 := h_a_11.cell 2 _ rfl
    have k_a_3 := h_a_11.cell 3 _ rfl
    have k_p_0 := h_p_11.cell 0 _ rfl
    have k_p_1 := h_p_11.cell 1 _ rfl
    have k_p_2 := h_p_11.cell 2 _ rfl
    have k_p_3 := h_p_11.cell 3 _ rfl
    go_wp2_with fail
    clear k_a_0 k_a_1 k_a_2 k_a_3 k_p_0 k_p_1 k_p_2 k_p_3
    have c := examples_any w11
    refine c.mono ?_
    rintro e w12 ⟨rfl, hb⟩
    clear c
    have B12 := B11.trans (hb.mono B11.size)
    have h_pl_12 := h_pl_11.below hb
    have h_pb_12 := h_pb_11.below hb
    have h_v_12 := h_v_11.below hb
    have h_p_12 := h_p_11.later hb
    have h_vt_12 := h_vt_11.below hb
    have h_vd_12 := h_vd_11.below hb
    have h_ll_12 := h_ll_11.below hb
    have h_lb_12 := h_lb_11.below hb
    have h_l_12 := h_l_11.later hb
    have h_a_12 := h_a_11.later hb
    have h_al_12 := h_al_11.below hb
    have h_ab_12 := h_ab_11.below hb
    have h_b_12 := h_b_11.later hb
    have h_bl_12 := h_bl_11.below hb
    have h_bb_12 := h_bb_11.below hb
    have h_cl_12 := h_cl_11.below hb
    have h_cb_12 := h_cb_11.below hb
    have h_c_12 := h_c_11.later hb
    clear hb B11 h_pl_11 h_pb_11 h_v_11 h_p_11 h_vt_11 h_vd_11 h_ll_11 h_lb_11 h_l_11 h_a_11 h_al_11 h_ab_11 h_b_11 h_bl_11 h_bb_11 h_cl_11 h_cb_11 h_c_11
    go_wp2_with fail
    go_ret
    exact ⟨rfl, B12⟩
  case inr =>
  have hb := below_al w10 (.cells (polC (step q 1) a_c n_c c_c b_c m_c d_c) 25)
  have B11 := B10.trans (hb.mono B10.size)
  have h_pl_11 := h_pl_10.below hb
  have h_pb_11 := h_pb_10.below hb
  have h_v_11 := h_v_10.below hb
  have h_p_11 := h_p_10.later hb
  have h_vt_11 := h_vt_10.below hb
  have h_vd_11 := h_vd_10.below hb
  have h_ll_11 := h_ll_10.below hb
  have h_lb_11 := h_lb_10.below hb
  have h_l_11 := h_l_10.later hb
  have h_a_11 := h_a_10.later hb
  have h_al_11 := h_al_10.below hb
  have h_ab_11 := h_ab_10.below hb
  have h_b_11 := h_b_10.later hb
  have h_bl_11 := h_bl_10.below hb
  have h_bb_11 := h_bb_10.below hb
  have h_cl_11 := h_cl_10.below hb
  have h_cb_11 := h_cb_10.below hb
  clear hb B10 h_pl_10 h_pb_10 h_v_10 h_p_10 h_vt_10 h_vd_10 h_ll_10 h_lb_10 h_l_10 h_a_10 h_al_10 h_ab_10 h_b_10 h_bl_10 h_bb_10 h_cl_10 h_cb_10
  have h_c_11 := Has.new w10 (polC (step q 1) a_c n_c c_c b_c m_c d_c) 25
  have SL := Lib.hid (show sameN (step q 1).lev q.lev = true from sameN_true (by
    show limbs (timesN (val q.lev) (factN q.bet 1) 1000) = q.lev
    rw [V1.out.lev, val_limbs, show factN q.bet 1 = 1000 by unfold factN; omega]
    unfold timesN
    rw [Nat.mul_div_cancel _ (by decide), Nat.min_eq_left (Nat.le_trans V1.out.le V1.out.hi)]))
  have SB := Lib.hid (show sameN (step q 1).best q.best = true from sameN_true (by
    show limbs (max (val q.best) (timesN (val q.lev) (factN q.bet 1) 1000)) = q.best
    rw [V1.out.lev, V1.out.best, val_limbs, val_limbs, show factN q.bet 1 = 1000 by unfold factN; omega]
    unfold timesN
    rw [Nat.mul_div_cancel _ (by decide), Nat.min_eq_left (Nat.le_trans V1.out.le V1.out.hi), Nat.max_eq_left V1.out.le]))
  have cs : (step q 1).s1 = q.s1 + 1 := rfl
  have s0 := V1.out.s0
  have s1 := V1.out.s1
  have s2 := V1.out.s2
  have t0 := V0.out.s0
  have t1 := V0.out.s1
  have t2 := V0.out.s2
  unfold inS at s0 s1 s2 t0 t1 t2
  have bq : (q.bet == p.bet) = true := beq_iff_eq.2 BT.out
  have nq : (q.s0 + q.s1 + q.s2 - p.s0 - p.s1 - p.s2 == (K : Int)) = true := beq_iff_eq.2 (by have := SUM.out; omega)
  have k_c_4 := h_c_11.cell 4 _ rfl
  have k_a_4 := h_a_11.cell 4 _ rfl
  go_wp2_with first | refine wpList_store_new rfl 25 _ _ rfl atPol _ _ _ rfl rfl rfl rfl (pol_one (step q 1) _ _ _ _ _ _) ?_
  clear k_c_4 k_a_4
  generalize (w10.alloc (.cells (polC (step q 1) a_c n_c c_c b_c m_c d_c) 25)) = w11 at *
  have c := refSame_any w11 h_cl_11 h_al_11
  rw [SL.out] at c
  refine c.mono ?_
  rintro e w12 ⟨rfl, nq, rfl⟩
  clear c
  have hb := below_drewN (Below.refl w11.heap.size w11) nq
  have B12 := B11.trans (hb.mono B11.size)
  have h_pl_12 := h_pl_11.below hb
  have h_pb_12 := h_pb_11.below hb
  have h_v_12 := h_v_11.below hb
  have h_p_12 := h_p_11.later hb
  have h_vt_12 := h_vt_11.below hb
  have h_vd_12 := h_vd_11.below hb
  have h_ll_12 := h_ll_11.below hb
  have h_lb_12 := h_lb_11.below hb
  have h_l_12 := h_l_11.later hb
  have h_a_12 := h_a_11.later hb
  have h_al_12 := h_al_11.below hb
  have h_ab_12 := h_ab_11.below hb
  have h_b_12 := h_b_11.later hb
  have h_bl_12 := h_bl_11.below hb
  have h_bb_12 := h_bb_11.below hb
  have h_cl_12 := h_cl_11.below hb
  have h_cb_12 := h_cb_11.below hb
  have h_c_12 := h_c_11.later hb
  clear hb B11 h_pl_11 h_pb_11 h_v_11 h_p_11 h_vt_11 h_vd_11 h_ll_11 h_lb_11 h_l_11 h_a_11 h_al_11 h_ab_11 h_b_11 h_bl_11 h_bb_11 h_cl_11 h_cb_11 h_c_11
  generalize w11.drewN nq = w12 at *
  have k_c_5 := h_c_12.cell 5 _ rfl
  have k_a_5 := h_a_12.cell 5 _ rfl
  go_wp2_with fail
  clear k_c_5 k_a_5
  have c := refSame_any w12 h_cb_12 h_ab_12
  rw [SB.out] at c
  refine c.mono ?_
  rintro e w13 ⟨rfl, nq, rfl⟩
  clear c
  have hb := below_drewN (Below.refl w12.heap.size w12) nq
  have B13 := B12.trans (hb.mono B12.size)
  have h_pl_13 := h_pl_12.below hb
  have h_pb_13 := h_pb_12.below hb
  have h_v_13 := h_v_12.below hb
  have h_p_13 := h_p_12.later hb
  have h_vt_13 := h_vt_12.below hb
  have h_vd_13 := h_vd_12.below hb
  have h_ll_13 := h_ll_12.below hb
  have h_lb_13 := h_lb_12.below hb
  have h_l_13 := h_l_12.later hb
  have h_a_13 := h_a_12.later hb
  have h_al_13 := h_al_12.below hb
  have h_ab_13 := h_ab_12.below hb
  have h_b_13 := h_b_12.later hb
  have h_bl_13 := h_bl_12.below hb
  have h_bb_13 := h_bb_12.below hb
  have h_cl_13 := h_cl_12.below hb
  have h_cb_13 := h_cb_12.below hb
  have h_c_13 := h_c_12.later hb
  clear hb B12 h_pl_12 h_pb_12 h_v_12 h_p_12 h_vt_12 h_vd_12 h_ll_12 h_lb_12 h_l_12 h_a_12 h_al_12 h_ab_12 h_b_12 h_bl_12 h_bb_12 h_cl_12 h_cb_12 h_c_12
  generalize w12.drewN nq = w13 at *
  have k_c_2 := h_c_13.cell 2 _ rfl
  have k_a_0 := h_a_13.cell 0 _ rfl
  have k_a_1 := h_a_13.cell 1 _ rfl
  have k_a_2 := h_a_13.cell 2 _ rfl
  have k_a_3 := h_a_13.cell 3 _ rfl
  have k_p_0 := h_p_13.cell 0 _ rfl
  have k_p_1 := h_p_13.cell 1 _ rfl
  have k_p_2 := h_p_13.cell 2 _ rfl
  have k_p_3 := h_p_13.cell 3 _ rfl
  go_wp2_with fail
  clear k_c_2 k_a_0 k_a_1 k_a_2 k_a_3 k_p_0 k_p_1 k_p_2 k_p_3
  have c := examples_any w13
  refine c.mono ?_
  rintro e w14 ⟨rfl, hb⟩
  clear c
  have B14 := B13.trans (hb.mono B13.size)
  have h_pl_14 := h_pl_13.below hb
  have h_pb_14 := h_pb_13.below hb
  have h_v_14 := h_v_13.below hb
  have h_p_14 := h_p_13.later hb
  have h_vt_14 := h_vt_13.below hb
  have h_vd_14 := h_vd_13.below hb
  have h_ll_14 := h_ll_13.below hb
  have h_lb_14 := h_lb_13.below hb
  have h_l_14 := h_l_13.later hb
  have h_a_14 := h_a_13.later hb
  have h_al_14 := h_al_13.below hb
  have h_ab_14 := h_ab_13.below hb
  have h_b_14 := h_b_13.later hb
  have h_bl_14 := h_bl_13.below hb
  have h_bb_14 := h_bb_13.below hb
  have h_cl_14 := h_cl_13.below hb
  have h_cb_14 := h_cb_13.below hb
  have h_c_14 := h_c_13.later hb
  clear hb B13 h_pl_13 h_pb_13 h_v_13 h_p_13 h_vt_13 h_vd_13 h_ll_13 h_lb_13 h_l_13 h_a_13 h_al_13 h_ab_13 h_b_13 h_bl_13 h_bb_13 h_cl_13 h_cb_13 h_c_13
  go_wp2_with fail
  go_ret
  exact ⟨rfl, B14⟩

end Go.Proofs.Ytkomdiblopdfiaa
