/- The walk of the law CompareBatches: it returns true and turns nothing that was there. No condition. Printed by gen_cmplaws.py. -/
import Derived.Test.YtmkcdlhhbnakiaaCmpT
import Derived.Test.YtmkcdlhhbnakiaaFrame
import Derived.BigQuiet
import Derived.Deep.CutRange
namespace Go.Proofs.Ytmkcdlhhbnakiaa
open Go.RowKit Go.Suf
set_option linter.unusedVariables false
set_option linter.unusedSimpArgs false

/-- The counts that were added, up to the k-th. -/
def difC (q p : CV) : Nat → Int
  | 0 => 0
  | 1 => q.s0 - p.s0
  | 2 => q.s0 - p.s0 + (q.s1 - p.s1)
  | 3 => q.s0 - p.s0 + (q.s1 - p.s1) + (q.s2 - p.s2)
  | 4 => q.s0 - p.s0 + (q.s1 - p.s1) + (q.s2 - p.s2) + (q.s3 - p.s3)
  | _ => q.s0 - p.s0 + (q.s1 - p.s1) + (q.s2 - p.s2) + (q.s3 - p.s3) + (q.s4 - p.s4)

set_option maxRecDepth 100000 in
set_option maxHeartbeats 8000000 in
theorem compareBatches_walk (w : World) {p : CV} {a_p b_p : Option Addr} {n_p c_p m_p d_p : Nat} (h_pl : Rd .u32 w a_p n_p c_p p.lev) (h_pb : Rd .u32 w b_p m_p d_p p.best) (pw_p : CW p) {a_v : Option Addr} {n_v c_v : Nat} {v : List Int} (h_v : RdI w a_v n_v c_v v) (z : Int) (h_z1 : -9223372036854775808 ≤ z) (h_z2 : z ≤ 9223372036854775807) :
    Calls Try.prog 6 #[cmV p a_p n_p c_p b_p m_p d_p, .slice a_v n_v c_v, .int .i64 z] w fun e w' => e = .returned (.bool true) ∧ Below w.heap.size w w' := by
  have B0 : Below w.heap.size w w := Below.refl _ _
  have h_pl_0 := h_pl
  have h_pb_0 := h_pb
  have h_v_0 := h_v
  by_cases e1 : greatC p = true
  case pos =>
    go_enter Try.func6, Try.ntmps6
    have hb := below_al w (.cells (cmC p a_p n_p c_p b_p m_p d_p) 25)
    have B1 := B0.trans (hb.mono B0.size)
    have h_pl_1 := h_pl_0.below hb
    have h_pb_1 := h_pb_0.below hb
    have h_v_1 := h_v_0.below hb
    clear hb B0 h_pl_0 h_pb_0 h_v_0
    have h_p_1 := Has.new w (cmC p a_p n_p c_p b_p m_p d_p) 25
    have k_p_0 := h_p_1.cell 0 _ rfl
    have k_p_1 := h_p_1.cell 1 _ rfl
    have k_p_2 := h_p_1.cell 2 _ rfl
    have k_p_3 := h_p_1.cell 3 _ rfl
    have k_p_4 := h_p_1.cell 4 _ rfl
    have k_p_5 := h_p_1.cell 5 _ rfl
    have k_p_6 := h_p_1.cell 6 _ rfl
    have k_p_7 := h_p_1.cell 7 _ rfl
    have k_p_8 := h_p_1.cell 8 _ rfl
    have k_p_9 := h_p_1.cell 9 _ rfl
    go_wp2_with fail
    clear k_p_0 k_p_1 k_p_2 k_p_3 k_p_4 k_p_5 k_p_6 k_p_7 k_p_8 k_p_9
    generalize (w.alloc (.cells (cmC p a_p n_p c_p b_p m_p d_p) 25)) = w1 at *
    have c := cmGreat_any w1 (p := p) h_pl_1 h_pb_1
    rw [e1] at c
    refine c.mono ?_
    rintro e w2 ⟨rfl, hb⟩
    clear c
    have B2 := B1.trans (hb.mono B1.size)
    have h_pl_2 := h_pl_1.below hb
    have h_pb_2 := h_pb_1.below hb
    have h_v_2 := h_v_1.below hb
    have h_p_2 := h_p_1.later hb
    clear hb B1 h_pl_1 h_pb_1 h_v_1 h_p_1
    go_wp2_with fail
    have c := examples_any w2
    refine c.mono ?_
    rintro e w3 ⟨rfl, hb⟩
    clear c
    have B3 := B2.trans (hb.mono B2.size)
    have h_pl_3 := h_pl_2.below hb
    have h_pb_3 := h_pb_2.below hb
    have h_v_3 := h_v_2.below hb
    have h_p_3 := h_p_2.later hb
    clear hb B2 h_pl_2 h_pb_2 h_v_2 h_p_2
    go_wp2_with fail
    go_ret
    exact ⟨rfl, B3⟩
  have E1 := Lib.hid (show greatC p = false by simpa using e1)
  clear e1
  by_cases e2 : chkC p = 0
  case neg =>
    have e2 := (chkC_two p).resolve_left e2
    go_enter Try.func6, Try.ntmps6
    have hb := below_al w (.cells (cmC p a_p n_p c_p b_p m_p d_p) 25)
    have B1 := B0.trans (hb.mono B0.size)
    have h_pl_1 := h_pl_0.below hb
    have h_pb_1 := h_pb_0.below hb
    have h_v_1 := h_v_0.below hb
    clear hb B0 h_pl_0 h_pb_0 h_v_0
    have h_p_1 := Has.new w (cmC p a_p n_p c_p b_p m_p d_p) 25
    have k_p_0 := h_p_1.cell 0 _ rfl
    have k_p_1 := h_p_1.cell 1 _ rfl
    have k_p_2 := h_p_1.cell 2 _ rfl
    have k_p_3 := h_p_1.cell 3 _ rfl
    have k_p_4 := h_p_1.cell 4 _ rfl
    have k_p_5 := h_p_1.cell 5 _ rfl
    have k_p_6 := h_p_1.cell 6 _ rfl
    have k_p_7 := h_p_1.cell 7 _ rfl
    have k_p_8 := h_p_1.cell 8 _ rfl
    have k_p_9 := h_p_1.cell 9 _ rfl
    go_wp2_with fail
    clear k_p_0 k_p_1 k_p_2 k_p_3 k_p_4 k_p_5 k_p_6 k_p_7 k_p_8 k_p_9
    generalize (w.alloc (.cells (cmC p a_p n_p c_p b_p m_p d_p) 25)) = w1 at *
    have c := cmGreat_any w1 (p := p) h_pl_1 h_pb_1
    rw [E1.out] at c
    refine c.mono ?_
    rintro e w2 ⟨rfl, hb⟩
    clear c
    have B2 := B1.trans (hb.mono B1.size)
    have h_pl_2 := h_pl_1.below hb
    have h_pb_2 := h_pb_1.below hb
    have h_v_2 := h_v_1.below hb
    have h_p_2 := h_p_1.later hb
    clear hb B1 h_pl_1 h_pb_1 h_v_1 h_p_1
    have k_p_0 := h_p_2.cell 0 _ rfl
    have k_p_1 := h_p_2.cell 1 _ rfl
    have k_p_2 := h_p_2.cell 2 _ rfl
    have k_p_3 := h_p_2.cell 3 _ rfl
    have k_p_4 := h_p_2.cell 4 _ rfl
    have k_p_5 := h_p_2.cell 5 _ rfl
    have k_p_6 := h_p_2.cell 6 _ rfl
    have k_p_7 := h_p_2.cell 7 _ rfl
    have k_p_8 := h_p_2.cell 8 _ rfl
    have k_p_9 := h_p_2.cell 9 _ rfl
    go_wp2_with fail
    clear k_p_0 k_p_1 k_p_2 k_p_3 k_p_4 k_p_5 k_p_6 k_p_7 k_p_8 k_p_9
    have c := refCmCheck_any w2 (q := p) h_pl_2 h_pb_2 pw_p
    rw [e2] at c
    refine c.mono ?_
    rintro e w3 ⟨rfl, hb⟩
    clear c
    have B3 := B2.trans (hb.mono B2.size)
    have h_pl_3 := h_pl_2.below hb
    have h_pb_3 := h_pb_2.below hb
    have h_v_3 := h_v_2.below hb
    have h_p_3 := h_p_2.later hb
    clear hb B2 h_pl_2 h_pb_2 h_v_2 h_p_2
    go_wp2_with fail
    have c := examples_any w3
    refine c.mono ?_
    rintro e w4 ⟨rfl, hb⟩
    clear c
    have B4 := B3.trans (hb.mono B3.size)
    have h_pl_4 := h_pl_3.below hb
    have h_pb_4 := h_pb_3.below hb
    have h_v_4 := h_v_3.below hb
    have h_p_4 := h_p_3.later hb
    clear hb B3 h_pl_3 h_pb_3 h_v_3 h_p_3
    go_wp2_with fail
    go_ret
    exact ⟨rfl, B4⟩
  have E2 := Lib.hid e2
  clear e2
  by_cases e3 : 100 < n_v
  case pos =>
    have d3 : decide ((100 : Int) < (n_v : Int)) = true := decide_eq_true (by omega)
    clear e3
    go_enter Try.func6, Try.ntmps6
    have hb := below_al w (.cells (cmC p a_p n_p c_p b_p m_p d_p) 25)
    have B1 := B0.trans (hb.mono B0.size)
    have h_pl_1 := h_pl_0.below hb
    have h_pb_1 := h_pb_0.below hb
    have h_v_1 := h_v_0.below hb
    clear hb B0 h_pl_0 h_pb_0 h_v_0
    have h_p_1 := Has.new w (cmC p a_p n_p c_p b_p m_p d_p) 25
    have k_p_0 := h_p_1.cell 0 _ rfl
    have k_p_1 := h_p_1.cell 1 _ rfl
    have k_p_2 := h_p_1.cell 2 _ rfl
    have k_p_3 := h_p_1.cell 3 _ rfl
    have k_p_4 := h_p_1.cell 4 _ rfl
    have k_p_5 := h_p_1.cell 5 _ rfl
    have k_p_6 := h_p_1.cell 6 _ rfl
    have k_p_7 := h_p_1.cell 7 _ rfl
    have k_p_8 := h_p_1.cell 8 _ rfl
    have k_p_9 := h_p_1.cell 9 _ rfl
    go_wp2_with fail
    clear k_p_0 k_p_1 k_p_2 k_p_3 k_p_4 k_p_5 k_p_6 k_p_7 k_p_8 k_p_9
    generalize (w.alloc (.cells (cmC p a_p n_p c_p b_p m_p d_p) 25)) = w1 at *
    have c := cmGreat_any w1 (p := p) h_pl_1 h_pb_1
    rw [E1.out] at c
    refine c.mono ?_
    rintro e w2 ⟨rfl, hb⟩
    clear c
    have B2 := B1.trans (hb.mono B1.size)
    have h_pl_2 := h_pl_1.below hb
    have h_pb_2 := h_pb_1.below hb
    have h_v_2 := h_v_1.below hb
    have h_p_2 := h_p_1.later hb
    clear hb B1 h_pl_1 h_pb_1 h_v_1 h_p_1
    have k_p_0 := h_p_2.cell 0 _ rfl
    have k_p_1 := h_p_2.cell 1 _ rfl
    have k_p_2 := h_p_2.cell 2 _ rfl
    have k_p_3 := h_p_2.cell 3 _ rfl
    have k_p_4 := h_p_2.cell 4 _ rfl
    have k_p_5 := h_p_2.cell 5 _ rfl
    have k_p_6 := h_p_2.cell 6 _ rfl
    have k_p_7 := h_p_2.cell 7 _ rfl
    have k_p_8 := h_p_2.cell 8 _ rfl
    have k_p_9 := h_p_2.cell 9 _ rfl
    go_wp2_with fail
    clear k_p_0 k_p_1 k_p_2 k_p_3 k_p_4 k_p_5 k_p_6 k_p_7 k_p_8 k_p_9
    have c := refCmCheck_any w2 (q := p) h_pl_2 h_pb_2 pw_p
    rw [E2.out] at c
    refine c.mono ?_
    rintro e w3 ⟨rfl, hb⟩
    clear c
    have B3 := B2.trans (hb.mono B2.size)
    have h_pl_3 := h_pl_2.below hb
    have h_pb_3 := h_pb_2.below hb
    have h_v_3 := h_v_2.below hb
    have h_p_3 := h_p_2.later hb
    clear hb B2 h_pl_2 h_pb_2 h_v_2 h_p_2
    go_wp2_with fail
    have c := examples_any w3
    refine c.mono ?_
    rintro e w4 ⟨rfl, hb⟩
    clear c
    have B4 := B3.trans (hb.mono B3.size)
    have h_pl_4 := h_pl_3.below hb
    have h_pb_4 := h_pb_3.below hb
    have h_v_4 := h_v_3.below hb
    have h_p_4 := h_p_3.later hb
    clear hb B3 h_pl_3 h_pb_3 h_v_3 h_p_3
    go_wp2_with fail
    go_ret
    exact ⟨rfl, B4⟩
  have d3 : decide ((100 : Int) < (n_v : Int)) = false := decide_eq_false (by omega)
  clear e3
  go_enter Try.func6, Try.ntmps6
  have hb := below_al w (.cells (cmC p a_p n_p c_p b_p m_p d_p) 25)
  have B1 := B0.trans (hb.mono B0.size)
  have h_pl_1 := h_pl_0.below hb
  have h_pb_1 := h_pb_0.below hb
  have h_v_1 := h_v_0.below hb
  clear hb B0 h_pl_0 h_pb_0 h_v_0
  have h_p_1 := Has.new w (cmC p a_p n_p c_p b_p m_p d_p) 25
  have k_p_0 := h_p_1.cell 0 _ rfl
  have k_p_1 := h_p_1.cell 1 _ rfl
  have k_p_2 := h_p_1.cell 2 _ rfl
  have k_p_3 := h_p_1.cell 3 _ rfl
  have k_p_4 := h_p_1.cell 4 _ rfl
  have k_p_5 := h_p_1.cell 5 _ rfl
  have k_p_6 := h_p_1.cell 6 _ rfl
  have k_p_7 := h_p_1.cell 7 _ rfl
  have k_p_8 := h_p_1.cell 8 _ rfl
  have k_p_9 := h_p_1.cell 9 _ rfl
  go_wp2_with fail
  clear k_p_0 k_p_1 k_p_2 k_p_3 k_p_4 k_p_5 k_p_6 k_p_7 k_p_8 k_p_9
  generalize (w.alloc (.cells (cmC p a_p n_p c_p b_p m_p d_p) 25)) = w1 at *
  have c := cmGreat_any w1 (p := p) h_pl_1 h_pb_1
  rw [E1.out] at c
  refine c.mono ?_
  rintro e w2 ⟨rfl, hb⟩
  clear c
  have B2 := B1.trans (hb.mono B1.size)
  have h_pl_2 := h_pl_1.below hb
  have h_pb_2 := h_pb_1.below hb
  have h_v_2 := h_v_1.below hb
  have h_p_2 := h_p_1.later hb
  clear hb B1 h_pl_1 h_pb_1 h_v_1 h_p_1
  have k_p_0 := h_p_2.cell 0 _ rfl
  have k_p_1 := h_p_2.cell 1 _ rfl
  have k_p_2 := h_p_2.cell 2 _ rfl
  have k_p_3 := h_p_2.cell 3 _ rfl
  have k_p_4 := h_p_2.cell 4 _ rfl
  have k_p_5 := h_p_2.cell 5 _ rfl
  have k_p_6 := h_p_2.cell 6 _ rfl
  have k_p_7 := h_p_2.cell 7 _ rfl
  have k_p_8 := h_p_2.cell 8 _ rfl
  have k_p_9 := h_p_2.cell 9 _ rfl
  go_wp2_with fail
  clear k_p_0 k_p_1 k_p_2 k_p_3 k_p_4 k_p_5 k_p_6 k_p_7 k_p_8 k_p_9
  have c := refCmCheck_any w2 (q := p) h_pl_2 h_pb_2 pw_p
  rw [E2.out] at c
  refine c.mono ?_
  rintro e w3 ⟨rfl, hb⟩
  clear c
  have B3 := B2.trans (hb.mono B2.size)
  have h_pl_3 := h_pl_2.below hb
  have h_pb_3 := h_pb_2.below hb
  have h_v_3 := h_v_2.below hb
  have h_p_3 := h_p_2.later hb
  clear hb B2 h_pl_2 h_pb_2 h_v_2 h_p_2
  obtain ⟨La, Wa, vld0⟩ := chkC_get (fun x hx => h_pl_3.bd x hx) (fun x hx => h_pb_3.bd x hx) E2.out
  have V0 := Lib.hid vld0
  obtain ⟨K, hK⟩ : ∃ K : Nat, K = (min (max z 0) (n_v : Int)).toNat := ⟨_, rfl⟩
  have hKn : K ≤ n_v := by omega
  have HK := Lib.hid hK
  clear hK vld0
  go_upto_region 3 with fail
  go_cut [2] from 28 to 32 (fun s wx => s = Value.int .i64 (K : Nat) ∧ wx = w3)
  case first =>
    go_wp2_with fail
    all_goals go_meet
    all_goals (refine ⟨congrArg (Value.int .i64) ?_, rfl⟩; rw [HK.out]; omega)
  case rest =>
  obtain ⟨rfl, hw⟩ := hcut
  have hw := hw.symm
  subst hw
  clear h_z1 h_z2
  have HN := Lib.hid hKn
  obtain ⟨a_t, h_vt_3, f1, f2⟩ := run_uptoI etI h_v_3 K hKn
  obtain ⟨a_d, h_vd_3, f3, f4⟩ := run_fromI etI h_v_3 K hKn
  have LN := Lib.hid h_v_3.len
  have ways := obsCC_ways V0.out (v.take K)
  have TK := Lib.hid ways
  clear ways hKn
  have k_p_0 := h_p_3.cell 0 _ rfl
  have k_p_1 := h_p_3.cell 1 _ rfl
  have k_p_2 := h_p_3.cell 2 _ rfl
  have k_p_3 := h_p_3.cell 3 _ rfl
  have k_p_4 := h_p_3.cell 4 _ rfl
  have k_p_5 := h_p_3.cell 5 _ rfl
  have k_p_6 := h_p_3.cell 6 _ rfl
  have k_p_7 := h_p_3.cell 7 _ rfl
  have k_p_8 := h_p_3.cell 8 _ rfl
  have k_p_9 := h_p_3.cell 9 _ rfl
  go_wp2_with fail
  clear k_p_0 k_p_1 k_p_2 k_p_3 k_p_4 k_p_5 k_p_6 k_p_7 k_p_8 k_p_9
  have c := cmObserve_any w3 h_pl_3 h_pb_3 pw_p h_v_3
  refine c.mono ?_
  rintro e w4 ⟨a_l, n_l, c_l, b_l, m_l, d_l, rfl, h_ll_4, h_lb_4, hb⟩
  clear c
  have B4 := B3.trans (hb.mono B3.size)
  have h_pl_4 := h_pl_3.below hb
  have h_pb_4 := h_pb_3.below hb
  have h_v_4 := h_v_3.below hb
  have h_p_4 := h_p_3.later hb
  have h_vt_4 := h_vt_3.below hb
  have h_vd_4 := h_vd_3.below hb
  clear hb B3 h_pl_3 h_pb_3 h_v_3 h_p_3 h_vt_3 h_vd_3
  have hb := below_al w4 (.cells (cmC (obsCC p v).1 a_l n_l c_l b_l m_l d_l) 25)
  have B5 := B4.trans (hb.mono B4.size)
  have h_pl_5 := h_pl_4.below hb
  have h_pb_5 := h_pb_4.below hb
  have h_v_5 := h_v_4.below hb
  have h_p_5 := h_p_4.later hb
  have h_vt_5 := h_vt_4.below hb
  have h_vd_5 := h_vd_4.below hb
  have h_ll_5 := h_ll_4.below hb
  have h_lb_5 := h_lb_4.below hb
  clear hb B4 h_pl_4 h_pb_4 h_v_4 h_p_4 h_vt_4 h_vd_4 h_ll_4 h_lb_4
  have h_l_5 := Has.new w4 (cmC (obsCC p v).1 a_l n_l c_l b_l m_l d_l) 25
  rcases TK.out with ⟨hn, ho⟩ | ⟨q, Lb, Wb, hn, ho, v1, hB, hbet, hsum⟩
  case inl =>
    have EQ := Lib.hid (show obsCC p v = (zeroCV, 2) from obsCC_none V0.out.chk (obsNC_fail hn))
    have HO := Lib.hid ho
    clear hn ho
    have e2 : (obsCC p v).2 = 2 := by rw [EQ.out]
    go_upto_region 5 with (first | refine wpList_store_new rfl 25 _ _ rfl atCmp _ _ _ rfl rfl rfl rfl (cm_one (obsCC p v).1 _ _ _ _ _ _) ?_)
    generalize (w4.alloc (.cells (cmC (obsCC p v).1 a_l n_l c_l b_l m_l d_l) 25)) = w5 at *
    go_cut [9, 10] from 39 to 46 (fun s1 s2 wx => ∃ a_a n_a c_a b_a m_a d_a g_a, s1 = Value.pointer (some ⟨g_a, 0, none⟩) ∧ s2 = Value.int .i64 2 ∧ PRow 25 w5 wx g_a (cmC zeroCV a_a n_a c_a b_a m_a d_a) ∧ Rd .u32 wx a_a n_a c_a (zeroCV).lev ∧ Rd .u32 wx b_a m_a d_a (zeroCV).best)
    case first =>
      have D0 := (Below.refl w5.heap.size w5).drew
      have e_p := h_p_5.later D0
      have e_pl := h_pl_5.below D0
      have e_pb := h_pb_5.below D0
      have e_vt := h_vt_5.below D0
      refine wp_region_held_drew (S := (fun w' => Below w5.heap.size w5 w' ∧ w'.cell? ⟨w.heap.size, 0, none⟩ = some (.int .i64 (p).bet) ∧ w'.cell? ⟨w.heap.size, 1, none⟩ = some (.int .i64 (p).ballots) ∧ w'.cell? ⟨w.heap.size, 2, none⟩ = some (.int .i64 (p).margin) ∧ w'.cell? ⟨w.heap.size, 3, none⟩ = some (.int .i64 (p).s0) ∧ w'.cell? ⟨w.heap.size, 4, none⟩ = some (.int .i64 (p).s1) ∧ w'.cell? ⟨w.heap.size, 5, none⟩ = some (.int .i64 (p).s2) ∧ w'.cell? ⟨w.heap.size, 6, none⟩ = some (.int .i64 (p).s3) ∧ w'.cell? ⟨w.heap.size, 7, none⟩ = some (.int .i64 (p).s4) ∧ w'.cell? ⟨w.heap.size, 8, none⟩ = some (.slice a_p n_p c_p) ∧ w'.cell? ⟨w.heap.size, 9, none⟩ = some (.slice b_p m_p d_p))) (by kernel_rfl) ?_ (fun hHeld => ?_)
      · exact ⟨D0, e_p.cell 0 _ rfl, e_p.cell 1 _ rfl, e_p.cell 2 _ rfl, e_p.cell 3 _ rfl, e_p.cell 4 _ rfl, e_p.cell 5 _ rfl, e_p.cell 6 _ rfl, e_p.cell 7 _ rfl, e_p.cell 8 _ rfl, e_p.cell 9 _ rfl⟩
      refine wpAnyH_take (i := 0) (oi := ?a10_0) (v := ?b10_0) ?c10_0 (by kernel_rfl) (by kernel_rfl) (by kernel_rfl) ?d10_0 ?e10_0 (by assumption) ?f10_0
      case c10_0 => simp only [tA, tS, tZ]; rfl
      case d10_0 => exact fun _ _ _ h => h
      case e10_0 => (refine Or.inl ⟨by rfl, ?_⟩; intro w h; (try dsimp only at h); go_simp; all_goals with_reducible rfl)
      try simp only [Act.put, tI, tP, tQ]
      refine wpAnyH_take (i := 1) (oi := ?a10_1) (v := ?b10_1) ?c10_1 (by kernel_rfl) (by kernel_rfl) (by kernel_rfl) ?d10_1 ?e10_1 (by assumption) ?f10_1
      case c10_1 => simp only [tA, tS, tZ]; rfl
      case d10_1 => exact fun _ _ _ h => h
      case e10_1 => (refine Or.inl ⟨by rfl, ?_⟩; intro w h; (try dsimp only at h); go_simp; all_goals with_reducible rfl)
      try simp only [Act.put, tI, tP, tQ]
      refine wpAnyH_take (i := 2) (oi := ?a10_2) (v := ?b10_2) ?c10_2 (by kernel_rfl) (by kernel_rfl) (by kernel_rfl) ?d10_2 ?e10_2 (by assumption) ?f10_2
      case c10_2 => simp only [tA, tS, tZ]; rfl
      case d10_2 => exact fun _ _ _ h => h
      case e10_2 => (refine Or.inl ⟨by rfl, ?_⟩; intro w h; (try dsimp only at h); go_simp; all_goals with_reducible rfl)
      try simp only [Act.put, tI, tP, tQ]
      refine wpAnyH_take (i := 3) (oi := ?a10_3) (v := ?b10_3) ?c10_3 (by kernel_rfl) (by kernel_rfl) (by kernel_rfl) ?d10_3 ?e10_3 (by assumption) ?f10_3
      case c10_3 => simp only [tA, tS, tZ]; rfl
      case d10_3 => exact fun _ _ _ h => h
      case e10_3 => (refine Or.inl ⟨by rfl, ?_⟩; intro w h; (try dsimp only at h); go_simp; all_goals with_reducible rfl)
      try simp only [Act.put, tI, tP, tQ]
      refine wpAnyH_ready (rs := [4, 8]) (by kernel_rfl) (by simp) ?_
      refine (AllReadyH.cons (o := ?ob19_4) ?hob19_4 (fun K hK => ?kb19_4) (AllReadyH.cons (o := ?ob19_8) ?hob19_8 (fun K hK => ?kb19_8) AllReadyH.nil))
      case hob19_4 => simp only [List.getElem?_toArray, List.getElem?_cons_succ, List.getElem?_cons_zero]; rfl
      case hob19_8 => simp only [List.getElem?_toArray, List.getElem?_cons_succ, List.getElem?_cons_zero]; rfl
      case kb19_4 =>
        go_simp
        have c := cmObserve_any w5.drew e_pl e_pb pw_p e_vt
        rw [HO.out] at c
        refine c.mono ?_
        rintro e wq ⟨a_a, n_a, c_a, b_a, m_a, d_a, rfl, y1, y2, hq⟩
        clear c
        have D0 := hHeld.1.trans (hq.mono hHeld.1.size)
        have e_p := e_p.later hq
        have e_pl := e_pl.below hq
        have e_pb := e_pb.below hq
        have e_vt := e_vt.below hq
        go_wp2_with fail
        refine hK.out _ _ ?_ (fun hHeld => ?_)
        · exact ⟨D0, e_p.cell 0 _ rfl, e_p.cell 1 _ rfl, e_p.cell 2 _ rfl, e_p.cell 3 _ rfl, e_p.cell 4 _ rfl, e_p.cell 5 _ rfl, e_p.cell 6 _ rfl, e_p.cell 7 _ rfl, e_p.cell 8 _ rfl, e_p.cell 9 _ rfl⟩
        clear hK K
        try simp only [Act.put, List.setIfInBounds_toArray, List.set_cons_zero, List.set_cons_succ]
        refine wpAnyH_take (i := 5) (oi := ?a14_5) (v := ?b14_5) ?c14_5 (by kernel_rfl) (by kernel_rfl) (by kernel_rfl) ?d14_5 ?e14_5 (by assumption) ?f14_5
        case c14_5 => simp only [tA, tS, tZ]; rfl
        case d14_5 => exact fun _ _ _ h => h
        case e14_5 => (refine Or.inl ⟨by rfl, ?_⟩; intro w h; (try dsimp only at h); go_simp; all_goals with_reducible rfl)
        try simp only [Act.put, tI, tP, tQ]
        refine wpAnyH_take (i := 6) (oi := ?a14_6) (v := ?b14_6) ?c14_6 (by kernel_rfl) (by kernel_rfl) (by kernel_rfl) ?d14_6 ?e14_6 (by assumption) ?f14_6
        case c14_6 => simp only [tA, tS, tZ]; rfl
        case d14_6 => exact fun _ _ _ h => h
        case e14_6 => (refine Or.inl ⟨by rfl, ?_⟩; intro w h; (try dsimp only at h); go_simp; all_goals with_reducible rfl)
        try simp only [Act.put, tI, tP, tQ]
        refine wpAnyH_take (i := 7) (oi := ?a14_7) (v := ?b14_7) ?c14_7 (by kernel_rfl) (by kernel_rfl) (by kernel_rfl) ?d14_7 ?e14_7 (by assumption) ?f14_7
        case c14_7 => simp only [tA, tS, tZ]; rfl
        case d14_7 => exact fun _ _ _ h => h
        case e14_7 => (refine Or.inl ⟨by rfl, ?_⟩; intro w h; (try dsimp only at h); go_simp; all_goals with_reducible rfl)
        try simp only [Act.put, tI, tP, tQ]
        refine wpAnyH_ready (rs := [8]) (by kernel_rfl) (by simp) ?_
        refine (AllReadyH.cons (o := ?ob13_8) ?hob13_8 (fun K hK => ?kb13_8) AllReadyH.nil)
        case hob13_8 => simp only [List.getElem?_toArray, List.getElem?_cons_succ, List.getElem?_cons_zero]; rfl
        case kb13_8 =>
          go_simp
          refine hK.out _ _ ?_ (fun hHeld => ?_)
          · exact ⟨(D0.trans ((below_al wq _).mono D0.size)), (e_p.later (below_al wq _)).cell 0 _ rfl, (e_p.later (below_al wq _)).cell 1 _ rfl, (e_p.later (below_al wq _)).cell 2 _ rfl, (e_p.later (below_al wq _)).cell 3 _ rfl, (e_p.later (below_al wq _)).cell 4 _ rfl, (e_p.later (below_al wq _)).cell 5 _ rfl, (e_p.later (below_al wq _)).cell 6 _ rfl, (e_p.later (below_al wq _)).cell 7 _ rfl, (e_p.later (below_al wq _)).cell 8 _ rfl, (e_p.later (below_al wq _)).cell 9 _ rfl⟩
          clear hK K
          try simp only [Act.put, List.setIfInBounds_toArray, List.set_cons_zero, List.set_cons_succ]
          have RA := (PRow.new 25 wq zcm).rebase hHeld.1 D0.size
          have e_p := e_p.later (below_al wq (.cells zcm 25))
          refine wpAnyH_ready (rs := [9]) (by kernel_rfl) (by simp) ?_
          refine (AllReadyH.cons (o := ?ob12_9) ?hob12_9 (fun K hK => ?kb12_9) AllReadyH.nil)
          case hob12_9 => simp only [List.getElem?_toArray, List.getElem?_cons_succ, List.getElem?_cons_zero]; rfl
          case kb12_9 =>
            rw [if_pos (by rfl)]
            refine op_store_whole 25 _ _ rfl atCmp _ _ _ RA.row rfl rfl rfl rfl (cm_one zeroCV _ _ _ _ _ _) ?_
            refine hK.out _ _ ?_ (fun hHeld => ?_)
            · exact ⟨below_row RA.below RA.lo _, cell_row (e_p.cell 0 _ rfl) (by have := RA.lo; have := h_p_5.lt; omega), cell_row (e_p.cell 1 _ rfl) (by have := RA.lo; have := h_p_5.lt; omega), cell_row (e_p.cell 2 _ rfl) (by have := RA.lo; have := h_p_5.lt; omega), cell_row (e_p.cell 3 _ rfl) (by have := RA.lo; have := h_p_5.lt; omega), cell_row (e_p.cell 4 _ rfl) (by have := RA.lo; have := h_p_5.lt; omega), cell_row (e_p.cell 5 _ rfl) (by have := RA.lo; have := h_p_5.lt; omega), cell_row (e_p.cell 6 _ rfl) (by have := RA.lo; have := h_p_5.lt; omega), cell_row (e_p.cell 7 _ rfl) (by have := RA.lo; have := h_p_5.lt; omega), cell_row (e_p.cell 8 _ rfl) (by have := RA.lo; have := h_p_5.lt; omega), cell_row (e_p.cell 9 _ rfl) (by have := RA.lo; have := h_p_5.lt; omega)⟩
            clear hK K
            try simp only [Act.put, List.setIfInBounds_toArray, List.set_cons_zero, List.set_cons_succ]
            refine wpAnyH_take (i := 10) (oi := ?a11_10) (v := ?b11_10) ?c11_10 (by kernel_rfl) (by kernel_rfl) (by kernel_rfl) ?d11_10 ?e11_10 (by assumption) ?f11_10
            case c11_10 => simp only [tA, tS, tZ]; rfl
            case d11_10 => exact fun _ _ _ h => h
            case e11_10 => (refine Or.inl ⟨by rfl, ?_⟩; intro w h; (try dsimp only at h); go_simp; all_goals with_reducible rfl)
            try simp only [Act.put, tI, tP, tQ]
            refine wpAnyH_done (by kernel_rfl) ?_ _
            go_wp2_with fail
            go_meet
            exact ⟨a_a, n_a, c_a, b_a, m_a, d_a, _, rfl, rfl, RA.put _, rd_rowset (y1.below (below_al wq _)) RA.row (cm_noint zeroCV _ _ _ _ _ _) _, rd_rowset (y2.below (below_al wq _)) RA.row (cm_noint zeroCV _ _ _ _ _ _) _⟩
      case kb19_8 =>
        go_simp
        refine hK.out _ _ ?_ (fun hHeld => ?_)
        · exact ⟨(D0.trans ((below_al w5.drew _).mono D0.size)), (e_p.later (below_al w5.drew _)).cell 0 _ rfl, (e_p.later (below_al w5.drew _)).cell 1 _ rfl, (e_p.later (below_al w5.drew _)).cell 2 _ rfl, (e_p.later (below_al w5.drew _)).cell 3 _ rfl, (e_p.later (below_al w5.drew _)).cell 4 _ rfl, (e_p.later (below_al w5.drew _)).cell 5 _ rfl, (e_p.later (below_al w5.drew _)).cell 6 _ rfl, (e_p.later (below_al w5.drew _)).cell 7 _ rfl, (e_p.later (below_al w5.drew _)).cell 8 _ rfl, (e_p.later (below_al w5.drew _)).cell 9 _ rfl⟩
        clear hK K
        try simp only [Act.put, List.setIfInBounds_toArray, List.set_cons_zero, List.set_cons_succ]
        have RA : PRow 25 w5 _ w5.heap.size zcm := (PRow.new 25 w5.drew zcm).rebase hHeld.1 D0.size
        have e_p := e_p.later (below_al w5.drew (.cells zcm 25))
        have e_pl := e_pl.below (below_al w5.drew (.cells zcm 25))
        have e_pb := e_pb.below (below_al w5.drew (.cells zcm 25))
        have e_vt := e_vt.below (below_al w5.drew (.cells zcm 25))
        refine wpAnyH_ready (rs := [4]) (by kernel_rfl) (by simp) ?_
        refine (AllReadyH.cons (o := ?ob18_4) ?hob18_4 (fun K hK => ?kb18_4) AllReadyH.nil)
        case hob18_4 => simp only [List.getElem?_toArray, List.getElem?_cons_succ, List.getElem?_cons_zero]; rfl
        case kb18_4 =>
          go_simp
          have c := cmObserve_any (w5.drew.alloc (.cells zcm 25)) e_pl e_pb pw_p e_vt
          rw [HO.out] at c
          refine c.mono ?_
          rintro e wq ⟨a_a, n_a, c_a, b_a, m_a, d_a, rfl, y1, y2, hq⟩
          clear c
          have D0 := hHeld.1.trans (hq.mono hHeld.1.size)
          have e_p := e_p.later hq
          have e_pl := e_pl.below hq
          have e_pb := e_pb.below hq
          have e_vt := e_vt.below hq
          go_wp2_with fail
          refine hK.out _ _ ?_ (fun hHeld => ?_)
          · exact ⟨D0, e_p.cell 0 _ rfl, e_p.cell 1 _ rfl, e_p.cell 2 _ rfl, e_p.cell 3 _ rfl, e_p.cell 4 _ rfl, e_p.cell 5 _ rfl, e_p.cell 6 _ rfl, e_p.cell 7 _ rfl, e_p.cell 8 _ rfl, e_p.cell 9 _ rfl⟩
          clear hK K
          try simp only [Act.put, List.setIfInBounds_toArray, List.set_cons_zero, List.set_cons_succ]
          refine wpAnyH_take (i := 5) (oi := ?a15_5) (v := ?b15_5) ?c15_5 (by kernel_rfl) (by kernel_rfl) (by kernel_rfl) ?d15_5 ?e15_5 (by assumption) ?f15_5
          case c15_5 => simp only [tA, tS, tZ]; rfl
          case d15_5 => exact fun _ _ _ h => h
          case e15_5 => (refine Or.inl ⟨by rfl, ?_⟩; intro w h; (try dsimp only at h); go_simp; all_goals with_reducible rfl)
          try simp only [Act.put, tI, tP, tQ]
          refine wpAnyH_take (i := 6) (oi := ?a15_6) (v := ?b15_6) ?c15_6 (by kernel_rfl) (by kernel_rfl) (by kernel_rfl) ?d15_6 ?e15_6 (by assumption) ?f15_6
          case c15_6 => simp only [tA, tS, tZ]; rfl
          case d15_6 => exact fun _ _ _ h => h
          case e15_6 => (refine Or.inl ⟨by rfl, ?_⟩; intro w h; (try dsimp only at h); go_simp; all_goals with_reducible rfl)
          try simp only [Act.put, tI, tP, tQ]
          refine wpAnyH_take (i := 7) (oi := ?a15_7) (v := ?b15_7) ?c15_7 (by kernel_rfl) (by kernel_rfl) (by kernel_rfl) ?d15_7 ?e15_7 (by assumption) ?f15_7
          case c15_7 => simp only [tA, tS, tZ]; rfl
          case d15_7 => exact fun _ _ _ h => h
          case e15_7 => (refine Or.inl ⟨by rfl, ?_⟩; intro w h; (try dsimp only at h); go_simp; all_goals with_reducible rfl)
          try simp only [Act.put, tI, tP, tQ]
          have RA := RA.later hq
          refine wpAnyH_ready (rs := [9]) (by kernel_rfl) (by simp) ?_
          refine (AllReadyH.cons (o := ?ob17_9) ?hob17_9 (fun K hK => ?kb17_9) AllReadyH.nil)
          case hob17_9 => simp only [List.getElem?_toArray, List.getElem?_cons_succ, List.getElem?_cons_zero]; rfl
          case kb17_9 =>
            rw [if_pos (by rfl)]
            refine op_store_whole 25 _ _ rfl atCmp _ _ _ RA.row rfl rfl rfl rfl (cm_one zeroCV _ _ _ _ _ _) ?_
            refine hK.out _ _ ?_ (fun hHeld => ?_)
            · exact ⟨below_row RA.below RA.lo _, cell_row (e_p.cell 0 _ rfl) (by have := RA.lo; have := h_p_5.lt; omega), cell_row (e_p.cell 1 _ rfl) (by have := RA.lo; have := h_p_5.lt; omega), cell_row (e_p.cell 2 _ rfl) (by have := RA.lo; have := h_p_5.lt; omega), cell_row (e_p.cell 3 _ rfl) (by have := RA.lo; have := h_p_5.lt; omega), cell_row (e_p.cell 4 _ rfl) (by have := RA.lo; have := h_p_5.lt; omega), cell_row (e_p.cell 5 _ rfl) (by have := RA.lo; have := h_p_5.lt; omega), cell_row (e_p.cell 6 _ rfl) (by have := RA.lo; have := h_p_5.lt; omega), cell_row (e_p.cell 7 _ rfl) (by have := RA.lo; have := h_p_5.lt; omega), cell_row (e_p.cell 8 _ rfl) (by have := RA.lo; have := h_p_5.lt; omega), cell_row (e_p.cell 9 _ rfl) (by have := RA.lo; have := h_p_5.lt; omega)⟩
            clear hK K
            try simp only [Act.put, List.setIfInBounds_toArray, List.set_cons_zero, List.set_cons_succ]
            refine wpAnyH_take (i := 10) (oi := ?a16_10) (v := ?b16_10) ?c16_10 (by kernel_rfl) (by kernel_rfl) (by kernel_rfl) ?d16_10 ?e16_10 (by assumption) ?f16_10
            case c16_10 => simp only [tA, tS, tZ]; rfl
            case d16_10 => exact fun _ _ _ h => h
            case e16_10 => (refine Or.inl ⟨by rfl, ?_⟩; intro w h; (try dsimp only at h); go_simp; all_goals with_reducible rfl)
            try simp only [Act.put, tI, tP, tQ]
            refine wpAnyH_done (by kernel_rfl) ?_ _
            go_wp2_with fail
            go_meet
            exact ⟨a_a, n_a, c_a, b_a, m_a, d_a, _, rfl, rfl, RA.put _, rd_rowset y1 RA.row (cm_noint zeroCV _ _ _ _ _ _) _, rd_rowset y2 RA.row (cm_noint zeroCV _ _ _ _ _ _) _⟩
    case rest =>
    obtain ⟨a_a, n_a, c_a, b_a, m_a, d_a, g_a, rfl, rfl, R_a, h_al_6, h_ab_6⟩ := hcut
    have hb := R_a.below
    have h_a_6 : Has w5 wc g_a (cmC zeroCV a_a n_a c_a b_a m_a d_a) := ⟨R_a.below, fun i v h => R_a.cell i v h, R_a.lt⟩
    clear R_a
    have B6 := B5.trans (hb.mono B5.size)
    have h_pl_6 := h_pl_5.below hb
    have h_pb_6 := h_pb_5.below hb
    have h_v_6 := h_v_5.below hb
    have h_p_6 := h_p_5.later hb
    have h_vt_6 := h_vt_5.below hb
    have h_vd_6 := h_vd_5.below hb
    have h_ll_6 := h_ll_5.below hb
    have h_lb_6 := h_lb_5.below hb
    have h_l_6 := h_l_5.later hb
    clear hb B5 h_pl_5 h_pb_5 h_v_5 h_p_5 h_vt_5 h_vd_5 h_ll_5 h_lb_5 h_l_5
    obtain ⟨w6, hw⟩ : ∃ w, w = wc := ⟨_, rfl⟩
    subst hw
    go_wp2_with fail
    have c := examples_any w6
    refine c.mono ?_
    rintro e w7 ⟨rfl, hb⟩
    clear c
    have B7 := B6.trans (hb.mono B6.size)
    have h_pl_7 := h_pl_6.below hb
    have h_pb_7 := h_pb_6.below hb
    have h_v_7 := h_v_6.below hb
    have h_p_7 := h_p_6.later hb
    have h_vt_7 := h_vt_6.below hb
    have h_vd_7 := h_vd_6.below hb
    have h_ll_7 := h_ll_6.below hb
    have h_lb_7 := h_lb_6.below hb
    have h_l_7 := h_l_6.later hb
    have h_a_7 := h_a_6.later hb
    have h_al_7 := h_al_6.below hb
    have h_ab_7 := h_ab_6.below hb
    clear hb B6 h_pl_6 h_pb_6 h_v_6 h_p_6 h_vt_6 h_vd_6 h_ll_6 h_lb_6 h_l_6 h_a_6 h_al_6 h_ab_6
    go_wp2_with fail
    go_ret
    exact ⟨rfl, B7⟩
  case inr =>
  have HO := Lib.hid ho
  have V1 := Lib.hid v1
  have TWO := Lib.hid (obsCC_two V0.out hn v1)
  have PQ : CW q := v1.cw
  have SUM := Lib.hid (show sumC q = sumC p + (K : Nat) by rw [hsum, List.length_take, LN.out, Nat.min_eq_left HN.out])
  have BT := Lib.hid hbet
  clear ho v1 hn hB hbet hsum
  go_upto_region 5 with (first | refine wpList_store_new rfl 25 _ _ rfl atCmp _ _ _ rfl rfl rfl rfl (cm_one (obsCC p v).1 _ _ _ _ _ _) ?_)
  generalize (w4.alloc (.cells (cmC (obsCC p v).1 a_l n_l c_l b_l m_l d_l) 25)) = w5 at *
  go_cut [9, 10] from 39 to 46 (fun s1 s2 wx => ∃ a_a n_a c_a b_a m_a d_a g_a, s1 = Value.pointer (some ⟨g_a, 0, none⟩) ∧ s2 = Value.int .i64 0 ∧ PRow 25 w5 wx g_a (cmC q a_a n_a c_a b_a m_a d_a) ∧ Rd .u32 wx a_a n_a c_a (q).lev ∧ Rd .u32 wx b_a m_a d_a (q).best)
  case first =>
    have D0 := (Below.refl w5.heap.size w5).drew
    have e_p := h_p_5.later D0
    have e_pl := h_pl_5.below D0
    have e_pb := h_pb_5.below D0
    have e_vt := h_vt_5.below D0
    refine wp_region_held_drew (S := (fun w' => Below w5.heap.size w5 w' ∧ w'.cell? ⟨w.heap.size, 0, none⟩ = some (.int .i64 (p).bet) ∧ w'.cell? ⟨w.heap.size, 1, none⟩ = some (.int .i64 (p).ballots) ∧ w'.cell? ⟨w.heap.size, 2, none⟩ = some (.int .i64 (p).margin) ∧ w'.cell? ⟨w.heap.size, 3, none⟩ = some (.int .i64 (p).s0) ∧ w'.cell? ⟨w.heap.size, 4, none⟩ = some (.int .i64 (p).s1) ∧ w'.cell? ⟨w.heap.size, 5, none⟩ = some (.int .i64 (p).s2) ∧ w'.cell? ⟨w.heap.size, 6, none⟩ = some (.int .i64 (p).s3) ∧ w'.cell? ⟨w.heap.size, 7, none⟩ = some (.int .i64 (p).s4) ∧ w'.cell? ⟨w.heap.size, 8, none⟩ = some (.slice a_p n_p c_p) ∧ w'.cell? ⟨w.heap.size, 9, none⟩ = some (.slice b_p m_p d_p))) (by kernel_rfl) ?_ (fun hHeld => ?_)
    · exact ⟨D0, e_p.cell 0 _ rfl, e_p.cell 1 _ rfl, e_p.cell 2 _ rfl, e_p.cell 3 _ rfl, e_p.cell 4 _ rfl, e_p.cell 5 _ rfl, e_p.cell 6 _ rfl, e_p.cell 7 _ rfl, e_p.cell 8 _ rfl, e_p.cell 9 _ rfl⟩
    refine wpAnyH_take (i := 0) (oi := ?a20_0) (v := ?b20_0) ?c20_0 (by kernel_rfl) (by kernel_rfl) (by kernel_rfl) ?d20_0 ?e20_0 (by assumption) ?f20_0
    case c20_0 => simp only [tA, tS, tZ]; rfl
    case d20_0 => exact fun _ _ _ h => h
    case e20_0 => (refine Or.inl ⟨by rfl, ?_⟩; intro w h; (try dsimp only at h); go_simp; all_goals with_reducible rfl)
    try simp only [Act.put, tI, tP, tQ]
    refine wpAnyH_take (i := 1) (oi := ?a20_1) (v := ?b20_1) ?c20_1 (by kernel_rfl) (by kernel_rfl) (by kernel_rfl) ?d20_1 ?e20_1 (by assumption) ?f20_1
    case c20_1 => simp only [tA, tS, tZ]; rfl
    case d20_1 => exact fun _ _ _ h => h
    case e20_1 => (refine Or.inl ⟨by rfl, ?_⟩; intro w h; (try dsimp only at h); go_simp; all_goals with_reducible rfl)
    try simp only [Act.put, tI, tP, tQ]
    refine wpAnyH_take (i := 2) (oi := ?a20_2) (v := ?b20_2) ?c20_2 (by kernel_rfl) (by kernel_rfl) (by kernel_rfl) ?d20_2 ?e20_2 (by assumption) ?f20_2
    case c20_2 => simp only [tA, tS, tZ]; rfl
    case d20_2 => exact fun _ _ _ h => h
    case e20_2 => (refine Or.inl ⟨by rfl, ?_⟩; intro w h; (try dsimp only at h); go_simp; all_goals with_reducible rfl)
    try simp only [Act.put, tI, tP, tQ]
    refine wpAnyH_take (i := 3) (oi := ?a20_3) (v := ?b20_3) ?c20_3 (by kernel_rfl) (by kernel_rfl) (by kernel_rfl) ?d20_3 ?e20_3 (by assumption) ?f20_3
    case c20_3 => simp only [tA, tS, tZ]; rfl
    case d20_3 => exact fun _ _ _ h => h
    case e20_3 => (refine Or.inl ⟨by rfl, ?_⟩; intro w h; (try dsimp only at h); go_simp; all_goals with_reducible rfl)
    try simp only [Act.put, tI, tP, tQ]
    refine wpAnyH_ready (rs := [4, 8]) (by kernel_rfl) (by simp) ?_
    refine (AllReadyH.cons (o := ?ob29_4) ?hob29_4 (fun K hK => ?kb29_4) (AllReadyH.cons (o := ?ob29_8) ?hob29_8 (fun K hK => ?kb29_8) AllReadyH.nil))
    case hob29_4 => simp only [List.getElem?_toArray, List.getElem?_cons_succ, List.getElem?_cons_zero]; rfl
    case hob29_8 => simp only [List.getElem?_toArray, List.getElem?_cons_succ, List.getElem?_cons_zero]; rfl
    case kb29_4 =>
      go_simp
      have c := cmObserve_any w5.drew e_pl e_pb pw_p e_vt
      rw [HO.out] at c
      refine c.mono ?_
      rintro e wq ⟨a_a, n_a, c_a, b_a, m_a, d_a, rfl, y1, y2, hq⟩
      clear c
      have D0 := hHeld.1.trans (hq.mono hHeld.1.size)
      have e_p := e_p.later hq
      have e_pl := e_pl.below hq
      have e_pb := e_pb.below hq
      have e_vt := e_vt.below hq
      go_wp2_with fail
      refine hK.out _ _ ?_ (fun hHeld => ?_)
      · exact ⟨D0, e_p.cell 0 _ rfl, e_p.cell 1 _ rfl, e_p.cell 2 _ rfl, e_p.cell 3 _ rfl, e_p.cell 4 _ rfl, e_p.cell 5 _ rfl, e_p.cell 6 _ rfl, e_p.cell 7 _ rfl, e_p.cell 8 _ rfl, e_p.cell 9 _ rfl⟩
      clear hK K
      try simp only [Act.put, List.setIfInBounds_toArray, List.set_cons_zero, List.set_cons_succ]
      refine wpAnyH_take (i := 5) (oi := ?a24_5) (v := ?b24_5) ?c24_5 (by kernel_rfl) (by kernel_rfl) (by kernel_rfl) ?d24_5 ?e24_5 (by assumption) ?f24_5
      case c24_5 => simp only [tA, tS, tZ]; rfl
      case d24_5 => exact fun _ _ _ h => h
      case e24_5 => (refine Or.inl ⟨by rfl, ?_⟩; intro w h; (try dsimp only at h); go_simp; all_goals with_reducible rfl)
      try simp only [Act.put, tI, tP, tQ]
      refine wpAnyH_take (i := 6) (oi := ?a24_6) (v := ?b24_6) ?c24_6 (by kernel_rfl) (by kernel_rfl) (by kernel_rfl) ?d24_6 ?e24_6 (by assumption) ?f24_6
      case c24_6 => simp only [tA, tS, tZ]; rfl
      case d24_6 => exact fun _ _ _ h => h
      case e24_6 => (refine Or.inl ⟨by rfl, ?_⟩; intro w h; (try dsimp only at h); go_simp; all_goals with_reducible rfl)
      try simp only [Act.put, tI, tP, tQ]
      refine wpAnyH_take (i := 7) (oi := ?a24_7) (v := ?b24_7) ?c24_7 (by kernel_rfl) (by kernel_rfl) (by kernel_rfl) ?d24_7 ?e24_7 (by assumption) ?f24_7
      case c24_7 => simp only [tA, tS, tZ]; rfl
      case d24_7 => exact fun _ _ _ h => h
      case e24_7 => (refine Or.inl ⟨by rfl, ?_⟩; intro w h; (try dsimp only at h); go_simp; all_goals with_reducible rfl)
      try simp only [Act.put, tI, tP, tQ]
      refine wpAnyH_ready (rs := [8]) (by kernel_rfl) (by simp) ?_
      refine (AllReadyH.cons (o := ?ob23_8) ?hob23_8 (fun K hK => ?kb23_8) AllReadyH.nil)
      case hob23_8 => simp only [List.getElem?_toArray, List.getElem?_cons_succ, List.getElem?_cons_zero]; rfl
      case kb23_8 =>
        go_simp
        refine hK.out _ _ ?_ (fun hHeld => ?_)
        · exact ⟨(D0.trans ((below_al wq _).mono D0.size)), (e_p.later (below_al wq _)).cell 0 _ rfl, (e_p.later (below_al wq _)).cell 1 _ rfl, (e_p.later (below_al wq _)).cell 2 _ rfl, (e_p.later (below_al wq _)).cell 3 _ rfl, (e_p.later (below_al wq _)).cell 4 _ rfl, (e_p.later (below_al wq _)).cell 5 _ rfl, (e_p.later (below_al wq _)).cell 6 _ rfl, (e_p.later (below_al wq _)).cell 7 _ rfl, (e_p.later (below_al wq _)).cell 8 _ rfl, (e_p.later (below_al wq _)).cell 9 _ rfl⟩
        clear hK K
        try simp only [Act.put, List.setIfInBounds_toArray, List.set_cons_zero, List.set_cons_succ]
        have RA := (PRow.new 25 wq zcm).rebase hHeld.1 D0.size
        have e_p := e_p.later (below_al wq (.cells zcm 25))
        refine wpAnyH_ready (rs := [9]) (by kernel_rfl) (by simp) ?_
        refine (AllReadyH.cons (o := ?ob22_9) ?hob22_9 (fun K hK => ?kb22_9) AllReadyH.nil)
        case hob22_9 => simp only [List.getElem?_toArray, List.getElem?_cons_succ, List.getElem?_cons_zero]; rfl
        case kb22_9 =>
          rw [if_pos (by rfl)]
          refine op_store_whole 25 _ _ rfl atCmp _ _ _ RA.row rfl rfl rfl rfl (cm_one q _ _ _ _ _ _) ?_
          refine hK.out _ _ ?_ (fun hHeld => ?_)
          · exact ⟨below_row RA.below RA.lo _, cell_row (e_p.cell 0 _ rfl) (by have := RA.lo; have := h_p_5.lt; omega), cell_row (e_p.cell 1 _ rfl) (by have := RA.lo; have := h_p_5.lt; omega), cell_row (e_p.cell 2 _ rfl) (by have := RA.lo; have := h_p_5.lt; omega), cell_row (e_p.cell 3 _ rfl) (by have := RA.lo; have := h_p_5.lt; omega), cell_row (e_p.cell 4 _ rfl) (by have := RA.lo; have := h_p_5.lt; omega), cell_row (e_p.cell 5 _ rfl) (by have := RA.lo; have := h_p_5.lt; omega), cell_row (e_p.cell 6 _ rfl) (by have := RA.lo; have := h_p_5.lt; omega), cell_row (e_p.cell 7 _ rfl) (by have := RA.lo; have := h_p_5.lt; omega), cell_row (e_p.cell 8 _ rfl) (by have := RA.lo; have := h_p_5.lt; omega), cell_row (e_p.cell 9 _ rfl) (by have := RA.lo; have := h_p_5.lt; omega)⟩
          clear hK K
          try simp only [Act.put, List.setIfInBounds_toArray, List.set_cons_zero, List.set_cons_succ]
          refine wpAnyH_take (i := 10) (oi := ?a21_10) (v := ?b21_10) ?c21_10 (by kernel_rfl) (by kernel_rfl) (by kernel_rfl) ?d21_10 ?e21_10 (by assumption) ?f21_10
          case c21_10 => simp only [tA, tS, tZ]; rfl
          case d21_10 => exact fun _ _ _ h => h
          case e21_10 => (refine Or.inl ⟨by rfl, ?_⟩; intro w h; (try dsimp only at h); go_simp; all_goals with_reducible rfl)
          try simp only [Act.put, tI, tP, tQ]
          refine wpAnyH_done (by kernel_rfl) ?_ _
          go_wp2_with fail
          go_meet
          exact ⟨a_a, n_a, c_a, b_a, m_a, d_a, _, rfl, rfl, RA.put _, rd_rowset (y1.below (below_al wq _)) RA.row (cm_noint zeroCV _ _ _ _ _ _) _, rd_rowset (y2.below (below_al wq _)) RA.row (cm_noint zeroCV _ _ _ _ _ _) _⟩
    case kb29_8 =>
      go_simp
      refine hK.out _ _ ?_ (fun hHeld => ?_)
      · exact ⟨(D0.trans ((below_al w5.drew _).mono D0.size)), (e_p.later (below_al w5.drew _)).cell 0 _ rfl, (e_p.later (below_al w5.drew _)).cell 1 _ rfl, (e_p.later (below_al w5.drew _)).cell 2 _ rfl, (e_p.later (below_al w5.drew _)).cell 3 _ rfl, (e_p.later (below_al w5.drew _)).cell 4 _ rfl, (e_p.later (below_al w5.drew _)).cell 5 _ rfl, (e_p.later (below_al w5.drew _)).cell 6 _ rfl, (e_p.later (below_al w5.drew _)).cell 7 _ rfl, (e_p.later (below_al w5.drew _)).cell 8 _ rfl, (e_p.later (below_al w5.drew _)).cell 9 _ rfl⟩
      clear hK K
      try simp only [Act.put, List.setIfInBounds_toArray, List.set_cons_zero, List.set_cons_succ]
      have RA : PRow 25 w5 _ w5.heap.size zcm := (PRow.new 25 w5.drew zcm).rebase hHeld.1 D0.size
      have e_p := e_p.later (below_al w5.drew (.cells zcm 25))
      have e_pl := e_pl.below (below_al w5.drew (.cells zcm 25))
      have e_pb := e_pb.below (below_al w5.drew (.cells zcm 25))
      have e_vt := e_vt.below (below_al w5.drew (.cells zcm 25))
      refine wpAnyH_ready (rs := [4]) (by kernel_rfl) (by simp) ?_
      refine (AllReadyH.cons (o := ?ob28_4) ?hob28_4 (fun K hK => ?kb28_4) AllReadyH.nil)
      case hob28_4 => simp only [List.getElem?_toArray, List.getElem?_cons_succ, List.getElem?_cons_zero]; rfl
      case kb28_4 =>
        go_simp
        have c := cmObserve_any (w5.drew.alloc (.cells zcm 25)) e_pl e_pb pw_p e_vt
        rw [HO.out] at c
        refine c.mono ?_
        rintro e wq ⟨a_a, n_a, c_a, b_a, m_a, d_a, rfl, y1, y2, hq⟩
        clear c
        have D0 := hHeld.1.trans (hq.mono hHeld.1.size)
        have e_p := e_p.later hq
        have e_pl := e_pl.below hq
        have e_pb := e_pb.below hq
        have e_vt := e_vt.below hq
        go_wp2_with fail
        refine hK.out _ _ ?_ (fun hHeld => ?_)
        · exact ⟨D0, e_p.cell 0 _ rfl, e_p.cell 1 _ rfl, e_p.cell 2 _ rfl, e_p.cell 3 _ rfl, e_p.cell 4 _ rfl, e_p.cell 5 _ rfl, e_p.cell 6 _ rfl, e_p.cell 7 _ rfl, e_p.cell 8 _ rfl, e_p.cell 9 _ rfl⟩
        clear hK K
        try simp only [Act.put, List.setIfInBounds_toArray, List.set_cons_zero, List.set_cons_succ]
        refine wpAnyH_take (i := 5) (oi := ?a25_5) (v := ?b25_5) ?c25_5 (by kernel_rfl) (by kernel_rfl) (by kernel_rfl) ?d25_5 ?e25_5 (by assumption) ?f25_5
        case c25_5 => simp only [tA, tS, tZ]; rfl
        case d25_5 => exact fun _ _ _ h => h
        case e25_5 => (refine Or.inl ⟨by rfl, ?_⟩; intro w h; (try dsimp only at h); go_simp; all_goals with_reducible rfl)
        try simp only [Act.put, tI, tP, tQ]
        refine wpAnyH_take (i := 6) (oi := ?a25_6) (v := ?b25_6) ?c25_6 (by kernel_rfl) (by kernel_rfl) (by kernel_rfl) ?d25_6 ?e25_6 (by assumption) ?f25_6
        case c25_6 => simp only [tA, tS, tZ]; rfl
        case d25_6 => exact fun _ _ _ h => h
        case e25_6 => (refine Or.inl ⟨by rfl, ?_⟩; intro w h; (try dsimp only at h); go_simp; all_goals with_reducible rfl)
        try simp only [Act.put, tI, tP, tQ]
        refine wpAnyH_take (i := 7) (oi := ?a25_7) (v := ?b25_7) ?c25_7 (by kernel_rfl) (by kernel_rfl) (by kernel_rfl) ?d25_7 ?e25_7 (by assumption) ?f25_7
        case c25_7 => simp only [tA, tS, tZ]; rfl
        case d25_7 => exact fun _ _ _ h => h
        case e25_7 => (refine Or.inl ⟨by rfl, ?_⟩; intro w h; (try dsimp only at h); go_simp; all_goals with_reducible rfl)
        try simp only [Act.put, tI, tP, tQ]
        have RA := RA.later hq
        refine wpAnyH_ready (rs := [9]) (by kernel_rfl) (by simp) ?_
        refine (AllReadyH.cons (o := ?ob27_9) ?hob27_9 (fun K hK => ?kb27_9) AllReadyH.nil)
        case hob27_9 => simp only [List.getElem?_toArray, List.getElem?_cons_succ, List.getElem?_cons_zero]; rfl
        case kb27_9 =>
          rw [if_pos (by rfl)]
          refine op_store_whole 25 _ _ rfl atCmp _ _ _ RA.row rfl rfl rfl rfl (cm_one q _ _ _ _ _ _) ?_
          refine hK.out _ _ ?_ (fun hHeld => ?_)
          · exact ⟨below_row RA.below RA.lo _, cell_row (e_p.cell 0 _ rfl) (by have := RA.lo; have := h_p_5.lt; omega), cell_row (e_p.cell 1 _ rfl) (by have := RA.lo; have := h_p_5.lt; omega), cell_row (e_p.cell 2 _ rfl) (by have := RA.lo; have := h_p_5.lt; omega), cell_row (e_p.cell 3 _ rfl) (by have := RA.lo; have := h_p_5.lt; omega), cell_row (e_p.cell 4 _ rfl) (by have := RA.lo; have := h_p_5.lt; omega), cell_row (e_p.cell 5 _ rfl) (by have := RA.lo; have := h_p_5.lt; omega), cell_row (e_p.cell 6 _ rfl) (by have := RA.lo; have := h_p_5.lt; omega), cell_row (e_p.cell 7 _ rfl) (by have := RA.lo; have := h_p_5.lt; omega), cell_row (e_p.cell 8 _ rfl) (by have := RA.lo; have := h_p_5.lt; omega), cell_row (e_p.cell 9 _ rfl) (by have := RA.lo; have := h_p_5.lt; omega)⟩
          clear hK K
          try simp only [Act.put, List.setIfInBounds_toArray, List.set_cons_zero, List.set_cons_succ]
          refine wpAnyH_take (i := 10) (oi := ?a26_10) (v := ?b26_10) ?c26_10 (by kernel_rfl) (by kernel_rfl) (by kernel_rfl) ?d26_10 ?e26_10 (by assumption) ?f26_10
          case c26_10 => simp only [tA, tS, tZ]; rfl
          case d26_10 => exact fun _ _ _ h => h
          case e26_10 => (refine Or.inl ⟨by rfl, ?_⟩; intro w h; (try dsimp only at h); go_simp; all_goals with_reducible rfl)
          try simp only [Act.put, tI, tP, tQ]
          refine wpAnyH_done (by kernel_rfl) ?_ _
          go_wp2_with fail
          go_meet
          exact ⟨a_a, n_a, c_a, b_a, m_a, d_a, _, rfl, rfl, RA.put _, rd_rowset y1 RA.row (cm_noint zeroCV _ _ _ _ _ _) _, rd_rowset y2 RA.row (cm_noint zeroCV _ _ _ _ _ _) _⟩
  case rest =>
  obtain ⟨a_a, n_a, c_a, b_a, m_a, d_a, g_a, rfl, rfl, R_a, h_al_6, h_ab_6⟩ := hcut
  have hb := R_a.below
  have h_a_6 : Has w5 wc g_a (cmC q a_a n_a c_a b_a m_a d_a) := ⟨R_a.below, fun i v h => R_a.cell i v h, R_a.lt⟩
  clear R_a
  have B6 := B5.trans (hb.mono B5.size)
  have h_pl_6 := h_pl_5.below hb
  have h_pb_6 := h_pb_5.below hb
  have h_v_6 := h_v_5.below hb
  have h_p_6 := h_p_5.later hb
  have h_vt_6 := h_vt_5.below hb
  have h_vd_6 := h_vd_5.below hb
  have h_ll_6 := h_ll_5.below hb
  have h_lb_6 := h_lb_5.below hb
  have h_l_6 := h_l_5.later hb
  clear hb B5 h_pl_5 h_pb_5 h_v_5 h_p_5 h_vt_5 h_vd_5 h_ll_5 h_lb_5 h_l_5
  obtain ⟨w6, hw⟩ : ∃ w, w = wc := ⟨_, rfl⟩
  subst hw
  go_upto_region 8 with fail
  go_cut [11, 12] from 55 to 62 (fun s1 s2 wx => ∃ a_b n_b c_b b_b m_b d_b g_b, s1 = Value.pointer (some ⟨g_b, 0, none⟩) ∧ s2 = Value.int .i64 (obsCC p v).2 ∧ PRow 25 w6 wx g_b (cmC (obsCC p v).1 a_b n_b c_b b_b m_b d_b) ∧ Rd .u32 wx a_b n_b c_b ((obsCC p v).1).lev ∧ Rd .u32 wx b_b m_b d_b ((obsCC p v).1).best)
  case first =>
    have D0 := (Below.refl w6.heap.size w6).drew
    have e_a := h_a_6.later D0
    have e_al := h_al_6.below D0
    have e_ab := h_ab_6.below D0
    have e_vd := h_vd_6.below D0
    refine wp_region_held_drew (S := (fun w' => Below w6.heap.size w6 w' ∧ w'.cell? ⟨g_a, 0, none⟩ = some (.int .i64 (q).bet) ∧ w'.cell? ⟨g_a, 1, none⟩ = some (.int .i64 (q).ballots) ∧ w'.cell? ⟨g_a, 2, none⟩ = some (.int .i64 (q).margin) ∧ w'.cell? ⟨g_a, 3, none⟩ = some (.int .i64 (q).s0) ∧ w'.cell? ⟨g_a, 4, none⟩ = some (.int .i64 (q).s1) ∧ w'.cell? ⟨g_a, 5, none⟩ = some (.int .i64 (q).s2) ∧ w'.cell? ⟨g_a, 6, none⟩ = some (.int .i64 (q).s3) ∧ w'.cell? ⟨g_a, 7, none⟩ = some (.int .i64 (q).s4) ∧ w'.cell? ⟨g_a, 8, none⟩ = some (.slice a_a n_a c_a) ∧ w'.cell? ⟨g_a, 9, none⟩ = some (.slice b_a m_a d_a))) (by kernel_rfl) ?_ (fun hHeld => ?_)
    · exact ⟨D0, e_a.cell 0 _ rfl, e_a.cell 1 _ rfl, e_a.cell 2 _ rfl, e_a.cell 3 _ rfl, e_a.cell 4 _ rfl, e_a.cell 5 _ rfl, e_a.cell 6 _ rfl, e_a.cell 7 _ rfl, e_a.cell 8 _ rfl, e_a.cell 9 _ rfl⟩
    refine wpAnyH_take (i := 0) (oi := ?a30_0) (v := ?b30_0) ?c30_0 (by kernel_rfl) (by kernel_rfl) (by kernel_rfl) ?d30_0 ?e30_0 (by assumption) ?f30_0
    case c30_0 => simp only [tA, tS, tZ]; rfl
    case d30_0 => exact fun _ _ _ h => h
    case e30_0 => (refine Or.inl ⟨by rfl, ?_⟩; intro w h; (try dsimp only at h); go_simp; all_goals with_reducible rfl)
    try simp only [Act.put, tI, tP, tQ]
    refine wpAnyH_take (i := 1) (oi := ?a30_1) (v := ?b30_1) ?c30_1 (by kernel_rfl) (by kernel_rfl) (by kernel_rfl) ?d30_1 ?e30_1 (by assumption) ?f30_1
    case c30_1 => simp only [tA, tS, tZ]; rfl
    case d30_1 => exact fun _ _ _ h => h
    case e30_1 => (refine Or.inl ⟨by rfl, ?_⟩; intro w h; (try dsimp only at h); go_simp; all_goals with_reducible rfl)
    try simp only [Act.put, tI, tP, tQ]
    refine wpAnyH_take (i := 2) (oi := ?a30_2) (v := ?b30_2) ?c30_2 (by kernel_rfl) (by kernel_rfl) (by kernel_rfl) ?d30_2 ?e30_2 (by assumption) ?f30_2
    case c30_2 => simp only [tA, tS, tZ]; rfl
    case d30_2 => exact fun _ _ _ h => h
    case e30_2 => (refine Or.inl ⟨by rfl, ?_⟩; intro w h; (try dsimp only at h); go_simp; all_goals with_reducible rfl)
    try simp only [Act.put, tI, tP, tQ]
    refine wpAnyH_take (i := 3) (oi := ?a30_3) (v := ?b30_3) ?c30_3 (by kernel_rfl) (by kernel_rfl) (by kernel_rfl) ?d30_3 ?e30_3 (by assumption) ?f30_3
    case c30_3 => simp only [tA, tS, tZ]; rfl
    case d30_3 => exact fun _ _ _ h => h
    case e30_3 => (refine Or.inl ⟨by rfl, ?_⟩; intro w h; (try dsimp only at h); go_simp; all_goals with_reducible rfl)
    try simp only [Act.put, tI, tP, tQ]
    refine wpAnyH_ready (rs := [4, 8]) (by kernel_rfl) (by simp) ?_
    refine (AllReadyH.cons (o := ?ob39_4) ?hob39_4 (fun K hK => ?kb39_4) (AllReadyH.cons (o := ?ob39_8) ?hob39_8 (fun K hK => ?kb39_8) AllReadyH.nil))
    case hob39_4 => simp only [List.getElem?_toArray, List.getElem?_cons_succ, List.getElem?_cons_zero]; rfl
    case hob39_8 => simp only [List.getElem?_toArray, List.getElem?_cons_succ, List.getElem?_cons_zero]; rfl
    case kb39_4 =>
      go_simp
      have c := cmObserve_any w6.drew e_al e_ab PQ e_vd
      rw [TWO.out] at c
      refine c.mono ?_
      rintro e wq ⟨a_b, n_b, c_b, b_b, m_b, d_b, rfl, y1, y2, hq⟩
      clear c
      have D0 := hHeld.1.trans (hq.mono hHeld.1.size)
      have e_a := e_a.later hq
      have e_al := e_al.below hq
      have e_ab := e_ab.below hq
      have e_vd := e_vd.below hq
      go_wp2_with fail
      refine hK.out _ _ ?_ (fun hHeld => ?_)
      · exact ⟨D0, e_a.cell 0 _ rfl, e_a.cell 1 _ rfl, e_a.cell 2 _ rfl, e_a.cell 3 _ rfl, e_a.cell 4 _ rfl, e_a.cell 5 _ rfl, e_a.cell 6 _ rfl, e_a.cell 7 _ rfl, e_a.cell 8 _ rfl, e_a.cell 9 _ rfl⟩
      clear hK K
      try simp only [Act.put, List.setIfInBounds_toArray, List.set_cons_zero, List.set_cons_succ]
      refine wpAnyH_take (i := 5) (oi := ?a34_5) (v := ?b34_5) ?c34_5 (by kernel_rfl) (by kernel_rfl) (by kernel_rfl) ?d34_5 ?e34_5 (by assumption) ?f34_5
      case c34_5 => simp only [tA, tS, tZ]; rfl
      case d34_5 => exact fun _ _ _ h => h
      case e34_5 => (refine Or.inl ⟨by rfl, ?_⟩; intro w h; (try dsimp only at h); go_simp; all_goals with_reducible rfl)
      try simp only [Act.put, tI, tP, tQ]
      refine wpAnyH_take (i := 6) (oi := ?a34_6) (v := ?b34_6) ?c34_6 (by kernel_rfl) (by kernel_rfl) (by kernel_rfl) ?d34_6 ?e34_6 (by assumption) ?f34_6
      case c34_6 => simp only [tA, tS, tZ]; rfl
      case d34_6 => exact fun _ _ _ h => h
      case e34_6 => (refine Or.inl ⟨by rfl, ?_⟩; intro w h; (try dsimp only at h); go_simp; all_goals with_reducible rfl)
      try simp only [Act.put, tI, tP, tQ]
      refine wpAnyH_take (i := 7) (oi := ?a34_7) (v := ?b34_7) ?c34_7 (by kernel_rfl) (by kernel_rfl) (by kernel_rfl) ?d34_7 ?e34_7 (by assumption) ?f34_7
      case c34_7 => simp only [tA, tS, tZ]; rfl
      case d34_7 => exact fun _ _ _ h => h
      case e34_7 => (refine Or.inl ⟨by rfl, ?_⟩; intro w h; (try dsimp only at h); go_simp; all_goals with_reducible rfl)
      try simp only [Act.put, tI, tP, tQ]
      refine wpAnyH_ready (rs := [8]) (by kernel_rfl) (by simp) ?_
      refine (AllReadyH.cons (o := ?ob33_8) ?hob33_8 (fun K hK => ?kb33_8) AllReadyH.nil)
      case hob33_8 => simp only [List.getElem?_toArray, List.getElem?_cons_succ, List.getElem?_cons_zero]; rfl
      case kb33_8 =>
        go_simp
        refine hK.out _ _ ?_ (fun hHeld => ?_)
        · exact ⟨(D0.trans ((below_al wq _).mono D0.size)), (e_a.later (below_al wq _)).cell 0 _ rfl, (e_a.later (below_al wq _)).cell 1 _ rfl, (e_a.later (below_al wq _)).cell 2 _ rfl, (e_a.later (below_al wq _)).cell 3 _ rfl, (e_a.later (below_al wq _)).cell 4 _ rfl, (e_a.later (below_al wq _)).cell 5 _ rfl, (e_a.later (below_al wq _)).cell 6 _ rfl, (e_a.later (below_al wq _)).cell 7 _ rfl, (e_a.later (below_al wq _)).cell 8 _ rfl, (e_a.later (below_al wq _)).cell 9 _ rfl⟩
        clear hK K
        try simp only [Act.put, List.setIfInBounds_toArray, List.set_cons_zero, List.set_cons_succ]
        have RA := (PRow.new 25 wq zcm).rebase hHeld.1 D0.size
        have e_a := e_a.later (below_al wq (.cells zcm 25))
        refine wpAnyH_ready (rs := [9]) (by kernel_rfl) (by simp) ?_
        refine (AllReadyH.cons (o := ?ob32_9) ?hob32_9 (fun K hK => ?kb32_9) AllReadyH.nil)
        case hob32_9 => simp only [List.getElem?_toArray, List.getElem?_cons_succ, List.getElem?_cons_zero]; rfl
        case kb32_9 =>
          rw [if_pos (by rfl)]
          refine op_store_whole 25 _ _ rfl atCmp _ _ _ RA.row rfl rfl rfl rfl (cm_one (obsCC p v).1 _ _ _ _ _ _) ?_
          refine hK.out _ _ ?_ (fun hHeld => ?_)
          · exact ⟨below_row RA.below RA.lo _, cell_row (e_a.cell 0 _ rfl) (by have := RA.lo; have := h_a_6.lt; omega), cell_row (e_a.cell 1 _ rfl) (by have := RA.lo; have := h_a_6.lt; omega), cell_row (e_a.cell 2 _ rfl) (by have := RA.lo; have := h_a_6.lt; omega), cell_row (e_a.cell 3 _ rfl) (by have := RA.lo; have := h_a_6.lt; omega), cell_row (e_a.cell 4 _ rfl) (by have := RA.lo; have := h_a_6.lt; omega), cell_row (e_a.cell 5 _ rfl) (by have := RA.lo; have := h_a_6.lt; omega), cell_row (e_a.cell 6 _ rfl) (by have := RA.lo; have := h_a_6.lt; omega), cell_row (e_a.cell 7 _ rfl) (by have := RA.lo; have := h_a_6.lt; omega), cell_row (e_a.cell 8 _ rfl) (by have := RA.lo; have := h_a_6.lt; omega), cell_row (e_a.cell 9 _ rfl) (by have := RA.lo; have := h_a_6.lt; omega)⟩
          clear hK K
          try simp only [Act.put, List.setIfInBounds_toArray, List.set_cons_zero, List.set_cons_succ]
          refine wpAnyH_take (i := 10) (oi := ?a31_10) (v := ?b31_10) ?c31_10 (by kernel_rfl) (by kernel_rfl) (by kernel_rfl) ?d31_10 ?e31_10 (by assumption) ?f31_10
          case c31_10 => simp only [tA, tS, tZ]; rfl
          case d31_10 => exact fun _ _ _ h => h
          case e31_10 => (refine Or.inl ⟨by rfl, ?_⟩; intro w h; (try dsimp only at h); go_simp; all_goals with_reducible rfl)
          try simp only [Act.put, tI, tP, tQ]
          refine wpAnyH_done (by kernel_rfl) ?_ _
          go_wp2_with fail
          go_meet
          exact ⟨a_b, n_b, c_b, b_b, m_b, d_b, _, rfl, rfl, RA.put _, rd_rowset (y1.below (below_al wq _)) RA.row (cm_noint zeroCV _ _ _ _ _ _) _, rd_rowset (y2.below (below_al wq _)) RA.row (cm_noint zeroCV _ _ _ _ _ _) _⟩
    case kb39_8 =>
      go_simp
      refine hK.out _ _ ?_ (fun hHeld => ?_)
      · exact ⟨(D0.trans ((below_al w6.drew _).mono D0.size)), (e_a.later (below_al w6.drew _)).cell 0 _ rfl, (e_a.later (below_al w6.drew _)).cell 1 _ rfl, (e_a.later (below_al w6.drew _)).cell 2 _ rfl, (e_a.later (below_al w6.drew _)).cell 3 _ rfl, (e_a.later (below_al w6.drew _)).cell 4 _ rfl, (e_a.later (below_al w6.drew _)).cell 5 _ rfl, (e_a.later (below_al w6.drew _)).cell 6 _ rfl, (e_a.later (below_al w6.drew _)).cell 7 _ rfl, (e_a.later (below_al w6.drew _)).cell 8 _ rfl, (e_a.later (below_al w6.drew _)).cell 9 _ rfl⟩
      clear hK K
      try simp only [Act.put, List.setIfInBounds_toArray, List.set_cons_zero, List.set_cons_succ]
      have RA : PRow 25 w6 _ w6.heap.size zcm := (PRow.new 25 w6.drew zcm).rebase hHeld.1 D0.size
      have e_a := e_a.later (below_al w6.drew (.cells zcm 25))
      have e_al := e_al.below (below_al w6.drew (.cells zcm 25))
      have e_ab := e_ab.below (below_al w6.drew (.cells zcm 25))
      have e_vd := e_vd.below (below_al w6.drew (.cells zcm 25))
      refine wpAnyH_ready (rs := [4]) (by kernel_rfl) (by simp) ?_
      refine (AllReadyH.cons (o := ?ob38_4) ?hob38_4 (fun K hK => ?kb38_4) AllReadyH.nil)
      case hob38_4 => simp only [List.getElem?_toArray, List.getElem?_cons_succ, List.getElem?_cons_zero]; rfl
      case kb38_4 =>
        go_simp
        have c := cmObserve_any (w6.drew.alloc (.cells zcm 25)) e_al e_ab PQ e_vd
        rw [TWO.out] at c
        refine c.mono ?_
        rintro e wq ⟨a_b, n_b, c_b, b_b, m_b, d_b, rfl, y1, y2, hq⟩
        clear c
        have D0 := hHeld.1.trans (hq.mono hHeld.1.size)
        have e_a := e_a.later hq
        have e_al := e_al.below hq
        have e_ab := e_ab.below hq
        have e_vd := e_vd.below hq
        go_wp2_with fail
        refine hK.out _ _ ?_ (fun hHeld => ?_)
        · exact ⟨D0, e_a.cell 0 _ rfl, e_a.cell 1 _ rfl, e_a.cell 2 _ rfl, e_a.cell 3 _ rfl, e_a.cell 4 _ rfl, e_a.cell 5 _ rfl, e_a.cell 6 _ rfl, e_a.cell 7 _ rfl, e_a.cell 8 _ rfl, e_a.cell 9 _ rfl⟩
        clear hK K
        try simp only [Act.put, List.setIfInBounds_toArray, List.set_cons_zero, List.set_cons_succ]
        refine wpAnyH_take (i := 5) (oi := ?a35_5) (v := ?b35_5) ?c35_5 (by kernel_rfl) (by kernel_rfl) (by kernel_rfl) ?d35_5 ?e35_5 (by assumption) ?f35_5
        case c35_5 => simp only [tA, tS, tZ]; rfl
        case d35_5 => exact fun _ _ _ h => h
        case e35_5 => (refine Or.inl ⟨by rfl, ?_⟩; intro w h; (try dsimp only at h); go_simp; all_goals with_reducible rfl)
        try simp only [Act.put, tI, tP, tQ]
        refine wpAnyH_take (i := 6) (oi := ?a35_6) (v := ?b35_6) ?c35_6 (by kernel_rfl) (by kernel_rfl) (by kernel_rfl) ?d35_6 ?e35_6 (by assumption) ?f35_6
        case c35_6 => simp only [tA, tS, tZ]; rfl
        case d35_6 => exact fun _ _ _ h => h
        case e35_6 => (refine Or.inl ⟨by rfl, ?_⟩; intro w h; (try dsimp only at h); go_simp; all_goals with_reducible rfl)
        try simp only [Act.put, tI, tP, tQ]
        refine wpAnyH_take (i := 7) (oi := ?a35_7) (v := ?b35_7) ?c35_7 (by kernel_rfl) (by kernel_rfl) (by kernel_rfl) ?d35_7 ?e35_7 (by assumption) ?f35_7
        case c35_7 => simp only [tA, tS, tZ]; rfl
        case d35_7 => exact fun _ _ _ h => h
        case e35_7 => (refine Or.inl ⟨by rfl, ?_⟩; intro w h; (try dsimp only at h); go_simp; all_goals with_reducible rfl)
        try simp only [Act.put, tI, tP, tQ]
        have RA := RA.later hq
        refine wpAnyH_ready (rs := [9]) (by kernel_rfl) (by simp) ?_
        refine (AllReadyH.cons (o := ?ob37_9) ?hob37_9 (fun K hK => ?kb37_9) AllReadyH.nil)
        case hob37_9 => simp only [List.getElem?_toArray, List.getElem?_cons_succ, List.getElem?_cons_zero]; rfl
        case kb37_9 =>
          rw [if_pos (by rfl)]
          refine op_store_whole 25 _ _ rfl atCmp _ _ _ RA.row rfl rfl rfl rfl (cm_one (obsCC p v).1 _ _ _ _ _ _) ?_
          refine hK.out _ _ ?_ (fun hHeld => ?_)
          · exact ⟨below_row RA.below RA.lo _, cell_row (e_a.cell 0 _ rfl) (by have := RA.lo; have := h_a_6.lt; omega), cell_row (e_a.cell 1 _ rfl) (by have := RA.lo; have := h_a_6.lt; omega), cell_row (e_a.cell 2 _ rfl) (by have := RA.lo; have := h_a_6.lt; omega), cell_row (e_a.cell 3 _ rfl) (by have := RA.lo; have := h_a_6.lt; omega), cell_row (e_a.cell 4 _ rfl) (by have := RA.lo; have := h_a_6.lt; omega), cell_row (e_a.cell 5 _ rfl) (by have := RA.lo; have := h_a_6.lt; omega), cell_row (e_a.cell 6 _ rfl) (by have := RA.lo; have := h_a_6.lt; omega), cell_row (e_a.cell 7 _ rfl) (by have := RA.lo; have := h_a_6.lt; omega), cell_row (e_a.cell 8 _ rfl) (by have := RA.lo; have := h_a_6.lt; omega), cell_row (e_a.cell 9 _ rfl) (by have := RA.lo; have := h_a_6.lt; omega)⟩
          clear hK K
          try simp only [Act.put, List.setIfInBounds_toArray, List.set_cons_zero, List.set_cons_succ]
          refine wpAnyH_take (i := 10) (oi := ?a36_10) (v := ?b36_10) ?c36_10 (by kernel_rfl) (by kernel_rfl) (by kernel_rfl) ?d36_10 ?e36_10 (by assumption) ?f36_10
          case c36_10 => simp only [tA, tS, tZ]; rfl
          case d36_10 => exact fun _ _ _ h => h
          case e36_10 => (refine Or.inl ⟨by rfl, ?_⟩; intro w h; (try dsimp only at h); go_simp; all_goals with_reducible rfl)
          try simp only [Act.put, tI, tP, tQ]
          refine wpAnyH_done (by kernel_rfl) ?_ _
          go_wp2_with fail
          go_meet
          exact ⟨a_b, n_b, c_b, b_b, m_b, d_b, _, rfl, rfl, RA.put _, rd_rowset y1 RA.row (cm_noint zeroCV _ _ _ _ _ _) _, rd_rowset y2 RA.row (cm_noint zeroCV _ _ _ _ _ _) _⟩
  case rest =>
  obtain ⟨a_b, n_b, c_b, b_b, m_b, d_b, g_b, rfl, rfl, R_b, h_bl_7, h_bb_7⟩ := hcut
  have hb := R_b.below
  have h_b_7 : Has w6 wc g_b (cmC (obsCC p v).1 a_b n_b c_b b_b m_b d_b) := ⟨R_b.below, fun i v h => R_b.cell i v h, R_b.lt⟩
  clear R_b
  have B7 := B6.trans (hb.mono B6.size)
  have h_pl_7 := h_pl_6.below hb
  have h_pb_7 := h_pb_6.below hb
  have h_v_7 := h_v_6.below hb
  have h_p_7 := h_p_6.later hb
  have h_vt_7 := h_vt_6.below hb
  have h_vd_7 := h_vd_6.below hb
  have h_ll_7 := h_ll_6.below hb
  have h_lb_7 := h_lb_6.below hb
  have h_l_7 := h_l_6.later hb
  have h_a_7 := h_a_6.later hb
  have h_al_7 := h_al_6.below hb
  have h_ab_7 := h_ab_6.below hb
  clear hb B6 h_pl_6 h_pb_6 h_v_6 h_p_6 h_vt_6 h_vd_6 h_ll_6 h_lb_6 h_l_6 h_a_6 h_al_6 h_ab_6
  obtain ⟨w7, hw⟩ : ∃ w, w = wc := ⟨_, rfl⟩
  subst hw
  have BASE := B7
  have SB := Lib.hid (show (inS q.s0 ∧ inS q.s1 ∧ inS q.s2 ∧ inS q.s3 ∧ inS q.s4) ∧ inS p.s0 ∧ inS p.s1 ∧ inS p.s2 ∧ inS p.s3 ∧ inS p.s4 from ⟨⟨V1.out.s0, V1.out.s1, V1.out.s2, V1.out.s3, V1.out.s4⟩, V0.out.s0, V0.out.s1, V0.out.s2, V0.out.s3, V0.out.s4⟩)
  go_wp2_with fail
  go_loopw [13, 14] (fun n i wr => Below w7.heap.size w7 wr ∧ ∃ k : Nat, k ≤ 5 ∧ i = .int .i64 (k : Nat) ∧ n = .int .i64 (difC q p k)) (fun _ i _ => 5 - (intOf i).toNat)
  case atStart => exact ⟨Below.refl _ _, 0, Nat.zero_le _, rfl, rfl⟩
  case round =>
    obtain ⟨BW, k, hk, rfl, rfl⟩ := hrel
    have six : k = 0 ∨ k = 1 ∨ k = 2 ∨ k = 3 ∨ k = 4 ∨ k = 5 := by omega
    clear hk
    rcases six with rfl | rfl | rfl | rfl | rfl | rfl
    · have B100 := BASE.trans (BW.mono BASE.size)
      have h_pl_100 := h_pl_7.below BW
      have h_pb_100 := h_pb_7.below BW
      have h_v_100 := h_v_7.below BW
      have h_p_100 := h_p_7.later BW
      have h_vt_100 := h_vt_7.below BW
      have h_vd_100 := h_vd_7.below BW
      have h_ll_100 := h_ll_7.below BW
      have h_lb_100 := h_lb_7.below BW
      have h_l_100 := h_l_7.later BW
      have h_a_100 := h_a_7.later BW
      have h_al_100 := h_al_7.below BW
      have h_ab_100 := h_ab_7.below BW
      have h_b_100 := h_b_7.later BW
      have h_bl_100 := h_bl_7.below BW
      have h_bb_100 := h_bb_7.below BW
      have h_BW_100 := BW
      clear BW
      go_upto_region 13 with fail
      have hb := (Below.refl wr.heap.size wr).drew
      have B101 := B100.trans (hb.mono B100.size)
      have h_pl_101 := h_pl_100.below hb
      have h_pb_101 := h_pb_100.below hb
      have h_v_101 := h_v_100.below hb
      have h_p_101 := h_p_100.later hb
      have h_vt_101 := h_vt_100.below hb
      have h_vd_101 := h_vd_100.below hb
      have h_ll_101 := h_ll_100.below hb
      have h_lb_101 := h_lb_100.below hb
      have h_l_101 := h_l_100.later hb
      have h_a_101 := h_a_100.later hb
      have h_al_101 := h_al_100.below hb
      have h_ab_101 := h_ab_100.below hb
      have h_b_101 := h_b_100.later hb
      have h_bl_101 := h_bl_100.below hb
      have h_bb_101 := h_bb_100.below hb
      have h_BW_101 := h_BW_100.trans (hb.mono h_BW_100.size)
      clear hb B100 h_pl_100 h_pb_100 h_v_100 h_p_100 h_vt_100 h_vd_100 h_ll_100 h_lb_100 h_l_100 h_a_100 h_al_100 h_ab_100 h_b_100 h_bl_100 h_bb_100 h_BW_100
      refine wp_region_held_drew (S := (fun w' => w'.cell? ⟨g_a, 3, none⟩ = some (.int .i64 (q).s0) ∧ w'.cell? ⟨w.heap.size, 3, none⟩ = some (.int .i64 (p).s0) ∧ True)) (by kernel_rfl) ?_ (fun hHeld => ?_)
      · exact ⟨h_a_101.cell 3 _ rfl, h_p_101.cell 3 _ rfl, trivial⟩
      generalize wr.drew = w101 at *
      refine wpAnyH_take (i := 0) (oi := ?a40_0) (v := ?b40_0) ?c40_0 (by kernel_rfl) (by kernel_rfl) (by kernel_rfl) ?d40_0 ?e40_0 (by assumption) ?f40_0
      case c40_0 => simp only [tA, tS, tZ]; rfl
      case d40_0 => exact fun _ _ _ h => h
      case e40_0 => (refine Or.inl ⟨by rfl, ?_⟩; intro w h; (try dsimp only at h); go_simp; all_goals with_reducible rfl)
      try simp only [Act.put, tI, tP, tQ]
      refine wpAnyH_take (i := 1) (oi := ?a40_1) (v := ?b40_1) ?c40_1 (by kernel_rfl) (by kernel_rfl) (by kernel_rfl) ?d40_1 ?e40_1 (by assumption) ?f40_1
      case c40_1 => simp only [tA, tS, tZ]; rfl
      case d40_1 => exact fun _ _ _ h => h
      case e40_1 => (refine Or.inl ⟨by rfl, ?_⟩; intro w h; (try dsimp only at h); go_simp; all_goals with_reducible rfl)
      try simp only [Act.put, tI, tP, tQ]
      refine wpAnyH_take (i := 2) (oi := ?a40_2) (v := ?b40_2) ?c40_2 (by kernel_rfl) (by kernel_rfl) (by kernel_rfl) ?d40_2 ?e40_2 (by assumption) ?f40_2
      case c40_2 => simp only [tA, tS, tZ]; rfl
      case d40_2 => exact fun _ _ _ h => h
      case e40_2 => (refine Or.inl ⟨by rfl, ?_⟩; intro w h; (try dsimp only at h); go_simp; all_goals with_reducible rfl)
      try simp only [Act.put, tI, tP, tQ]
      refine wpAnyH_take (i := 3) (oi := ?a40_3) (v := ?b40_3) ?c40_3 (by kernel_rfl) (by kernel_rfl) (by kernel_rfl) ?d40_3 ?e40_3 (by assumption) ?f40_3
      case c40_3 => simp only [tA, tS, tZ]; rfl
      case d40_3 => exact fun _ _ _ h => h
      case e40_3 => (refine Or.inl ⟨by rfl, ?_⟩; intro w h; (try dsimp only at h); go_simp; all_goals with_reducible rfl)
      try simp only [Act.put, tI, tP, tQ]
      refine wpAnyH_take (i := 4) (oi := ?a40_4) (v := ?b40_4) ?c40_4 (by kernel_rfl) (by kernel_rfl) (by kernel_rfl) ?d40_4 ?e40_4 (by assumption) ?f40_4
      case c40_4 => simp only [tA, tS, tZ]; rfl
      case d40_4 => exact fun _ _ _ h => h
      case e40_4 => (refine Or.inl ⟨by rfl, ?_⟩; intro w h; (try dsimp only at h); go_simp; all_goals with_reducible rfl)
      try simp only [Act.put, tI, tP, tQ]
      refine wpAnyH_take (i := 5) (oi := ?a40_5) (v := ?b40_5) ?c40_5 (by kernel_rfl) (by kernel_rfl) (by kernel_rfl) ?d40_5 ?e40_5 (by assumption) ?f40_5
      case c40_5 => simp only [tA, tS, tZ]; rfl
      case d40_5 => exact fun _ _ _ h => h
      case e40_5 => (refine Or.inl ⟨by rfl, ?_⟩; intro w h; (try dsimp only at h); go_simp; all_goals with_reducible rfl)
      try simp only [Act.put, tI, tP, tQ]
      refine wpAnyH_take (i := 6) (oi := ?a40_6) (v := ?b40_6) ?c40_6 (by kernel_rfl) (by kernel_rfl) (by kernel_rfl) ?d40_6 ?e40_6 (by assumption) ?f40_6
      case c40_6 => simp only [tA, tS, tZ]; rfl
      case d40_6 => exact fun _ _ _ h => h
      case e40_6 => (refine Or.inl ⟨by rfl, ?_⟩; intro w h; (try dsimp only at h); go_simp; all_goals with_reducible rfl)
      try simp only [Act.put, tI, tP, tQ]
      refine wpAnyH_take (i := 7) (oi := ?a40_7) (v := ?b40_7) ?c40_7 (by kernel_rfl) (by kernel_rfl) (by kernel_rfl) ?d40_7 ?e40_7 (by assumption) ?f40_7
      case c40_7 => simp only [tA, tS, tZ]; rfl
      case d40_7 => exact fun _ _ _ h => h
      case e40_7 => (refine Or.inl ⟨by rfl, ?_⟩; intro w h; (try dsimp only at h); go_simp; all_goals with_reducible rfl)
      try simp only [Act.put, tI, tP, tQ]
      refine wpAnyH_take (i := 8) (oi := ?a40_8) (v := ?b40_8) ?c40_8 (by kernel_rfl) (by kernel_rfl) (by kernel_rfl) ?d40_8 ?e40_8 (by assumption) ?f40_8
      case c40_8 => simp only [tA, tS, tZ]; rfl
      case d40_8 => exact fun _ _ _ h => h
      case e40_8 => (refine Or.inl ⟨by rfl, ?_⟩; intro w h; (try dsimp only at h); go_simp; all_goals with_reducible rfl)
      try simp only [Act.put, tI, tP, tQ]
      refine wpAnyH_take (i := 9) (oi := ?a40_9) (v := ?b40_9) ?c40_9 (by kernel_rfl) (by kernel_rfl) (by kernel_rfl) ?d40_9 ?e40_9 (by assumption) ?f40_9
      case c40_9 => simp only [tA, tS, tZ]; rfl
      case d40_9 => exact fun _ _ _ h => h
      case e40_9 => (refine Or.inl ⟨by rfl, ?_⟩; intro w h; (try dsimp only at h); go_simp; all_goals with_reducible rfl)
      try simp only [Act.put, tI, tP, tQ]
      refine wpAnyH_take (i := 10) (oi := ?a40_10) (v := ?b40_10) ?c40_10 (by kernel_rfl) (by kernel_rfl) (by kernel_rfl) ?d40_10 ?e40_10 (by assumption) ?f40_10
      case c40_10 => simp only [tA, tS, tZ]; rfl
      case d40_10 => exact fun _ _ _ h => h
      case e40_10 => (refine Or.inl ⟨by rfl, ?_⟩; intro w h; (try dsimp only at h); go_simp; all_goals with_reducible rfl)
      try simp only [Act.put, tI, tP, tQ]
      refine wpAnyH_take (i := 11) (oi := ?a40_11) (v := ?b40_11) ?c40_11 (by kernel_rfl) (by kernel_rfl) (by kernel_rfl) ?d40_11 ?e40_11 (by assumption) ?f40_11
      case c40_11 => simp only [tA, tS, tZ]; rfl
      case d40_11 => exact fun _ _ _ h => h
      case e40_11 => (refine Or.inl ⟨by rfl, ?_⟩; intro w h; (try dsimp only at h); go_simp; all_goals with_reducible rfl)
      try simp only [Act.put, tI, tP, tQ]
      refine wpAnyH_done (by kernel_rfl) ?_ _
      clear hHeld
      go_wp2_with fail
      go_roundw
      case rel => exact ⟨h_BW_101, 1, by decide, by go_num, congrArg (Value.int .i64) (by
        have sb := SB.out
        unfold inS at sb
        simp only [difC, IntKind.wrap_i64]
        omega)⟩
      case measure => simp [intOf]
    · have B100 := BASE.trans (BW.mono BASE.size)
      have h_pl_100 := h_pl_7.below BW
      have h_pb_100 := h_pb_7.below BW
      have h_v_100 := h_v_7.below BW
      have h_p_100 := h_p_7.later BW
      have h_vt_100 := h_vt_7.below BW
      have h_vd_100 := h_vd_7.below BW
      have h_ll_100 := h_ll_7.below BW
      have h_lb_100 := h_lb_7.below BW
      have h_l_100 := h_l_7.later BW
      have h_a_100 := h_a_7.later BW
      have h_al_100 := h_al_7.below BW
      have h_ab_100 := h_ab_7.below BW
      have h_b_100 := h_b_7.later BW
      have h_bl_100 := h_bl_7.below BW
      have h_bb_100 := h_bb_7.below BW
      have h_BW_100 := BW
      clear BW
      go_upto_region 13 with fail
      have hb := (Below.refl wr.heap.size wr).drew
      have B101 := B100.trans (hb.mono B100.size)
      have h_pl_101 := h_pl_100.below hb
      have h_pb_101 := h_pb_100.below hb
      have h_v_101 := h_v_100.below hb
      have h_p_101 := h_p_100.later hb
      have h_vt_101 := h_vt_100.below hb
      have h_vd_101 := h_vd_100.below hb
      have h_ll_101 := h_ll_100.below hb
      have h_lb_101 := h_lb_100.below hb
      have h_l_101 := h_l_100.later hb
      have h_a_101 := h_a_100.later hb
      have h_al_101 := h_al_100.below hb
      have h_ab_101 := h_ab_100.below hb
      have h_b_101 := h_b_100.later hb
      have h_bl_101 := h_bl_100.below hb
      have h_bb_101 := h_bb_100.below hb
      have h_BW_101 := h_BW_100.trans (hb.mono h_BW_100.size)
      clear hb B100 h_pl_100 h_pb_100 h_v_100 h_p_100 h_vt_100 h_vd_100 h_ll_100 h_lb_100 h_l_100 h_a_100 h_al_100 h_ab_100 h_b_100 h_bl_100 h_bb_100 h_BW_100
      refine wp_region_held_drew (S := (fun w' => w'.cell? ⟨g_a, 4, none⟩ = some (.int .i64 (q).s1) ∧ w'.cell? ⟨w.heap.size, 4, none⟩ = some (.int .i64 (p).s1) ∧ True)) (by kernel_rfl) ?_ (fun hHeld => ?_)
      · exact ⟨h_a_101.cell 4 _ rfl, h_p_101.cell 4 _ rfl, trivial⟩
      generalize wr.drew = w101 at *
      refine wpAnyH_take (i := 0) (oi := ?a41_0) (v := ?b41_0) ?c41_0 (by kernel_rfl) (by kernel_rfl) (by kernel_rfl) ?d41_0 ?e41_0 (by assumption) ?f41_0
      case c41_0 => simp only [tA, tS, tZ]; rfl
      case d41_0 => exact fun _ _ _ h => h
      case e41_0 => (refine Or.inl ⟨by rfl, ?_⟩; intro w h; (try dsimp only at h); go_simp; all_goals with_reducible rfl)
      try simp only [Act.put, tI, tP, tQ]
      refine wpAnyH_take (i := 1) (oi := ?a41_1) (v := ?b41_1) ?c41_1 (by kernel_rfl) (by kernel_rfl) (by kernel_rfl) ?d41_1 ?e41_1 (by assumption) ?f41_1
      case c41_1 => simp only [tA, tS, tZ]; rfl
      case d41_1 => exact fun _ _ _ h => h
      case e41_1 => (refine Or.inl ⟨by rfl, ?_⟩; intro w h; (try dsimp only at h); go_simp; all_goals with_reducible rfl)
      try simp only [Act.put, tI, tP, tQ]
      refine wpAnyH_take (i := 2) (oi := ?a41_2) (v := ?b41_2) ?c41_2 (by kernel_rfl) (by kernel_rfl) (by kernel_rfl) ?d41_2 ?e41_2 (by assumption) ?f41_2
      case c41_2 => simp only [tA, tS, tZ]; rfl
      case d41_2 => exact fun _ _ _ h => h
      case e41_2 => (refine Or.inl ⟨by rfl, ?_⟩; intro w h; (try dsimp only at h); go_simp; all_goals with_reducible rfl)
      try simp only [Act.put, tI, tP, tQ]
      refine wpAnyH_take (i := 3) (oi := ?a41_3) (v := ?b41_3) ?c41_3 (by kernel_rfl) (by kernel_rfl) (by kernel_rfl) ?d41_3 ?e41_3 (by assumption) ?f41_3
      case c41_3 => simp only [tA, tS, tZ]; rfl
      case d41_3 => exact fun _ _ _ h => h
      case e41_3 => (refine Or.inl ⟨by rfl, ?_⟩; intro w h; (try dsimp only at h); go_simp; all_goals with_reducible rfl)
      try simp only [Act.put, tI, tP, tQ]
      refine wpAnyH_take (i := 4) (oi := ?a41_4) (v := ?b41_4) ?c41_4 (by kernel_rfl) (by kernel_rfl) (by kernel_rfl) ?d41_4 ?e41_4 (by assumption) ?f41_4
      case c41_4 => simp only [tA, tS, tZ]; rfl
      case d41_4 => exact fun _ _ _ h => h
      case e41_4 => (refine Or.inl ⟨by rfl, ?_⟩; intro w h; (try dsimp only at h); go_simp; all_goals with_reducible rfl)
      try simp only [Act.put, tI, tP, tQ]
      refine wpAnyH_take (i := 5) (oi := ?a41_5) (v := ?b41_5) ?c41_5 (by kernel_rfl) (by kernel_rfl) (by kernel_rfl) ?d41_5 ?e41_5 (by assumption) ?f41_5
      case c41_5 => simp only [tA, tS, tZ]; rfl
      case d41_5 => exact fun _ _ _ h => h
      case e41_5 => (refine Or.inl ⟨by rfl, ?_⟩; intro w h; (try dsimp only at h); go_simp; all_goals with_reducible rfl)
      try simp only [Act.put, tI, tP, tQ]
      refine wpAnyH_take (i := 6) (oi := ?a41_6) (v := ?b41_6) ?c41_6 (by kernel_rfl) (by kernel_rfl) (by kernel_rfl) ?d41_6 ?e41_6 (by assumption) ?f41_6
      case c41_6 => simp only [tA, tS, tZ]; rfl
      case d41_6 => exact fun _ _ _ h => h
      case e41_6 => (refine Or.inl ⟨by rfl, ?_⟩; intro w h; (try dsimp only at h); go_simp; all_goals with_reducible rfl)
      try simp only [Act.put, tI, tP, tQ]
      refine wpAnyH_take (i := 7) (oi := ?a41_7) (v := ?b41_7) ?c41_7 (by kernel_rfl) (by kernel_rfl) (by kernel_rfl) ?d41_7 ?e41_7 (by assumption) ?f41_7
      case c41_7 => simp only [tA, tS, tZ]; rfl
      case d41_7 => exact fun _ _ _ h => h
      case e41_7 => (refine Or.inl ⟨by rfl, ?_⟩; intro w h; (try dsimp only at h); go_simp; all_goals with_reducible rfl)
      try simp only [Act.put, tI, tP, tQ]
      refine wpAnyH_take (i := 8) (oi := ?a41_8) (v := ?b41_8) ?c41_8 (by kernel_rfl) (by kernel_rfl) (by kernel_rfl) ?d41_8 ?e41_8 (by assumption) ?f41_8
      case c41_8 => simp only [tA, tS, tZ]; rfl
      case d41_8 => exact fun _ _ _ h => h
      case e41_8 => (refine Or.inl ⟨by rfl, ?_⟩; intro w h; (try dsimp only at h); go_simp; all_goals with_reducible rfl)
      try simp only [Act.put, tI, tP, tQ]
      refine wpAnyH_take (i := 9) (oi := ?a41_9) (v := ?b41_9) ?c41_9 (by kernel_rfl) (by kernel_rfl) (by kernel_rfl) ?d41_9 ?e41_9 (by assumption) ?f41_9
      case c41_9 => simp only [tA, tS, tZ]; rfl
      case d41_9 => exact fun _ _ _ h => h
      case e41_9 => (refine Or.inl ⟨by rfl, ?_⟩; intro w h; (try dsimp only at h); go_simp; all_goals with_reducible rfl)
      try simp only [Act.put, tI, tP, tQ]
      refine wpAnyH_take (i := 10) (oi := ?a41_10) (v := ?b41_10) ?c41_10 (by kernel_rfl) (by kernel_rfl) (by kernel_rfl) ?d41_10 ?e41_10 (by assumption) ?f41_10
      case c41_10 => simp only [tA, tS, tZ]; rfl
      case d41_10 => exact fun _ _ _ h => h
      case e41_10 => (refine Or.inl ⟨by rfl, ?_⟩; intro w h; (try dsimp only at h); go_simp; all_goals with_reducible rfl)
      try simp only [Act.put, tI, tP, tQ]
      refine wpAnyH_take (i := 11) (oi := ?a41_11) (v := ?b41_11) ?c41_11 (by kernel_rfl) (by kernel_rfl) (by kernel_rfl) ?d41_11 ?e41_11 (by assumption) ?f41_11
      case c41_11 => simp only [tA, tS, tZ]; rfl
      case d41_11 => exact fun _ _ _ h => h
      case e41_11 => (refine Or.inl ⟨by rfl, ?_⟩; intro w h; (try dsimp only at h); go_simp; all_goals with_reducible rfl)
      try simp only [Act.put, tI, tP, tQ]
      refine wpAnyH_done (by kernel_rfl) ?_ _
      clear hHeld
      go_wp2_with fail
      go_roundw
      case rel => exact ⟨h_BW_101, 2, by decide, by go_num, congrArg (Value.int .i64) (by
        have sb := SB.out
        unfold inS at sb
        simp only [difC, IntKind.wrap_i64]
        omega)⟩
      case measure => simp [intOf]
    · have B100 := BASE.trans (BW.mono BASE.size)
      have h_pl_100 := h_pl_7.below BW
      have h_pb_100 := h_pb_7.below BW
      have h_v_100 := h_v_7.below BW
      have h_p_100 := h_p_7.later BW
      have h_vt_100 := h_vt_7.below BW
      have h_vd_100 := h_vd_7.below BW
      have h_ll_100 := h_ll_7.below BW
      have h_lb_100 := h_lb_7.below BW
      have h_l_100 := h_l_7.later BW
      have h_a_100 := h_a_7.later BW
      have h_al_100 := h_al_7.below BW
      have h_ab_100 := h_ab_7.below BW
      have h_b_100 := h_b_7.later BW
      have h_bl_100 := h_bl_7.below BW
      have h_bb_100 := h_bb_7.below BW
      have h_BW_100 := BW
      clear BW
      go_upto_region 13 with fail
      have hb := (Below.refl wr.heap.size wr).drew
      have B101 := B100.trans (hb.mono B100.size)
      have h_pl_101 := h_pl_100.below hb
      have h_pb_101 := h_pb_100.below hb
      have h_v_101 := h_v_100.below hb
      have h_p_101 := h_p_100.later hb
      have h_vt_101 := h_vt_100.below hb
      have h_vd_101 := h_vd_100.below hb
      have h_ll_101 := h_ll_100.below hb
      have h_lb_101 := h_lb_100.below hb
      have h_l_101 := h_l_100.later hb
      have h_a_101 := h_a_100.later hb
      have h_al_101 := h_al_100.below hb
      have h_ab_101 := h_ab_100.below hb
      have h_b_101 := h_b_100.later hb
      have h_bl_101 := h_bl_100.below hb
      have h_bb_101 := h_bb_100.below hb
      have h_BW_101 := h_BW_100.trans (hb.mono h_BW_100.size)
      clear hb B100 h_pl_100 h_pb_100 h_v_100 h_p_100 h_vt_100 h_vd_100 h_ll_100 h_lb_100 h_l_100 h_a_100 h_al_100 h_ab_100 h_b_100 h_bl_100 h_bb_100 h_BW_100
      refine wp_region_held_drew (S := (fun w' => w'.cell? ⟨g_a, 5, none⟩ = some (.int .i64 (q).s2) ∧ w'.cell? ⟨w.heap.size, 5, none⟩ = some (.int .i64 (p).s2) ∧ True)) (by kernel_rfl) ?_ (fun hHeld => ?_)
      · exact ⟨h_a_101.cell 5 _ rfl, h_p_101.cell 5 _ rfl, trivial⟩
      generalize wr.drew = w101 at *
      refine wpAnyH_take (i := 0) (oi := ?a42_0) (v := ?b42_0) ?c42_0 (by kernel_rfl) (by kernel_rfl) (by kernel_rfl) ?d42_0 ?e42_0 (by assumption) ?f42_0
      case c42_0 => simp only [tA, tS, tZ]; rfl
      case d42_0 => exact fun _ _ _ h => h
      case e42_0 => (refine Or.inl ⟨by rfl, ?_⟩; intro w h; (try dsimp only at h); go_simp; all_goals with_reducible rfl)
      try simp only [Act.put, tI, tP, tQ]
      refine wpAnyH_take (i := 1) (oi := ?a42_1) (v := ?b42_1) ?c42_1 (by kernel_rfl) (by kernel_rfl) (by kernel_rfl) ?d42_1 ?e42_1 (by assumption) ?f42_1
      case c42_1 => simp only [tA, tS, tZ]; rfl
      case d42_1 => exact fun _ _ _ h => h
      case e42_1 => (refine Or.inl ⟨by rfl, ?_⟩; intro w h; (try dsimp only at h); go_simp; all_goals with_reducible rfl)
      try simp only [Act.put, tI, tP, tQ]
      refine wpAnyH_take (i := 2) (oi := ?a42_2) (v := ?b42_2) ?c42_2 (by kernel_rfl) (by kernel_rfl) (by kernel_rfl) ?d42_2 ?e42_2 (by assumption) ?f42_2
      case c42_2 => simp only [tA, tS, tZ]; rfl
      case d42_2 => exact fun _ _ _ h => h
      case e42_2 => (refine Or.inl ⟨by rfl, ?_⟩; intro w h; (try dsimp only at h); go_simp; all_goals with_reducible rfl)
      try simp only [Act.put, tI, tP, tQ]
      refine wpAnyH_take (i := 3) (oi := ?a42_3) (v := ?b42_3) ?c42_3 (by kernel_rfl) (by kernel_rfl) (by kernel_rfl) ?d42_3 ?e42_3 (by assumption) ?f42_3
      case c42_3 => simp only [tA, tS, tZ]; rfl
      case d42_3 => exact fun _ _ _ h => h
      case e42_3 => (refine Or.inl ⟨by rfl, ?_⟩; intro w h; (try dsimp only at h); go_simp; all_goals with_reducible rfl)
      try simp only [Act.put, tI, tP, tQ]
      refine wpAnyH_take (i := 4) (oi := ?a42_4) (v := ?b42_4) ?c42_4 (by kernel_rfl) (by kernel_rfl) (by kernel_rfl) ?d42_4 ?e42_4 (by assumption) ?f42_4
      case c42_4 => simp only [tA, tS, tZ]; rfl
      case d42_4 => exact fun _ _ _ h => h
      case e42_4 => (refine Or.inl ⟨by rfl, ?_⟩; intro w h; (try dsimp only at h); go_simp; all_goals with_reducible rfl)
      try simp only [Act.put, tI, tP, tQ]
      refine wpAnyH_take (i := 5) (oi := ?a42_5) (v := ?b42_5) ?c42_5 (by kernel_rfl) (by kernel_rfl) (by kernel_rfl) ?d42_5 ?e42_5 (by assumption) ?f42_5
      case c42_5 => simp only [tA, tS, tZ]; rfl
      case d42_5 => exact fun _ _ _ h => h
      case e42_5 => (refine Or.inl ⟨by rfl, ?_⟩; intro w h; (try dsimp only at h); go_simp; all_goals with_reducible rfl)
      try simp only [Act.put, tI, tP, tQ]
      refine wpAnyH_take (i := 6) (oi := ?a42_6) (v := ?b42_6) ?c42_6 (by kernel_rfl) (by kernel_rfl) (by kernel_rfl) ?d42_6 ?e42_6 (by assumption) ?f42_6
      case c42_6 => simp only [tA, tS, tZ]; rfl
      case d42_6 => exact fun _ _ _ h => h
      case e42_6 => (refine Or.inl ⟨by rfl, ?_⟩; intro w h; (try dsimp only at h); go_simp; all_goals with_reducible rfl)
      try simp only [Act.put, tI, tP, tQ]
      refine wpAnyH_take (i := 7) (oi := ?a42_7) (v := ?b42_7) ?c42_7 (by kernel_rfl) (by kernel_rfl) (by kernel_rfl) ?d42_7 ?e42_7 (by assumption) ?f42_7
      case c42_7 => simp only [tA, tS, tZ]; rfl
      case d42_7 => exact fun _ _ _ h => h
      case e42_7 => (refine Or.inl ⟨by rfl, ?_⟩; intro w h; (try dsimp only at h); go_simp; all_goals with_reducible rfl)
      try simp only [Act.put, tI, tP, tQ]
      refine wpAnyH_take (i := 8) (oi := ?a42_8) (v := ?b42_8) ?c42_8 (by kernel_rfl) (by kernel_rfl) (by kernel_rfl) ?d42_8 ?e42_8 (by assumption) ?f42_8
      case c42_8 => simp only [tA, tS, tZ]; rfl
      case d42_8 => exact fun _ _ _ h => h
      case e42_8 => (refine Or.inl ⟨by rfl, ?_⟩; intro w h; (try dsimp only at h); go_simp; all_goals with_reducible rfl)
      try simp only [Act.put, tI, tP, tQ]
      refine wpAnyH_take (i := 9) (oi := ?a42_9) (v := ?b42_9) ?c42_9 (by kernel_rfl) (by kernel_rfl) (by kernel_rfl) ?d42_9 ?e42_9 (by assumption) ?f42_9
      case c42_9 => simp only [tA, tS, tZ]; rfl
      case d42_9 => exact fun _ _ _ h => h
      case e42_9 => (refine Or.inl ⟨by rfl, ?_⟩; intro w h; (try dsimp only at h); go_simp; all_goals with_reducible rfl)
      try simp only [Act.put, tI, tP, tQ]
      refine wpAnyH_take (i := 10) (oi := ?a42_10) (v := ?b42_10) ?c42_10 (by kernel_rfl) (by kernel_rfl) (by kernel_rfl) ?d42_10 ?e42_10 (by assumption) ?f42_10
      case c42_10 => simp only [tA, tS, tZ]; rfl
      case d42_10 => exact fun _ _ _ h => h
      case e42_10 => (refine Or.inl ⟨by rfl, ?_⟩; intro w h; (try dsimp only at h); go_simp; all_goals with_reducible rfl)
      try simp only [Act.put, tI, tP, tQ]
      refine wpAnyH_take (i := 11) (oi := ?a42_11) (v := ?b42_11) ?c42_11 (by kernel_rfl) (by kernel_rfl) (by kernel_rfl) ?d42_11 ?e42_11 (by assumption) ?f42_11
      case c42_11 => simp only [tA, tS, tZ]; rfl
      case d42_11 => exact fun _ _ _ h => h
      case e42_11 => (refine Or.inl ⟨by rfl, ?_⟩; intro w h; (try dsimp only at h); go_simp; all_goals with_reducible rfl)
      try simp only [Act.put, tI, tP, tQ]
      refine wpAnyH_done (by kernel_rfl) ?_ _
      clear hHeld
      go_wp2_with fail
      go_roundw
      case rel => exact ⟨h_BW_101, 3, by decide, by go_num, congrArg (Value.int .i64) (by
        have sb := SB.out
        unfold inS at sb
        simp only [difC, IntKind.wrap_i64]
        omega)⟩
      case measure => simp [intOf]
    · have B100 := BASE.trans (BW.mono BASE.size)
      have h_pl_100 := h_pl_7.below BW
      have h_pb_100 := h_pb_7.below BW
      have h_v_100 := h_v_7.below BW
      have h_p_100 := h_p_7.later BW
      have h_vt_100 := h_vt_7.below BW
      have h_vd_100 := h_vd_7.below BW
      have h_ll_100 := h_ll_7.below BW
      have h_lb_100 := h_lb_7.below BW
      have h_l_100 := h_l_7.later BW
      have h_a_100 := h_a_7.later BW
      have h_al_100 := h_al_7.below BW
      have h_ab_100 := h_ab_7.below BW
      have h_b_100 := h_b_7.later BW
      have h_bl_100 := h_bl_7.below BW
      have h_bb_100 := h_bb_7.below BW
      have h_BW_100 := BW
      clear BW
      go_upto_region 13 with fail
      have hb := (Below.refl wr.heap.size wr).drew
      have B101 := B100.trans (hb.mono B100.size)
      have h_pl_101 := h_pl_100.below hb
      have h_pb_101 := h_pb_100.below hb
      have h_v_101 := h_v_100.below hb
      have h_p_101 := h_p_100.later hb
      have h_vt_101 := h_vt_100.below hb
      have h_vd_101 := h_vd_100.below hb
      have h_ll_101 := h_ll_100.below hb
      have h_lb_101 := h_lb_100.below hb
      have h_l_101 := h_l_100.later hb
      have h_a_101 := h_a_100.later hb
      have h_al_101 := h_al_100.below hb
      have h_ab_101 := h_ab_100.below hb
      have h_b_101 := h_b_100.later hb
      have h_bl_101 := h_bl_100.below hb
      have h_bb_101 := h_bb_100.below hb
      have h_BW_101 := h_BW_100.trans (hb.mono h_BW_100.size)
      clear hb B100 h_pl_100 h_pb_100 h_v_100 h_p_100 h_vt_100 h_vd_100 h_ll_100 h_lb_100 h_l_100 h_a_100 h_al_100 h_ab_100 h_b_100 h_bl_100 h_bb_100 h_BW_100
      refine wp_region_held_drew (S := (fun w' => w'.cell? ⟨g_a, 6, none⟩ = some (.int .i64 (q).s3) ∧ w'.cell? ⟨w.heap.size, 6, none⟩ = some (.int .i64 (p).s3) ∧ True)) (by kernel_rfl) ?_ (fun hHeld => ?_)
      · exact ⟨h_a_101.cell 6 _ rfl, h_p_101.cell 6 _ rfl, trivial⟩
      generalize wr.drew = w101 at *
      refine wpAnyH_take (i := 0) (oi := ?a43_0) (v := ?b43_0) ?c43_0 (by kernel_rfl) (by kernel_rfl) (by kernel_rfl) ?d43_0 ?e43_0 (by assumption) ?f43_0
      case c43_0 => simp only [tA, tS, tZ]; rfl
      case d43_0 => exact fun _ _ _ h => h
      case e43_0 => (refine Or.inl ⟨by rfl, ?_⟩; intro w h; (try dsimp only at h); go_simp; all_goals with_reducible rfl)
      try simp only [Act.put, tI, tP, tQ]
      refine wpAnyH_take (i := 1) (oi := ?a43_1) (v := ?b43_1) ?c43_1 (by kernel_rfl) (by kernel_rfl) (by kernel_rfl) ?d43_1 ?e43_1 (by assumption) ?f43_1
      case c43_1 => simp only [tA, tS, tZ]; rfl
      case d43_1 => exact fun _ _ _ h => h
      case e43_1 => (refine Or.inl ⟨by rfl, ?_⟩; intro w h; (try dsimp only at h); go_simp; all_goals with_reducible rfl)
      try simp only [Act.put, tI, tP, tQ]
      refine wpAnyH_take (i := 2) (oi := ?a43_2) (v := ?b43_2) ?c43_2 (by kernel_rfl) (by kernel_rfl) (by kernel_rfl) ?d43_2 ?e43_2 (by assumption) ?f43_2
      case c43_2 => simp only [tA, tS, tZ]; rfl
      case d43_2 => exact fun _ _ _ h => h
      case e43_2 => (refine Or.inl ⟨by rfl, ?_⟩; intro w h; (try dsimp only at h); go_simp; all_goals with_reducible rfl)
      try simp only [Act.put, tI, tP, tQ]
      refine wpAnyH_take (i := 3) (oi := ?a43_3) (v := ?b43_3) ?c43_3 (by kernel_rfl) (by kernel_rfl) (by kernel_rfl) ?d43_3 ?e43_3 (by assumption) ?f43_3
      case c43_3 => simp only [tA, tS, tZ]; rfl
      case d43_3 => exact fun _ _ _ h => h
      case e43_3 => (refine Or.inl ⟨by rfl, ?_⟩; intro w h; (try dsimp only at h); go_simp; all_goals with_reducible rfl)
      try simp only [Act.put, tI, tP, tQ]
      refine wpAnyH_take (i := 4) (oi := ?a43_4) (v := ?b43_4) ?c43_4 (by kernel_rfl) (by kernel_rfl) (by kernel_rfl) ?d43_4 ?e43_4 (by assumption) ?f43_4
      case c43_4 => simp only [tA, tS, tZ]; rfl
      case d43_4 => exact fun _ _ _ h => h
      case e43_4 => (refine Or.inl ⟨by rfl, ?_⟩; intro w h; (try dsimp only at h); go_simp; all_goals with_reducible rfl)
      try simp only [Act.put, tI, tP, tQ]
      refine wpAnyH_take (i := 5) (oi := ?a43_5) (v := ?b43_5) ?c43_5 (by kernel_rfl) (by kernel_rfl) (by kernel_rfl) ?d43_5 ?e43_5 (by assumption) ?f43_5
      case c43_5 => simp only [tA, tS, tZ]; rfl
      case d43_5 => exact fun _ _ _ h => h
      case e43_5 => (refine Or.inl ⟨by rfl, ?_⟩; intro w h; (try dsimp only at h); go_simp; all_goals with_reducible rfl)
      try simp only [Act.put, tI, tP, tQ]
      refine wpAnyH_take (i := 6) (oi := ?a43_6) (v := ?b43_6) ?c43_6 (by kernel_rfl) (by kernel_rfl) (by kernel_rfl) ?d43_6 ?e43_6 (by assumption) ?f43_6
      case c43_6 => simp only [tA, tS, tZ]; rfl
      case d43_6 => exact fun _ _ _ h => h
      case e43_6 => (refine Or.inl ⟨by rfl, ?_⟩; intro w h; (try dsimp only at h); go_simp; all_goals with_reducible rfl)
      try simp only [Act.put, tI, tP, tQ]
      refine wpAnyH_take (i := 7) (oi := ?a43_7) (v := ?b43_7) ?c43_7 (by kernel_rfl) (by kernel_rfl) (by kernel_rfl) ?d43_7 ?e43_7 (by assumption) ?f43_7
      case c43_7 => simp only [tA, tS, tZ]; rfl
      case d43_7 => exact fun _ _ _ h => h
      case e43_7 => (refine Or.inl ⟨by rfl, ?_⟩; intro w h; (try dsimp only at h); go_simp; all_goals with_reducible rfl)
      try simp only [Act.put, tI, tP, tQ]
      refine wpAnyH_take (i := 8) (oi := ?a43_8) (v := ?b43_8) ?c43_8 (by kernel_rfl) (by kernel_rfl) (by kernel_rfl) ?d43_8 ?e43_8 (by assumption) ?f43_8
      case c43_8 => simp only [tA, tS, tZ]; rfl
      case d43_8 => exact fun _ _ _ h => h
      case e43_8 => (refine Or.inl ⟨by rfl, ?_⟩; intro w h; (try dsimp only at h); go_simp; all_goals with_reducible rfl)
      try simp only [Act.put, tI, tP, tQ]
      refine wpAnyH_take (i := 9) (oi := ?a43_9) (v := ?b43_9) ?c43_9 (by kernel_rfl) (by kernel_rfl) (by kernel_rfl) ?d43_9 ?e43_9 (by assumption) ?f43_9
      case c43_9 => simp only [tA, tS, tZ]; rfl
      case d43_9 => exact fun _ _ _ h => h
      case e43_9 => (refine Or.inl ⟨by rfl, ?_⟩; intro w h; (try dsimp only at h); go_simp; all_goals with_reducible rfl)
      try simp only [Act.put, tI, tP, tQ]
      refine wpAnyH_take (i := 10) (oi := ?a43_10) (v := ?b43_10) ?c43_10 (by kernel_rfl) (by kernel_rfl) (by kernel_rfl) ?d43_10 ?e43_10 (by assumption) ?f43_10
      case c43_10 => simp only [tA, tS, tZ]; rfl
      case d43_10 => exact fun _ _ _ h => h
      case e43_10 => (refine Or.inl ⟨by rfl, ?_⟩; intro w h; (try dsimp only at h); go_simp; all_goals with_reducible rfl)
      try simp only [Act.put, tI, tP, tQ]
      refine wpAnyH_take (i := 11) (oi := ?a43_11) (v := ?b43_11) ?c43_11 (by kernel_rfl) (by kernel_rfl) (by kernel_rfl) ?d43_11 ?e43_11 (by assumption) ?f43_11
      case c43_11 => simp only [tA, tS, tZ]; rfl
      case d43_11 => exact fun _ _ _ h => h
      case e43_11 => (refine Or.inl ⟨by rfl, ?_⟩; intro w h; (try dsimp only at h); go_simp; all_goals with_reducible rfl)
      try simp only [Act.put, tI, tP, tQ]
      refine wpAnyH_done (by kernel_rfl) ?_ _
      clear hHeld
      go_wp2_with fail
      go_roundw
      case rel => exact ⟨h_BW_101, 4, by decide, by go_num, congrArg (Value.int .i64) (by
        have sb := SB.out
        unfold inS at sb
        simp only [difC, IntKind.wrap_i64]
        omega)⟩
      case measure => simp [intOf]
    · have B100 := BASE.trans (BW.mono BASE.size)
      have h_pl_100 := h_pl_7.below BW
      have h_pb_100 := h_pb_7.below BW
      have h_v_100 := h_v_7.below BW
      have h_p_100 := h_p_7.later BW
      have h_vt_100 := h_vt_7.below BW
      have h_vd_100 := h_vd_7.below BW
      have h_ll_100 := h_ll_7.below BW
      have h_lb_100 := h_lb_7.below BW
      have h_l_100 := h_l_7.later BW
      have h_a_100 := h_a_7.later BW
      have h_al_100 := h_al_7.below BW
      have h_ab_100 := h_ab_7.below BW
      have h_b_100 := h_b_7.later BW
      have h_bl_100 := h_bl_7.below BW
      have h_bb_100 := h_bb_7.below BW
      have h_BW_100 := BW
      clear BW
      go_upto_region 13 with fail
      have hb := (Below.refl wr.heap.size wr).drew
      have B101 := B100.trans (hb.mono B100.size)
      have h_pl_101 := h_pl_100.below hb
      have h_pb_101 := h_pb_100.below hb
      have h_v_101 := h_v_100.below hb
      have h_p_101 := h_p_100.later hb
      have h_vt_101 := h_vt_100.below hb
      have h_vd_101 := h_vd_100.below hb
      have h_ll_101 := h_ll_100.below hb
      have h_lb_101 := h_lb_100.below hb
      have h_l_101 := h_l_100.later hb
      have h_a_101 := h_a_100.later hb
      have h_al_101 := h_al_100.below hb
      have h_ab_101 := h_ab_100.below hb
      have h_b_101 := h_b_100.later hb
      have h_bl_101 := h_bl_100.below hb
      have h_bb_101 := h_bb_100.below hb
      have h_BW_101 := h_BW_100.trans (hb.mono h_BW_100.size)
      clear hb B100 h_pl_100 h_pb_100 h_v_100 h_p_100 h_vt_100 h_vd_100 h_ll_100 h_lb_100 h_l_100 h_a_100 h_al_100 h_ab_100 h_b_100 h_bl_100 h_bb_100 h_BW_100
      refine wp_region_held_drew (S := (fun w' => w'.cell? ⟨g_a, 7, none⟩ = some (.int .i64 (q).s4) ∧ w'.cell? ⟨w.heap.size, 7, none⟩ = some (.int .i64 (p).s4) ∧ True)) (by kernel_rfl) ?_ (fun hHeld => ?_)
      · exact ⟨h_a_101.cell 7 _ rfl, h_p_101.cell 7 _ rfl, trivial⟩
      generalize wr.drew = w101 at *
      refine wpAnyH_take (i := 0) (oi := ?a44_0) (v := ?b44_0) ?c44_0 (by kernel_rfl) (by kernel_rfl) (by kernel_rfl) ?d44_0 ?e44_0 (by assumption) ?f44_0
      case c44_0 => simp only [tA, tS, tZ]; rfl
      case d44_0 => exact fun _ _ _ h => h
      case e44_0 => (refine Or.inl ⟨by rfl, ?_⟩; intro w h; (try dsimp only at h); go_simp; all_goals with_reducible rfl)
      try simp only [Act.put, tI, tP, tQ]
      refine wpAnyH_take (i := 1) (oi := ?a44_1) (v := ?b44_1) ?c44_1 (by kernel_rfl) (by kernel_rfl) (by kernel_rfl) ?d44_1 ?e44_1 (by assumption) ?f44_1
      case c44_1 => simp only [tA, tS, tZ]; rfl
      case d44_1 => exact fun _ _ _ h => h
      case e44_1 => (refine Or.inl ⟨by rfl, ?_⟩; intro w h; (try dsimp only at h); go_simp; all_goals with_reducible rfl)
      try simp only [Act.put, tI, tP, tQ]
      refine wpAnyH_take (i := 2) (oi := ?a44_2) (v := ?b44_2) ?c44_2 (by kernel_rfl) (by kernel_rfl) (by kernel_rfl) ?d44_2 ?e44_2 (by assumption) ?f44_2
      case c44_2 => simp only [tA, tS, tZ]; rfl
      case d44_2 => exact fun _ _ _ h => h
      case e44_2 => (refine Or.inl ⟨by rfl, ?_⟩; intro w h; (try dsimp only at h); go_simp; all_goals with_reducible rfl)
      try simp only [Act.put, tI, tP, tQ]
      refine wpAnyH_take (i := 3) (oi := ?a44_3) (v := ?b44_3) ?c44_3 (by kernel_rfl) (by kernel_rfl) (by kernel_rfl) ?d44_3 ?e44_3 (by assumption) ?f44_3
      case c44_3 => simp only [tA, tS, tZ]; rfl
      case d44_3 => exact fun _ _ _ h => h
      case e44_3 => (refine Or.inl ⟨by rfl, ?_⟩; intro w h; (try dsimp only at h); go_simp; all_goals with_reducible rfl)
      try simp only [Act.put, tI, tP, tQ]
      refine wpAnyH_take (i := 4) (oi := ?a44_4) (v := ?b44_4) ?c44_4 (by kernel_rfl) (by kernel_rfl) (by kernel_rfl) ?d44_4 ?e44_4 (by assumption) ?f44_4
      case c44_4 => simp only [tA, tS, tZ]; rfl
      case d44_4 => exact fun _ _ _ h => h
      case e44_4 => (refine Or.inl ⟨by rfl, ?_⟩; intro w h; (try dsimp only at h); go_simp; all_goals with_reducible rfl)
      try simp only [Act.put, tI, tP, tQ]
      refine wpAnyH_take (i := 5) (oi := ?a44_5) (v := ?b44_5) ?c44_5 (by kernel_rfl) (by kernel_rfl) (by kernel_rfl) ?d44_5 ?e44_5 (by assumption) ?f44_5
      case c44_5 => simp only [tA, tS, tZ]; rfl
      case d44_5 => exact fun _ _ _ h => h
      case e44_5 => (refine Or.inl ⟨by rfl, ?_⟩; intro w h; (try dsimp only at h); go_simp; all_goals with_reducible rfl)
      try simp only [Act.put, tI, tP, tQ]
      refine wpAnyH_take (i := 6) (oi := ?a44_6) (v := ?b44_6) ?c44_6 (by kernel_rfl) (by kernel_rfl) (by kernel_rfl) ?d44_6 ?e44_6 (by assumption) ?f44_6
      case c44_6 => simp only [tA, tS, tZ]; rfl
      case d44_6 => exact fun _ _ _ h => h
      case e44_6 => (refine Or.inl ⟨by rfl, ?_⟩; intro w h; (try dsimp only at h); go_simp; all_goals with_reducible rfl)
      try simp only [Act.put, tI, tP, tQ]
      refine wpAnyH_take (i := 7) (oi := ?a44_7) (v := ?b44_7) ?c44_7 (by kernel_rfl) (by kernel_rfl) (by kernel_rfl) ?d44_7 ?e44_7 (by assumption) ?f44_7
      case c44_7 => simp only [tA, tS, tZ]; rfl
      case d44_7 => exact fun _ _ _ h => h
      case e44_7 => (refine Or.inl ⟨by rfl, ?_⟩; intro w h; (try dsimp only at h); go_simp; all_goals with_reducible rfl)
      try simp only [Act.put, tI, tP, tQ]
      refine wpAnyH_take (i := 8) (oi := ?a44_8) (v := ?b44_8) ?c44_8 (by kernel_rfl) (by kernel_rfl) (by kernel_rfl) ?d44_8 ?e44_8 (by assumption) ?f44_8
      case c44_8 => simp only [tA, tS, tZ]; rfl
      case d44_8 => exact fun _ _ _ h => h
      case e44_8 => (refine Or.inl ⟨by rfl, ?_⟩; intro w h; (try dsimp only at h); go_simp; all_goals with_reducible rfl)
      try simp only [Act.put, tI, tP, tQ]
      refine wpAnyH_take (i := 9) (oi := ?a44_9) (v := ?b44_9) ?c44_9 (by kernel_rfl) (by kernel_rfl) (by kernel_rfl) ?d44_9 ?e44_9 (by assumption) ?f44_9
      case c44_9 => simp only [tA, tS, tZ]; rfl
      case d44_9 => exact fun _ _ _ h => h
      case e44_9 => (refine Or.inl ⟨by rfl, ?_⟩; intro w h; (try dsimp only at h); go_simp; all_goals with_reducible rfl)
      try simp only [Act.put, tI, tP, tQ]
      refine wpAnyH_take (i := 10) (oi := ?a44_10) (v := ?b44_10) ?c44_10 (by kernel_rfl) (by kernel_rfl) (by kernel_rfl) ?d44_10 ?e44_10 (by assumption) ?f44_10
      case c44_10 => simp only [tA, tS, tZ]; rfl
      case d44_10 => exact fun _ _ _ h => h
      case e44_10 => (refine Or.inl ⟨by rfl, ?_⟩; intro w h; (try dsimp only at h); go_simp; all_goals with_reducible rfl)
      try simp only [Act.put, tI, tP, tQ]
      refine wpAnyH_take (i := 11) (oi := ?a44_11) (v := ?b44_11) ?c44_11 (by kernel_rfl) (by kernel_rfl) (by kernel_rfl) ?d44_11 ?e44_11 (by assumption) ?f44_11
      case c44_11 => simp only [tA, tS, tZ]; rfl
      case d44_11 => exact fun _ _ _ h => h
      case e44_11 => (refine Or.inl ⟨by rfl, ?_⟩; intro w h; (try dsimp only at h); go_simp; all_goals with_reducible rfl)
      try simp only [Act.put, tI, tP, tQ]
      refine wpAnyH_done (by kernel_rfl) ?_ _
      clear hHeld
      go_wp2_with fail
      go_roundw
      case rel => exact ⟨h_BW_101, 5, by decide, by go_num, congrArg (Value.int .i64) (by
        have sb := SB.out
        unfold inS at sb
        simp only [difC, IntKind.wrap_i64]
        omega)⟩
      case measure => simp [intOf]
    · have B100 := BASE.trans (BW.mono BASE.size)
      have h_pl_100 := h_pl_7.below BW
      have h_pb_100 := h_pb_7.below BW
      have h_v_100 := h_v_7.below BW
      have h_p_100 := h_p_7.later BW
      have h_vt_100 := h_vt_7.below BW
      have h_vd_100 := h_vd_7.below BW
      have h_ll_100 := h_ll_7.below BW
      have h_lb_100 := h_lb_7.below BW
      have h_l_100 := h_l_7.later BW
      have h_a_100 := h_a_7.later BW
      have h_al_100 := h_al_7.below BW
      have h_ab_100 := h_ab_7.below BW
      have h_b_100 := h_b_7.later BW
      have h_bl_100 := h_bl_7.below BW
      have h_bb_100 := h_bb_7.below BW
      have h_BW_100 := BW
      clear BW
      have nq : (difC q p 5 == (K : Int)) = true := beq_iff_eq.2 (by
        have := SUM.out
        unfold sumC at this
        simp only [difC]
        omega)
      have b0 : (q.bet == p.bet) = true := beq_iff_eq.2 BT.out.1
      have b1 : (q.ballots == p.ballots) = true := beq_iff_eq.2 BT.out.2.1
      have b2 : (q.margin == p.margin) = true := beq_iff_eq.2 BT.out.2.2
      have k_l_0 := h_l_100.cell 0 _ rfl
      have k_l_1 := h_l_100.cell 1 _ rfl
      have k_l_2 := h_l_100.cell 2 _ rfl
      have k_l_3 := h_l_100.cell 3 _ rfl
      have k_l_4 := h_l_100.cell 4 _ rfl
      have k_l_5 := h_l_100.cell 5 _ rfl
      have k_l_6 := h_l_100.cell 6 _ rfl
      have k_l_7 := h_l_100.cell 7 _ rfl
      have k_l_8 := h_l_100.cell 8 _ rfl
      have k_l_9 := h_l_100.cell 9 _ rfl
      have k_b_0 := h_b_100.cell 0 _ rfl
      have k_b_1 := h_b_100.cell 1 _ rfl
      have k_b_2 := h_b_100.cell 2 _ rfl
      have k_b_3 := h_b_100.cell 3 _ rfl
      have k_b_4 := h_b_100.cell 4 _ rfl
      have k_b_5 := h_b_100.cell 5 _ rfl
      have k_b_6 := h_b_100.cell 6 _ rfl
      have k_b_7 := h_b_100.cell 7 _ rfl
      have k_b_8 := h_b_100.cell 8 _ rfl
      have k_b_9 := h_b_100.cell 9 _ rfl
      go_wp2_with fail
      clear k_l_0 k_l_1 k_l_2 k_l_3 k_l_4 k_l_5 k_l_6 k_l_7 k_l_8 k_l_9 k_b_0 k_b_1 k_b_2 k_b_3 k_b_4 k_b_5 k_b_6 k_b_7 k_b_8 k_b_9
      have c := refCmSame_any wr (p := (obsCC p v).1) (q := (obsCC p v).1) h_ll_100 h_lb_100 h_bl_100 h_bb_100
      rw [sameCV_self] at c
      refine c.mono ?_
      rintro e w101 ⟨rfl, hb⟩
      clear c
      have B101 := B100.trans (hb.mono B100.size)
      have h_pl_101 := h_pl_100.below hb
      have h_pb_101 := h_pb_100.below hb
      have h_v_101 := h_v_100.below hb
      have h_p_101 := h_p_100.later hb
      have h_vt_101 := h_vt_100.below hb
      have h_vd_101 := h_vd_100.below hb
      have h_ll_101 := h_ll_100.below hb
      have h_lb_101 := h_lb_100.below hb
      have h_l_101 := h_l_100.later hb
      have h_a_101 := h_a_100.later hb
      have h_al_101 := h_al_100.below hb
      have h_ab_101 := h_ab_100.below hb
      have h_b_101 := h_b_100.later hb
      have h_bl_101 := h_bl_100.below hb
      have h_bb_101 := h_bb_100.below hb
      have h_BW_101 := h_BW_100.trans (hb.mono h_BW_100.size)
      clear hb B100 h_pl_100 h_pb_100 h_v_100 h_p_100 h_vt_100 h_vd_100 h_ll_100 h_lb_100 h_l_100 h_a_100 h_al_100 h_ab_100 h_b_100 h_bl_100 h_bb_100 h_BW_100
      have k_a_0 := h_a_101.cell 0 _ rfl
      have k_a_1 := h_a_101.cell 1 _ rfl
      have k_a_2 := h_a_101.cell 2 _ rfl
      have k_p_0 := h_p_101.cell 0 _ rfl
      have k_p_1 := h_p_101.cell 1 _ rfl
      have k_p_2 := h_p_101.cell 2 _ rfl
      go_wp2_with fail
      clear k_a_0 k_a_1 k_a_2 k_p_0 k_p_1 k_p_2
      have c := examples_any w101
      refine c.mono ?_
      rintro e w102 ⟨rfl, hb⟩
      clear c
      have B102 := B101.trans (hb.mono B101.size)
      have h_pl_102 := h_pl_101.below hb
      have h_pb_102 := h_pb_101.below hb
      have h_v_102 := h_v_101.below hb
      have h_p_102 := h_p_101.later hb
      have h_vt_102 := h_vt_101.below hb
      have h_vd_102 := h_vd_101.below hb
      have h_ll_102 := h_ll_101.below hb
      have h_lb_102 := h_lb_101.below hb
      have h_l_102 := h_l_101.later hb
      have h_a_102 := h_a_101.later hb
      have h_al_102 := h_al_101.below hb
      have h_ab_102 := h_ab_101.below hb
      have h_b_102 := h_b_101.later hb
      have h_bl_102 := h_bl_101.below hb
      have h_bb_102 := h_bb_101.below hb
      have h_BW_102 := h_BW_101.trans (hb.mono h_BW_101.size)
      clear hb B101 h_pl_101 h_pb_101 h_v_101 h_p_101 h_vt_101 h_vd_101 h_ll_101 h_lb_101 h_l_101 h_a_101 h_al_101 h_ab_101 h_b_101 h_bl_101 h_bb_101 h_BW_101
      go_wp2_with fail
      go_ret
      exact ⟨rfl, B102⟩

end Go.Proofs.Ytmkcdlhhbnakiaa
