/- The walk of the law CompareSupermartingale: it returns true and turns nothing that was there. No condition. Printed by gen_cmplaws.py. -/
import Derived.Test.YtmkcdlhhbnakiaaCmpT
import Derived.Test.YtmkcdlhhbnakiaaFrame
import Derived.BigQuiet
import Derived.Deep.CutRange
namespace Go.Proofs.Ytmkcdlhhbnakiaa
open Go.RowKit Go.Suf
set_option linter.unusedVariables false
set_option linter.unusedSimpArgs false

theorem at5 : AT Try.prog 22 5 := ⟨⟨_, Try.underlying22, rfl⟩, by kernel_rfl⟩
theorem five_one (a b c d e : Int) : ∀ u ∈ (#[.int .i64 a, .int .i64 b, .int .i64 c, .int .i64 d, .int .i64 e] : Array Value).toList, u.oneCell' = true := by
  intro u hu
  simp only [List.mem_cons, List.not_mem_nil, or_false] at hu
  rcases hu with rfl | rfl | rfl | rfl | rfl <;> rfl
theorem nextC_5 {c : CV} {L : Nat} {x : Int} : nextC c L x < pw 5 := Nat.lt_of_le_of_lt (Nat.min_le_right _ _) (by decide)
theorem stepC_lev {c : CV} {L B : Nat} (v : VldC c L B) (x : Int) : (stepC c x).lev = limbs (nextC c L x) := by
  show limbs (nextC c (val c.lev) x) = _
  rw [v.lev, val_limbs]
theorem obs_oneC {c : CV} {L B : Nat} (v : VldC c L B) {x : Int} (h1 : -2 ≤ x) (h2 : x ≤ 2) (h3 : seenAtC c x < 1000000) : obsCC c [x] = (stepC c x, 0) := by
  refine obsCC_some v.chk ?_
  show (obs1C c x).bind some = _
  rw [obs1C_in (by omega)]
  rfl
theorem rd_emptyC (w : World) : Rd .u32 (w.alloc (.cells #[] 68)) (some ⟨w.heap.size, 0, none⟩) 0 0 (limbs 0) := by
  rw [limbs_zero]
  exact ⟨rfl, Sl.empty _ _ 0 (Nat.zero_le _) (fun _ => rfl), fun x hx => by simp at hx⟩

set_option maxRecDepth 100000 in
set_option maxHeartbeats 8000000 in
theorem compareSupermartingale_walk (w : World) {p : CV} {a_p b_p : Option Addr} {n_p c_p m_p d_p : Nat} (h_pl : Rd .u32 w a_p n_p c_p p.lev) (h_pb : Rd .u32 w b_p m_p d_p p.best) (pw_p : CW p) (tw : Int) (h_tw1 : -9223372036854775808 ≤ tw) (h_tw2 : tw ≤ 9223372036854775807) (on : Int) (h_on1 : -9223372036854775808 ≤ on) (h_on2 : on ≤ 9223372036854775807) (mi : Int) (h_mi1 : -9223372036854775808 ≤ mi) (h_mi2 : mi ≤ 9223372036854775807) (le : Int) (h_le1 : -9223372036854775808 ≤ le) (h_le2 : le ≤ 9223372036854775807) :
    Calls Try.prog 5 #[cmV p a_p n_p c_p b_p m_p d_p, .int .i64 tw, .int .i64 on, .int .i64 mi, .int .i64 le] w fun e w' => e = .returned (.bool true) ∧ Below w.heap.size w w' := by
  have B0 : Below w.heap.size w w := Below.refl _ _
  have h_pl_0 := h_pl
  have h_pb_0 := h_pb
  by_cases e1 : greatC p = true
  case pos =>
    go_enter Try.func5, Try.ntmps5
    have hb := below_al w (.cells (cmC p a_p n_p c_p b_p m_p d_p) 25)
    have B1 := B0.trans (hb.mono B0.size)
    have h_pl_1 := h_pl_0.below hb
    have h_pb_1 := h_pb_0.below hb
    clear hb B0 h_pl_0 h_pb_0
    have h_p_1 := Has.new w (cmC p a_p n_p c_p b_p m_p d_p) 25
    have k_p_0 := h_p_1.cell 0 _ rfl
    have k_p_1 := h_p_1.cell 1 _ rfl
    have k_p_2 := h_p_1.cell 2 _ rfl
    have k_p_3 := h_p_1.cell 3 _ rfl
    have k_p_4 := h_p_1.cell 4 _ rfl
    have k_p_5 := h_p_1.cell 5 _ rfl
    have k_p_6 := h_p_1.cell 6 _ rfl
    have k_p_7 := h_p_1.cell 7 _ rfl
    have k_p_8 := h_p_1.cell 8 _ rfl
    have k_p_9 := h_p_1.cell 9 _ rfl
    go_wp2_with fail
    clear k_p_0 k_p_1 k_p_2 k_p_3 k_p_4 k_p_5 k_p_6 k_p_7 k_p_8 k_p_9
    generalize (w.alloc (.cells (cmC p a_p n_p c_p b_p m_p d_p) 25)) = w1 at *
    have c := cmGreat_any w1 (p := p) h_pl_1 h_pb_1
    rw [e1] at c
    refine c.mono ?_
    rintro e w2 ⟨rfl, hb⟩
    clear c
    have B2 := B1.trans (hb.mono B1.size)
    have h_pl_2 := h_pl_1.below hb
    have h_pb_2 := h_pb_1.below hb
    have h_p_2 := h_p_1.later hb
    clear hb B1 h_pl_1 h_pb_1 h_p_1
    go_wp2_with fail
    have c := examples_any w2
    refine c.mono ?_
    rintro e w3 ⟨rfl, hb⟩
    clear c
    have B3 := B2.trans (hb.mono B2.size)
    have h_pl_3 := h_pl_2.below hb
    have h_pb_3 := h_pb_2.below hb
    have h_p_3 := h_p_2.later hb
    clear hb B2 h_pl_2 h_pb_2 h_p_2
    go_wp2_with fail
    go_ret
    exact ⟨rfl, B3⟩
  have E1 := Lib.hid (show greatC p = false by simpa using e1)
  clear e1
  by_cases e2 : chkC p = 0
  case neg =>
    have e2 := (chkC_two p).resolve_left e2
    go_enter Try.func5, Try.ntmps5
    have hb := below_al w (.cells (cmC p a_p n_p c_p b_p m_p d_p) 25)
    have B1 := B0.trans (hb.mono B0.size)
    have h_pl_1 := h_pl_0.below hb
    have h_pb_1 := h_pb_0.below hb
    clear hb B0 h_pl_0 h_pb_0
    have h_p_1 := Has.new w (cmC p a_p n_p c_p b_p m_p d_p) 25
    have k_p_0 := h_p_1.cell 0 _ rfl
    have k_p_1 := h_p_1.cell 1 _ rfl
    have k_p_2 := h_p_1.cell 2 _ rfl
    have k_p_3 := h_p_1.cell 3 _ rfl
    have k_p_4 := h_p_1.cell 4 _ rfl
    have k_p_5 := h_p_1.cell 5 _ rfl
    have k_p_6 := h_p_1.cell 6 _ rfl
    have k_p_7 := h_p_1.cell 7 _ rfl
    have k_p_8 := h_p_1.cell 8 _ rfl
    have k_p_9 := h_p_1.cell 9 _ rfl
    go_wp2_with fail
    clear k_p_0 k_p_1 k_p_2 k_p_3 k_p_4 k_p_5 k_p_6 k_p_7 k_p_8 k_p_9
    generalize (w.alloc (.cells (cmC p a_p n_p c_p b_p m_p d_p) 25)) = w1 at *
    have c := cmGreat_any w1 (p := p) h_pl_1 h_pb_1
    rw [E1.out] at c
    refine c.mono ?_
    rintro e w2 ⟨rfl, hb⟩
    clear c
    have B2 := B1.trans (hb.mono B1.size)
    have h_pl_2 := h_pl_1.below hb
    have h_pb_2 := h_pb_1.below hb
    have h_p_2 := h_p_1.later hb
    clear hb B1 h_pl_1 h_pb_1 h_p_1
    have k_p_0 := h_p_2.cell 0 _ rfl
    have k_p_1 := h_p_2.cell 1 _ rfl
    have k_p_2 := h_p_2.cell 2 _ rfl
    have k_p_3 := h_p_2.cell 3 _ rfl
    have k_p_4 := h_p_2.cell 4 _ rfl
    have k_p_5 := h_p_2.cell 5 _ rfl
    have k_p_6 := h_p_2.cell 6 _ rfl
    have k_p_7 := h_p_2.cell 7 _ rfl
    have k_p_8 := h_p_2.cell 8 _ rfl
    have k_p_9 := h_p_2.cell 9 _ rfl
    go_wp2_with fail
    clear k_p_0 k_p_1 k_p_2 k_p_3 k_p_4 k_p_5 k_p_6 k_p_7 k_p_8 k_p_9
    have c := refCmCheck_any w2 (q := p) h_pl_2 h_pb_2 pw_p
    rw [e2] at c
    refine c.mono ?_
    rintro e w3 ⟨rfl, hb⟩
    clear c
    have B3 := B2.trans (hb.mono B2.size)
    have h_pl_3 := h_pl_2.below hb
    have h_pb_3 := h_pb_2.below hb
    have h_p_3 := h_p_2.later hb
    clear hb B2 h_pl_2 h_pb_2 h_p_2
    go_wp2_with fail
    have c := examples_any w3
    refine c.mono ?_
    rintro e w4 ⟨rfl, hb⟩
    clear c
    have B4 := B3.trans (hb.mono B3.size)
    have h_pl_4 := h_pl_3.below hb
    have h_pb_4 := h_pb_3.below hb
    have h_p_4 := h_p_3.later hb
    clear hb B3 h_pl_3 h_pb_3 h_p_3
    go_wp2_with fail
    go_ret
    exact ⟨rfl, B4⟩
  have E2 := Lib.hid e2
  clear e2
  obtain ⟨La, Wa, vld0⟩ := chkC_get (fun x hx => h_pl.bd x hx) (fun x hx => h_pb.bd x hx) E2.out
  have V0 := Lib.hid vld0
  clear vld0
  by_cases xu1 : 1000 < p.ballots
  case pos =>
    have du1 : decide (1000 < p.ballots) = true := decide_eq_true xu1
    clear  xu1
    go_enter Try.func5, Try.ntmps5
    have hb := below_al w (.cells (cmC p a_p n_p c_p b_p m_p d_p) 25)
    have B1 := B0.trans (hb.mono B0.size)
    have h_pl_1 := h_pl_0.below hb
    have h_pb_1 := h_pb_0.below hb
    clear hb B0 h_pl_0 h_pb_0
    have h_p_1 := Has.new w (cmC p a_p n_p c_p b_p m_p d_p) 25
    have k_p_0 := h_p_1.cell 0 _ rfl
    have k_p_1 := h_p_1.cell 1 _ rfl
    have k_p_2 := h_p_1.cell 2 _ rfl
    have k_p_3 := h_p_1.cell 3 _ rfl
    have k_p_4 := h_p_1.cell 4 _ rfl
    have k_p_5 := h_p_1.cell 5 _ rfl
    have k_p_6 := h_p_1.cell 6 _ rfl
    have k_p_7 := h_p_1.cell 7 _ rfl
    have k_p_8 := h_p_1.cell 8 _ rfl
    have k_p_9 := h_p_1.cell 9 _ rfl
    go_wp2_with fail
    clear k_p_0 k_p_1 k_p_2 k_p_3 k_p_4 k_p_5 k_p_6 k_p_7 k_p_8 k_p_9
    generalize (w.alloc (.cells (cmC p a_p n_p c_p b_p m_p d_p) 25)) = w1 at *
    have c := cmGreat_any w1 (p := p) h_pl_1 h_pb_1
    rw [E1.out] at c
    refine c.mono ?_
    rintro e w2 ⟨rfl, hb⟩
    clear c
    have B2 := B1.trans (hb.mono B1.size)
    have h_pl_2 := h_pl_1.below hb
    have h_pb_2 := h_pb_1.below hb
    have h_p_2 := h_p_1.later hb
    clear hb B1 h_pl_1 h_pb_1 h_p_1
    have k_p_0 := h_p_2.cell 0 _ rfl
    have k_p_1 := h_p_2.cell 1 _ rfl
    have k_p_2 := h_p_2.cell 2 _ rfl
    have k_p_3 := h_p_2.cell 3 _ rfl
    have k_p_4 := h_p_2.cell 4 _ rfl
    have k_p_5 := h_p_2.cell 5 _ rfl
    have k_p_6 := h_p_2.cell 6 _ rfl
    have k_p_7 := h_p_2.cell 7 _ rfl
    have k_p_8 := h_p_2.cell 8 _ rfl
    have k_p_9 := h_p_2.cell 9 _ rfl
    go_wp2_with fail
    clear k_p_0 k_p_1 k_p_2 k_p_3 k_p_4 k_p_5 k_p_6 k_p_7 k_p_8 k_p_9
    have c := refCmCheck_any w2 (q := p) h_pl_2 h_pb_2 pw_p
    rw [E2.out] at c
    refine c.mono ?_
    rintro e w3 ⟨rfl, hb⟩
    clear c
    have B3 := B2.trans (hb.mono B2.size)
    have h_pl_3 := h_pl_2.below hb
    have h_pb_3 := h_pb_2.below hb
    have h_p_3 := h_p_2.later hb
    clear hb B2 h_pl_2 h_pb_2 h_p_2
    have k_p_1 := h_p_3.cell 1 _ rfl
    go_wp2_with fail
    clear k_p_1
    have c := examples_any w3
    refine c.mono ?_
    rintro e w4 ⟨rfl, hb⟩
    clear c
    have B4 := B3.trans (hb.mono B3.size)
    have h_pl_4 := h_pl_3.below hb
    have h_pb_4 := h_pb_3.below hb
    have h_p_4 := h_p_3.later hb
    clear hb B3 h_pl_3 h_pb_3 h_p_3
    go_wp2_with fail
    go_ret
    exact ⟨rfl, B4⟩
  by_cases xvtw : tw < 0
  case pos =>
    have du1 : decide (1000 < p.ballots) = false := decide_eq_false xu1
    have dvtw : decide (tw < 0) = true := decide_eq_true xvtw
    clear xu1 xvtw
    go_enter Try.func5, Try.ntmps5
    have hb := below_al w (.cells (cmC p a_p n_p c_p b_p m_p d_p) 25)
    have B1 := B0.trans (hb.mono B0.size)
    have h_pl_1 := h_pl_0.below hb
    have h_pb_1 := h_pb_0.below hb
    clear hb B0 h_pl_0 h_pb_0
    have h_p_1 := Has.new w (cmC p a_p n_p c_p b_p m_p d_p) 25
    have k_p_0 := h_p_1.cell 0 _ rfl
    have k_p_1 := h_p_1.cell 1 _ rfl
    have k_p_2 := h_p_1.cell 2 _ rfl
    have k_p_3 := h_p_1.cell 3 _ rfl
    have k_p_4 := h_p_1.cell 4 _ rfl
    have k_p_5 := h_p_1.cell 5 _ rfl
    have k_p_6 := h_p_1.cell 6 _ rfl
    have k_p_7 := h_p_1.cell 7 _ rfl
    have k_p_8 := h_p_1.cell 8 _ rfl
    have k_p_9 := h_p_1.cell 9 _ rfl
    go_wp2_with fail
    clear k_p_0 k_p_1 k_p_2 k_p_3 k_p_4 k_p_5 k_p_6 k_p_7 k_p_8 k_p_9
    generalize (w.alloc (.cells (cmC p a_p n_p c_p b_p m_p d_p) 25)) = w1 at *
    have c := cmGreat_any w1 (p := p) h_pl_1 h_pb_1
    rw [E1.out] at c
    refine c.mono ?_
    rintro e w2 ⟨rfl, hb⟩
    clear c
    have B2 := B1.trans (hb.mono B1.size)
    have h_pl_2 := h_pl_1.below hb
    have h_pb_2 := h_pb_1.below hb
    have h_p_2 := h_p_1.later hb
    clear hb B1 h_pl_1 h_pb_1 h_p_1
    have k_p_0 := h_p_2.cell 0 _ rfl
    have k_p_1 := h_p_2.cell 1 _ rfl
    have k_p_2 := h_p_2.cell 2 _ rfl
    have k_p_3 := h_p_2.cell 3 _ rfl
    have k_p_4 := h_p_2.cell 4 _ rfl
    have k_p_5 := h_p_2.cell 5 _ rfl
    have k_p_6 := h_p_2.cell 6 _ rfl
    have k_p_7 := h_p_2.cell 7 _ rfl
    have k_p_8 := h_p_2.cell 8 _ rfl
    have k_p_9 := h_p_2.cell 9 _ rfl
    go_wp2_with fail
    clear k_p_0 k_p_1 k_p_2 k_p_3 k_p_4 k_p_5 k_p_6 k_p_7 k_p_8 k_p_9
    have c := refCmCheck_any w2 (q := p) h_pl_2 h_pb_2 pw_p
    rw [E2.out] at c
    refine c.mono ?_
    rintro e w3 ⟨rfl, hb⟩
    clear c
    have B3 := B2.trans (hb.mono B2.size)
    have h_pl_3 := h_pl_2.below hb
    have h_pb_3 := h_pb_2.below hb
    have h_p_3 := h_p_2.later hb
    clear hb B2 h_pl_2 h_pb_2 h_p_2
    have k_p_1 := h_p_3.cell 1 _ rfl
    go_wp2_with fail
    clear k_p_1
    have c := examples_any w3
    refine c.mono ?_
    rintro e w4 ⟨rfl, hb⟩
    clear c
    have B4 := B3.trans (hb.mono B3.size)
    have h_pl_4 := h_pl_3.below hb
    have h_pb_4 := h_pb_3.below hb
    have h_p_4 := h_p_3.later hb
    clear hb B3 h_pl_3 h_pb_3 h_p_3
    go_wp2_with fail
    go_ret
    exact ⟨rfl, B4⟩
  by_cases xvon : on < 0
  case pos =>
    have du1 : decide (1000 < p.ballots) = false := decide_eq_false xu1
    have dvtw : decide (tw < 0) = false := decide_eq_false xvtw
    have dvon : decide (on < 0) = true := decide_eq_true xvon
    clear xu1 xvtw xvon
    go_enter Try.func5, Try.ntmps5
    have hb := below_al w (.cells (cmC p a_p n_p c_p b_p m_p d_p) 25)
    have B1 := B0.trans (hb.mono B0.size)
    have h_pl_1 := h_pl_0.below hb
    have h_pb_1 := h_pb_0.below hb
    clear hb B0 h_pl_0 h_pb_0
    have h_p_1 := Has.new w (cmC p a_p n_p c_p b_p m_p d_p) 25
    have k_p_0 := h_p_1.cell 0 _ rfl
    have k_p_1 := h_p_1.cell 1 _ rfl
    have k_p_2 := h_p_1.cell 2 _ rfl
    have k_p_3 := h_p_1.cell 3 _ rfl
    have k_p_4 := h_p_1.cell 4 _ rfl
    have k_p_5 := h_p_1.cell 5 _ rfl
    have k_p_6 := h_p_1.cell 6 _ rfl
    have k_p_7 := h_p_1.cell 7 _ rfl
    have k_p_8 := h_p_1.cell 8 _ rfl
    have k_p_9 := h_p_1.cell 9 _ rfl
    go_wp2_with fail
    clear k_p_0 k_p_1 k_p_2 k_p_3 k_p_4 k_p_5 k_p_6 k_p_7 k_p_8 k_p_9
    generalize (w.alloc (.cells (cmC p a_p n_p c_p b_p m_p d_p) 25)) = w1 at *
    have c := cmGreat_any w1 (p := p) h_pl_1 h_pb_1
    rw [E1.out] at c
    refine c.mono ?_
    rintro e w2 ⟨rfl, hb⟩
    clear c
    have B2 := B1.trans (hb.mono B1.size)
    have h_pl_2 := h_pl_1.below hb
    have h_pb_2 := h_pb_1.below hb
    have h_p_2 := h_p_1.later hb
    clear hb B1 h_pl_1 h_pb_1 h_p_1
    have k_p_0 := h_p_2.cell 0 _ rfl
    have k_p_1 := h_p_2.cell 1 _ rfl
    have k_p_2 := h_p_2.cell 2 _ rfl
    have k_p_3 := h_p_2.cell 3 _ rfl
    have k_p_4 := h_p_2.cell 4 _ rfl
    have k_p_5 := h_p_2.cell 5 _ rfl
    have k_p_6 := h_p_2.cell 6 _ rfl
    have k_p_7 := h_p_2.cell 7 _ rfl
    have k_p_8 := h_p_2.cell 8 _ rfl
    have k_p_9 := h_p_2.cell 9 _ rfl
    go_wp2_with fail
    clear k_p_0 k_p_1 k_p_2 k_p_3 k_p_4 k_p_5 k_p_6 k_p_7 k_p_8 k_p_9
    have c := refCmCheck_any w2 (q := p) h_pl_2 h_pb_2 pw_p
    rw [E2.out] at c
    refine c.mono ?_
    rintro e w3 ⟨rfl, hb⟩
    clear c
    have B3 := B2.trans (hb.mono B2.size)
    have h_pl_3 := h_pl_2.below hb
    have h_pb_3 := h_pb_2.below hb
    have h_p_3 := h_p_2.later hb
    clear hb B2 h_pl_2 h_pb_2 h_p_2
    have k_p_1 := h_p_3.cell 1 _ rfl
    go_wp2_with fail
    clear k_p_1
    have c := examples_any w3
    refine c.mono ?_
    rintro e w4 ⟨rfl, hb⟩
    clear c
    have B4 := B3.trans (hb.mono B3.size)
    have h_pl_4 := h_pl_3.below hb
    have h_pb_4 := h_pb_3.below hb
    have h_p_4 := h_p_3.later hb
    clear hb B3 h_pl_3 h_pb_3 h_p_3
    go_wp2_with fail
    go_ret
    exact ⟨rfl, B4⟩
  by_cases xvmi : mi < 0
  case pos =>
    have du1 : decide (1000 < p.ballots) = false := decide_eq_false xu1
    have dvtw : decide (tw < 0) = false := decide_eq_false xvtw
    have dvon : decide (on < 0) = false := decide_eq_false xvon
    have dvmi : decide (mi < 0) = true := decide_eq_true xvmi
    clear xu1 xvtw xvon xvmi
    go_enter Try.func5, Try.ntmps5
    have hb := below_al w (.cells (cmC p a_p n_p c_p b_p m_p d_p) 25)
    have B1 := B0.trans (hb.mono B0.size)
    have h_pl_1 := h_pl_0.below hb
    have h_pb_1 := h_pb_0.below hb
    clear hb B0 h_pl_0 h_pb_0
    have h_p_1 := Has.new w (cmC p a_p n_p c_p b_p m_p d_p) 25
    have k_p_0 := h_p_1.cell 0 _ rfl
    have k_p_1 := h_p_1.cell 1 _ rfl
    have k_p_2 := h_p_1.cell 2 _ rfl
    have k_p_3 := h_p_1.cell 3 _ rfl
    have k_p_4 := h_p_1.cell 4 _ rfl
    have k_p_5 := h_p_1.cell 5 _ rfl
    have k_p_6 := h_p_1.cell 6 _ rfl
    have k_p_7 := h_p_1.cell 7 _ rfl
    have k_p_8 := h_p_1.cell 8 _ rfl
    have k_p_9 := h_p_1.cell 9 _ rfl
    go_wp2_with fail
    clear k_p_0 k_p_1 k_p_2 k_p_3 k_p_4 k_p_5 k_p_6 k_p_7 k_p_8 k_p_9
    generalize (w.alloc (.cells (cmC p a_p n_p c_p b_p m_p d_p) 25)) = w1 at *
    have c := cmGreat_any w1 (p := p) h_pl_1 h_pb_1
    rw [E1.out] at c
    refine c.mono ?_
    rintro e w2 ⟨rfl, hb⟩
    clear c
    have B2 := B1.trans (hb.mono B1.size)
    have h_pl_2 := h_pl_1.below hb
    have h_pb_2 := h_pb_1.below hb
    have h_p_2 := h_p_1.later hb
    clear hb B1 h_pl_1 h_pb_1 h_p_1
    have k_p_0 := h_p_2.cell 0 _ rfl
    have k_p_1 := h_p_2.cell 1 _ rfl
    have k_p_2 := h_p_2.cell 2 _ rfl
    have k_p_3 := h_p_2.cell 3 _ rfl
    have k_p_4 := h_p_2.cell 4 _ rfl
    have k_p_5 := h_p_2.cell 5 _ rfl
    have k_p_6 := h_p_2.cell 6 _ rfl
    have k_p_7 := h_p_2.cell 7 _ rfl
    have k_p_8 := h_p_2.cell 8 _ rfl
    have k_p_9 := h_p_2.cell 9 _ rfl
    go_wp2_with fail
    clear k_p_0 k_p_1 k_p_2 k_p_3 k_p_4 k_p_5 k_p_6 k_p_7 k_p_8 k_p_9
    have c := refCmCheck_any w2 (q := p) h_pl_2 h_pb_2 pw_p
    rw [E2.out] at c
    refine c.mono ?_
    rintro e w3 ⟨rfl, hb⟩
    clear c
    have B3 := B2.trans (hb.mono B2.size)
    have h_pl_3 := h_pl_2.below hb
    have h_pb_3 := h_pb_2.below hb
    have h_p_3 := h_p_2.later hb
    clear hb B2 h_pl_2 h_pb_2 h_p_2
    have k_p_1 := h_p_3.cell 1 _ rfl
    go_wp2_with fail
    clear k_p_1
    have c := examples_any w3
    refine c.mono ?_
    rintro e w4 ⟨rfl, hb⟩
    clear c
    have B4 := B3.trans (hb.mono B3.size)
    have h_pl_4 := h_pl_3.below hb
    have h_pb_4 := h_pb_3.below hb
    have h_p_4 := h_p_3.later hb
    clear hb B3 h_pl_3 h_pb_3 h_p_3
    go_wp2_with fail
    go_ret
    exact ⟨rfl, B4⟩
  by_cases xvle : le < 0
  case pos =>
    have du1 : decide (1000 < p.ballots) = false := decide_eq_false xu1
    have dvtw : decide (tw < 0) = false := decide_eq_false xvtw
    have dvon : decide (on < 0) = false := decide_eq_false xvon
    have dvmi : decide (mi < 0) = false := decide_eq_false xvmi
    have dvle : decide (le < 0) = true := decide_eq_true xvle
    clear xu1 xvtw xvon xvmi xvle
    go_enter Try.func5, Try.ntmps5
    have hb := below_al w (.cells (cmC p a_p n_p c_p b_p m_p d_p) 25)
    have B1 := B0.trans (hb.mono B0.size)
    have h_pl_1 := h_pl_0.below hb
    have h_pb_1 := h_pb_0.below hb
    clear hb B0 h_pl_0 h_pb_0
    have h_p_1 := Has.new w (cmC p a_p n_p c_p b_p m_p d_p) 25
    have k_p_0 := h_p_1.cell 0 _ rfl
    have k_p_1 := h_p_1.cell 1 _ rfl
    have k_p_2 := h_p_1.cell 2 _ rfl
    have k_p_3 := h_p_1.cell 3 _ rfl
    have k_p_4 := h_p_1.cell 4 _ rfl
    have k_p_5 := h_p_1.cell 5 _ rfl
    have k_p_6 := h_p_1.cell 6 _ rfl
    have k_p_7 := h_p_1.cell 7 _ rfl
    have k_p_8 := h_p_1.cell 8 _ rfl
    have k_p_9 := h_p_1.cell 9 _ rfl
    go_wp2_with fail
    clear k_p_0 k_p_1 k_p_2 k_p_3 k_p_4 k_p_5 k_p_6 k_p_7 k_p_8 k_p_9
    generalize (w.alloc (.cells (cmC p a_p n_p c_p b_p m_p d_p) 25)) = w1 at *
    have c := cmGreat_any w1 (p := p) h_pl_1 h_pb_1
    rw [E1.out] at c
    refine c.mono ?_
    rintro e w2 ⟨rfl, hb⟩
    clear c
    have B2 := B1.trans (hb.mono B1.size)
    have h_pl_2 := h_pl_1.below hb
    have h_pb_2 := h_pb_1.below hb
    have h_p_2 := h_p_1.later hb
    clear hb B1 h_pl_1 h_pb_1 h_p_1
    have k_p_0 := h_p_2.cell 0 _ rfl
    have k_p_1 := h_p_2.cell 1 _ rfl
    have k_p_2 := h_p_2.cell 2 _ rfl
    have k_p_3 := h_p_2.cell 3 _ rfl
    have k_p_4 := h_p_2.cell 4 _ rfl
    have k_p_5 := h_p_2.cell 5 _ rfl
    have k_p_6 := h_p_2.cell 6 _ rfl
    have k_p_7 := h_p_2.cell 7 _ rfl
    have k_p_8 := h_p_2.cell 8 _ rfl
    have k_p_9 := h_p_2.cell 9 _ rfl
    go_wp2_with fail
    clear k_p_0 k_p_1 k_p_2 k_p_3 k_p_4 k_p_5 k_p_6 k_p_7 k_p_8 k_p_9
    have c := refCmCheck_any w2 (q := p) h_pl_2 h_pb_2 pw_p
    rw [E2.out] at c
    refine c.mono ?_
    rintro e w3 ⟨rfl, hb⟩
    clear c
    have B3 := B2.trans (hb.mono B2.size)
    have h_pl_3 := h_pl_2.below hb
    have h_pb_3 := h_pb_2.below hb
    have h_p_3 := h_p_2.later hb
    clear hb B2 h_pl_2 h_pb_2 h_p_2
    have k_p_1 := h_p_3.cell 1 _ rfl
    go_wp2_with fail
    clear k_p_1
    have c := examples_any w3
    refine c.mono ?_
    rintro e w4 ⟨rfl, hb⟩
    clear c
    have B4 := B3.trans (hb.mono B3.size)
    have h_pl_4 := h_pl_3.below hb
    have h_pb_4 := h_pb_3.below hb
    have h_p_4 := h_p_3.later hb
    clear hb B3 h_pl_3 h_pb_3 h_p_3
    go_wp2_with fail
    go_ret
    exact ⟨rfl, B4⟩
  by_cases xutw : 1000 < tw
  case pos =>
    have du1 : decide (1000 < p.ballots) = false := decide_eq_false xu1
    have dvtw : decide (tw < 0) = false := decide_eq_false xvtw
    have dvon : decide (on < 0) = false := decide_eq_false xvon
    have dvmi : decide (mi < 0) = false := decide_eq_false xvmi
    have dvle : decide (le < 0) = false := decide_eq_false xvle
    have dutw : decide (1000 < tw) = true := decide_eq_true xutw
    clear xu1 xvtw xvon xvmi xvle xutw
    go_enter Try.func5, Try.ntmps5
    have hb := below_al w (.cells (cmC p a_p n_p c_p b_p m_p d_p) 25)
    have B1 := B0.trans (hb.mono B0.size)
    have h_pl_1 := h_pl_0.below hb
    have h_pb_1 := h_pb_0.below hb
    clear hb B0 h_pl_0 h_pb_0
    have h_p_1 := Has.new w (cmC p a_p n_p c_p b_p m_p d_p) 25
    have k_p_0 := h_p_1.cell 0 _ rfl
    have k_p_1 := h_p_1.cell 1 _ rfl
    have k_p_2 := h_p_1.cell 2 _ rfl
    have k_p_3 := h_p_1.cell 3 _ rfl
    have k_p_4 := h_p_1.cell 4 _ rfl
    have k_p_5 := h_p_1.cell 5 _ rfl
    have k_p_6 := h_p_1.cell 6 _ rfl
    have k_p_7 := h_p_1.cell 7 _ rfl
    have k_p_8 := h_p_1.cell 8 _ rfl
    have k_p_9 := h_p_1.cell 9 _ rfl
    go_wp2_with fail
    clear k_p_0 k_p_1 k_p_2 k_p_3 k_p_4 k_p_5 k_p_6 k_p_7 k_p_8 k_p_9
    generalize (w.alloc (.cells (cmC p a_p n_p c_p b_p m_p d_p) 25)) = w1 at *
    have c := cmGreat_any w1 (p := p) h_pl_1 h_pb_1
    rw [E1.out] at c
    refine c.mono ?_
    rintro e w2 ⟨rfl, hb⟩
    clear c
    have B2 := B1.trans (hb.mono B1.size)
    have h_pl_2 := h_pl_1.below hb
    have h_pb_2 := h_pb_1.below hb
    have h_p_2 := h_p_1.later hb
    clear hb B1 h_pl_1 h_pb_1 h_p_1
    have k_p_0 := h_p_2.cell 0 _ rfl
    have k_p_1 := h_p_2.cell 1 _ rfl
    have k_p_2 := h_p_2.cell 2 _ rfl
    have k_p_3 := h_p_2.cell 3 _ rfl
    have k_p_4 := h_p_2.cell 4 _ rfl
    have k_p_5 := h_p_2.cell 5 _ rfl
    have k_p_6 := h_p_2.cell 6 _ rfl
    have k_p_7 := h_p_2.cell 7 _ rfl
    have k_p_8 := h_p_2.cell 8 _ rfl
    have k_p_9 := h_p_2.cell 9 _ rfl
    go_wp2_with fail
    clear k_p_0 k_p_1 k_p_2 k_p_3 k_p_4 k_p_5 k_p_6 k_p_7 k_p_8 k_p_9
    have c := refCmCheck_any w2 (q := p) h_pl_2 h_pb_2 pw_p
    rw [E2.out] at c
    refine c.mono ?_
    rintro e w3 ⟨rfl, hb⟩
    clear c
    have B3 := B2.trans (hb.mono B2.size)
    have h_pl_3 := h_pl_2.below hb
    have h_pb_3 := h_pb_2.below hb
    have h_p_3 := h_p_2.later hb
    clear hb B2 h_pl_2 h_pb_2 h_p_2
    have k_p_1 := h_p_3.cell 1 _ rfl
    go_wp2_with fail
    clear k_p_1
    have c := examples_any w3
    refine c.mono ?_
    rintro e w4 ⟨rfl, hb⟩
    clear c
    have B4 := B3.trans (hb.mono B3.size)
    have h_pl_4 := h_pl_3.below hb
    have h_pb_4 := h_pb_3.below hb
    have h_p_4 := h_p_3.later hb
    clear hb B3 h_pl_3 h_pb_3 h_p_3
    go_wp2_with fail
    go_ret
    exact ⟨rfl, B4⟩
  by_cases xuon : 1000 < on
  case pos =>
    have du1 : decide (1000 < p.ballots) = false := decide_eq_false xu1
    have dvtw : decide (tw < 0) = false := decide_eq_false xvtw
    have dvon : decide (on < 0) = false := decide_eq_false xvon
    have dvmi : decide (mi < 0) = false := decide_eq_false xvmi
    have dvle : decide (le < 0) = false := decide_eq_false xvle
    have dutw : decide (1000 < tw) = false := decide_eq_false xutw
    have duon : decide (1000 < on) = true := decide_eq_true xuon
    clear xu1 xvtw xvon xvmi xvle xutw xuon
    go_enter Try.func5, Try.ntmps5
    have hb := below_al w (.cells (cmC p a_p n_p c_p b_p m_p d_p) 25)
    have B1 := B0.trans (hb.mono B0.size)
    have h_pl_1 := h_pl_0.below hb
    have h_pb_1 := h_pb_0.below hb
    clear hb B0 h_pl_0 h_pb_0
    have h_p_1 := Has.new w (cmC p a_p n_p c_p b_p m_p d_p) 25
    have k_p_0 := h_p_1.cell 0 _ rfl
    have k_p_1 := h_p_1.cell 1 _ rfl
    have k_p_2 := h_p_1.cell 2 _ rfl
    have k_p_3 := h_p_1.cell 3 _ rfl
    have k_p_4 := h_p_1.cell 4 _ rfl
    have k_p_5 := h_p_1.cell 5 _ rfl
    have k_p_6 := h_p_1.cell 6 _ rfl
    have k_p_7 := h_p_1.cell 7 _ rfl
    have k_p_8 := h_p_1.cell 8 _ rfl
    have k_p_9 := h_p_1.cell 9 _ rfl
    go_wp2_with fail
    clear k_p_0 k_p_1 k_p_2 k_p_3 k_p_4 k_p_5 k_p_6 k_p_7 k_p_8 k_p_9
    generalize (w.alloc (.cells (cmC p a_p n_p c_p b_p m_p d_p) 25)) = w1 at *
    have c := cmGreat_any w1 (p := p) h_pl_1 h_pb_1
    rw [E1.out] at c
    refine c.mono ?_
    rintro e w2 ⟨rfl, hb⟩
    clear c
    have B2 := B1.trans (hb.mono B1.size)
    have h_pl_2 := h_pl_1.below hb
    have h_pb_2 := h_pb_1.below hb
    have h_p_2 := h_p_1.later hb
    clear hb B1 h_pl_1 h_pb_1 h_p_1
    have k_p_0 := h_p_2.cell 0 _ rfl
    have k_p_1 := h_p_2.cell 1 _ rfl
    have k_p_2 := h_p_2.cell 2 _ rfl
    have k_p_3 := h_p_2.cell 3 _ rfl
    have k_p_4 := h_p_2.cell 4 _ rfl
    have k_p_5 := h_p_2.cell 5 _ rfl
    have k_p_6 := h_p_2.cell 6 _ rfl
    have k_p_7 := h_p_2.cell 7 _ rfl
    have k_p_8 := h_p_2.cell 8 _ rfl
    have k_p_9 := h_p_2.cell 9 _ rfl
    go_wp2_with fail
    clear k_p_0 k_p_1 k_p_2 k_p_3 k_p_4 k_p_5 k_p_6 k_p_7 k_p_8 k_p_9
    have c := refCmCheck_any w2 (q := p) h_pl_2 h_pb_2 pw_p
    rw [E2.out] at c
    refine c.mono ?_
    rintro e w3 ⟨rfl, hb⟩
    clear c
    have B3 := B2.trans (hb.mono B2.size)
    have h_pl_3 := h_pl_2.below hb
    have h_pb_3 := h_pb_2.below hb
    have h_p_3 := h_p_2.later hb
    clear hb B2 h_pl_2 h_pb_2 h_p_2
    have k_p_1 := h_p_3.cell 1 _ rfl
    go_wp2_with fail
    clear k_p_1
    have c := examples_any w3
    refine c.mono ?_
    rintro e w4 ⟨rfl, hb⟩
    clear c
    have B4 := B3.trans (hb.mono B3.size)
    have h_pl_4 := h_pl_3.below hb
    have h_pb_4 := h_pb_3.below hb
    have h_p_4 := h_p_3.later hb
    clear hb B3 h_pl_3 h_pb_3 h_p_3
    go_wp2_with fail
    go_ret
    exact ⟨rfl, B4⟩
  by_cases xumi : 1000 < mi
  case pos =>
    have du1 : decide (1000 < p.ballots) = false := decide_eq_false xu1
    have dvtw : decide (tw < 0) = false := decide_eq_false xvtw
    have dvon : decide (on < 0) = false := decide_eq_false xvon
    have dvmi : decide (mi < 0) = false := decide_eq_false xvmi
    have dvle : decide (le < 0) = false := decide_eq_false xvle
    have dutw : decide (1000 < tw) = false := decide_eq_false xutw
    have duon : decide (1000 < on) = false := decide_eq_false xuon
    have dumi : decide (1000 < mi) = true := decide_eq_true xumi
    clear xu1 xvtw xvon xvmi xvle xutw xuon xumi
    go_enter Try.func5, Try.ntmps5
    have hb := below_al w (.cells (cmC p a_p n_p c_p b_p m_p d_p) 25)
    have B1 := B0.trans (hb.mono B0.size)
    have h_pl_1 := h_pl_0.below hb
    have h_pb_1 := h_pb_0.below hb
    clear hb B0 h_pl_0 h_pb_0
    have h_p_1 := Has.new w (cmC p a_p n_p c_p b_p m_p d_p) 25
    have k_p_0 := h_p_1.cell 0 _ rfl
    have k_p_1 := h_p_1.cell 1 _ rfl
    have k_p_2 := h_p_1.cell 2 _ rfl
    have k_p_3 := h_p_1.cell 3 _ rfl
    have k_p_4 := h_p_1.cell 4 _ rfl
    have k_p_5 := h_p_1.cell 5 _ rfl
    have k_p_6 := h_p_1.cell 6 _ rfl
    have k_p_7 := h_p_1.cell 7 _ rfl
    have k_p_8 := h_p_1.cell 8 _ rfl
    have k_p_9 := h_p_1.cell 9 _ rfl
    go_wp2_with fail
    clear k_p_0 k_p_1 k_p_2 k_p_3 k_p_4 k_p_5 k_p_6 k_p_7 k_p_8 k_p_9
    generalize (w.alloc (.cells (cmC p a_p n_p c_p b_p m_p d_p) 25)) = w1 at *
    have c := cmGreat_any w1 (p := p) h_pl_1 h_pb_1
    rw [E1.out] at c
    refine c.mono ?_
    rintro e w2 ⟨rfl, hb⟩
    clear c
    have B2 := B1.trans (hb.mono B1.size)
    have h_pl_2 := h_pl_1.below hb
    have h_pb_2 := h_pb_1.below hb
    have h_p_2 := h_p_1.later hb
    clear hb B1 h_pl_1 h_pb_1 h_p_1
    have k_p_0 := h_p_2.cell 0 _ rfl
    have k_p_1 := h_p_2.cell 1 _ rfl
    have k_p_2 := h_p_2.cell 2 _ rfl
    have k_p_3 := h_p_2.cell 3 _ rfl
    have k_p_4 := h_p_2.cell 4 _ rfl
    have k_p_5 := h_p_2.cell 5 _ rfl
    have k_p_6 := h_p_2.cell 6 _ rfl
    have k_p_7 := h_p_2.cell 7 _ rfl
    have k_p_8 := h_p_2.cell 8 _ rfl
    have k_p_9 := h_p_2.cell 9 _ rfl
    go_wp2_with fail
    clear k_p_0 k_p_1 k_p_2 k_p_3 k_p_4 k_p_5 k_p_6 k_p_7 k_p_8 k_p_9
    have c := refCmCheck_any w2 (q := p) h_pl_2 h_pb_2 pw_p
    rw [E2.out] at c
    refine c.mono ?_
    rintro e w3 ⟨rfl, hb⟩
    clear c
    have B3 := B2.trans (hb.mono B2.size)
    have h_pl_3 := h_pl_2.below hb
    have h_pb_3 := h_pb_2.below hb
    have h_p_3 := h_p_2.later hb
    clear hb B2 h_pl_2 h_pb_2 h_p_2
    have k_p_1 := h_p_3.cell 1 _ rfl
    go_wp2_with fail
    clear k_p_1
    have c := examples_any w3
    refine c.mono ?_
    rintro e w4 ⟨rfl, hb⟩
    clear c
    have B4 := B3.trans (hb.mono B3.size)
    have h_pl_4 := h_pl_3.below hb
    have h_pb_4 := h_pb_3.below hb
    have h_p_4 := h_p_3.later hb
    clear hb B3 h_pl_3 h_pb_3 h_p_3
    go_wp2_with fail
    go_ret
    exact ⟨rfl, B4⟩
  by_cases xule : 1000 < le
  case pos =>
    have du1 : decide (1000 < p.ballots) = false := decide_eq_false xu1
    have dvtw : decide (tw < 0) = false := decide_eq_false xvtw
    have dvon : decide (on < 0) = false := decide_eq_false xvon
    have dvmi : decide (mi < 0) = false := decide_eq_false xvmi
    have dvle : decide (le < 0) = false := decide_eq_false xvle
    have dutw : decide (1000 < tw) = false := decide_eq_false xutw
    have duon : decide (1000 < on) = false := decide_eq_false xuon
    have dumi : decide (1000 < mi) = false := decide_eq_false xumi
    have dule : decide (1000 < le) = true := decide_eq_true xule
    clear xu1 xvtw xvon xvmi xvle xutw xuon xumi xule
    go_enter Try.func5, Try.ntmps5
    have hb := below_al w (.cells (cmC p a_p n_p c_p b_p m_p d_p) 25)
    have B1 := B0.trans (hb.mono B0.size)
    have h_pl_1 := h_pl_0.below hb
    have h_pb_1 := h_pb_0.below hb
    clear hb B0 h_pl_0 h_pb_0
    have h_p_1 := Has.new w (cmC p a_p n_p c_p b_p m_p d_p) 25
    have k_p_0 := h_p_1.cell 0 _ rfl
    have k_p_1 := h_p_1.cell 1 _ rfl
    have k_p_2 := h_p_1.cell 2 _ rfl
    have k_p_3 := h_p_1.cell 3 _ rfl
    have k_p_4 := h_p_1.cell 4 _ rfl
    have k_p_5 := h_p_1.cell 5 _ rfl
    have k_p_6 := h_p_1.cell 6 _ rfl
    have k_p_7 := h_p_1.cell 7 _ rfl
    have k_p_8 := h_p_1.cell 8 _ rfl
    have k_p_9 := h_p_1.cell 9 _ rfl
    go_wp2_with fail
    clear k_p_0 k_p_1 k_p_2 k_p_3 k_p_4 k_p_5 k_p_6 k_p_7 k_p_8 k_p_9
    generalize (w.alloc (.cells (cmC p a_p n_p c_p b_p m_p d_p) 25)) = w1 at *
    have c := cmGreat_any w1 (p := p) h_pl_1 h_pb_1
    rw [E1.out] at c
    refine c.mono ?_
    rintro e w2 ⟨rfl, hb⟩
    clear c
    have B2 := B1.trans (hb.mono B1.size)
    have h_pl_2 := h_pl_1.below hb
    have h_pb_2 := h_pb_1.below hb
    have h_p_2 := h_p_1.later hb
    clear hb B1 h_pl_1 h_pb_1 h_p_1
    have k_p_0 := h_p_2.cell 0 _ rfl
    have k_p_1 := h_p_2.cell 1 _ rfl
    have k_p_2 := h_p_2.cell 2 _ rfl
    have k_p_3 := h_p_2.cell 3 _ rfl
    have k_p_4 := h_p_2.cell 4 _ rfl
    have k_p_5 := h_p_2.cell 5 _ rfl
    have k_p_6 := h_p_2.cell 6 _ rfl
    have k_p_7 := h_p_2.cell 7 _ rfl
    have k_p_8 := h_p_2.cell 8 _ rfl
    have k_p_9 := h_p_2.cell 9 _ rfl
    go_wp2_with fail
    clear k_p_0 k_p_1 k_p_2 k_p_3 k_p_4 k_p_5 k_p_6 k_p_7 k_p_8 k_p_9
    have c := refCmCheck_any w2 (q := p) h_pl_2 h_pb_2 pw_p
    rw [E2.out] at c
    refine c.mono ?_
    rintro e w3 ⟨rfl, hb⟩
    clear c
    have B3 := B2.trans (hb.mono B2.size)
    have h_pl_3 := h_pl_2.below hb
    have h_pb_3 := h_pb_2.below hb
    have h_p_3 := h_p_2.later hb
    clear hb B2 h_pl_2 h_pb_2 h_p_2
    have k_p_1 := h_p_3.cell 1 _ rfl
    go_wp2_with fail
    clear k_p_1
    have c := examples_any w3
    refine c.mono ?_
    rintro e w4 ⟨rfl, hb⟩
    clear c
    have B4 := B3.trans (hb.mono B3.size)
    have h_pl_4 := h_pl_3.below hb
    have h_pb_4 := h_pb_3.below hb
    have h_p_4 := h_p_3.later hb
    clear hb B3 h_pl_3 h_pb_3 h_p_3
    go_wp2_with fail
    go_ret
    exact ⟨rfl, B4⟩
  have n1a : 1 ≤ p.ballots := V0.out.may.2.1.1
  have du1 : decide (1000 < p.ballots) = false := decide_eq_false xu1
  have dvtw : decide (tw < 0) = false := decide_eq_false xvtw
  have dvon : decide (on < 0) = false := decide_eq_false xvon
  have dvmi : decide (mi < 0) = false := decide_eq_false xvmi
  have dvle : decide (le < 0) = false := decide_eq_false xvle
  have dutw : decide (1000 < tw) = false := decide_eq_false xutw
  have duon : decide (1000 < on) = false := decide_eq_false xuon
  have dumi : decide (1000 < mi) = false := decide_eq_false xumi
  have dule : decide (1000 < le) = false := decide_eq_false xule
  have twa : 0 ≤ tw := by omega
  have twb : tw ≤ 1000 := by omega
  have ona : 0 ≤ on := by omega
  have onb : on ≤ 1000 := by omega
  have mia : 0 ≤ mi := by omega
  have mib : mi ≤ 1000 := by omega
  have lea : 0 ≤ le := by omega
  have leb : le ≤ 1000 := by omega
  have n1b : p.ballots ≤ 1000 := by omega
  clear xu1 xvtw xvon xvmi xvle xutw xuon xumi xule
  by_cases xs : p.ballots < tw + on + mi + le
  case pos =>
    have ds : decide (p.ballots < tw + on + mi + le) = true := decide_eq_true xs
    clear xs
    go_enter Try.func5, Try.ntmps5
    have hb := below_al w (.cells (cmC p a_p n_p c_p b_p m_p d_p) 25)
    have B1 := B0.trans (hb.mono B0.size)
    have h_pl_1 := h_pl_0.below hb
    have h_pb_1 := h_pb_0.below hb
    clear hb B0 h_pl_0 h_pb_0
    have h_p_1 := Has.new w (cmC p a_p n_p c_p b_p m_p d_p) 25
    have k_p_0 := h_p_1.cell 0 _ rfl
    have k_p_1 := h_p_1.cell 1 _ rfl
    have k_p_2 := h_p_1.cell 2 _ rfl
    have k_p_3 := h_p_1.cell 3 _ rfl
    have k_p_4 := h_p_1.cell 4 _ rfl
    have k_p_5 := h_p_1.cell 5 _ rfl
    have k_p_6 := h_p_1.cell 6 _ rfl
    have k_p_7 := h_p_1.cell 7 _ rfl
    have k_p_8 := h_p_1.cell 8 _ rfl
    have k_p_9 := h_p_1.cell 9 _ rfl
    go_wp2_with fail
    clear k_p_0 k_p_1 k_p_2 k_p_3 k_p_4 k_p_5 k_p_6 k_p_7 k_p_8 k_p_9
    generalize (w.alloc (.cells (cmC p a_p n_p c_p b_p m_p d_p) 25)) = w1 at *
    have c := cmGreat_any w1 (p := p) h_pl_1 h_pb_1
    rw [E1.out] at c
    refine c.mono ?_
    rintro e w2 ⟨rfl, hb⟩
    clear c
    have B2 := B1.trans (hb.mono B1.size)
    have h_pl_2 := h_pl_1.below hb
    have h_pb_2 := h_pb_1.below hb
    have h_p_2 := h_p_1.later hb
    clear hb B1 h_pl_1 h_pb_1 h_p_1
    have k_p_0 := h_p_2.cell 0 _ rfl
    have k_p_1 := h_p_2.cell 1 _ rfl
    have k_p_2 := h_p_2.cell 2 _ rfl
    have k_p_3 := h_p_2.cell 3 _ rfl
    have k_p_4 := h_p_2.cell 4 _ rfl
    have k_p_5 := h_p_2.cell 5 _ rfl
    have k_p_6 := h_p_2.cell 6 _ rfl
    have k_p_7 := h_p_2.cell 7 _ rfl
    have k_p_8 := h_p_2.cell 8 _ rfl
    have k_p_9 := h_p_2.cell 9 _ rfl
    go_wp2_with fail
    clear k_p_0 k_p_1 k_p_2 k_p_3 k_p_4 k_p_5 k_p_6 k_p_7 k_p_8 k_p_9
    have c := refCmCheck_any w2 (q := p) h_pl_2 h_pb_2 pw_p
    rw [E2.out] at c
    refine c.mono ?_
    rintro e w3 ⟨rfl, hb⟩
    clear c
    have B3 := B2.trans (hb.mono B2.size)
    have h_pl_3 := h_pl_2.below hb
    have h_pb_3 := h_pb_2.below hb
    have h_p_3 := h_p_2.later hb
    clear hb B2 h_pl_2 h_pb_2 h_p_2
    have k_p_1 := h_p_3.cell 1 _ rfl
    go_wp2_with fail
    clear k_p_1
    have c := examples_any w3
    refine c.mono ?_
    rintro e w4 ⟨rfl, hb⟩
    clear c
    have B4 := B3.trans (hb.mono B3.size)
    have h_pl_4 := h_pl_3.below hb
    have h_pb_4 := h_pb_3.below hb
    have h_p_4 := h_p_3.later hb
    clear hb B3 h_pl_3 h_pb_3 h_p_3
    go_wp2_with fail
    go_ret
    exact ⟨rfl, B4⟩
  have ds : decide (p.ballots < tw + on + mi + le) = false := decide_eq_false xs
  have sm : tw + on + mi + le ≤ p.ballots := by omega
  clear xs
  go_enter Try.func5, Try.ntmps5
  have hb := below_al w (.cells (cmC p a_p n_p c_p b_p m_p d_p) 25)
  have B1 := B0.trans (hb.mono B0.size)
  have h_pl_1 := h_pl_0.below hb
  have h_pb_1 := h_pb_0.below hb
  clear hb B0 h_pl_0 h_pb_0
  have h_p_1 := Has.new w (cmC p a_p n_p c_p b_p m_p d_p) 25
  have k_p_0 := h_p_1.cell 0 _ rfl
  have k_p_1 := h_p_1.cell 1 _ rfl
  have k_p_2 := h_p_1.cell 2 _ rfl
  have k_p_3 := h_p_1.cell 3 _ rfl
  have k_p_4 := h_p_1.cell 4 _ rfl
  have k_p_5 := h_p_1.cell 5 _ rfl
  have k_p_6 := h_p_1.cell 6 _ rfl
  have k_p_7 := h_p_1.cell 7 _ rfl
  have k_p_8 := h_p_1.cell 8 _ rfl
  have k_p_9 := h_p_1.cell 9 _ rfl
  go_wp2_with fail
  clear k_p_0 k_p_1 k_p_2 k_p_3 k_p_4 k_p_5 k_p_6 k_p_7 k_p_8 k_p_9
  generalize (w.alloc (.cells (cmC p a_p n_p c_p b_p m_p d_p) 25)) = w1 at *
  have c := cmGreat_any w1 (p := p) h_pl_1 h_pb_1
  rw [E1.out] at c
  refine c.mono ?_
  rintro e w2 ⟨rfl, hb⟩
  clear c
  have B2 := B1.trans (hb.mono B1.size)
  have h_pl_2 := h_pl_1.below hb
  have h_pb_2 := h_pb_1.below hb
  have h_p_2 := h_p_1.later hb
  clear hb B1 h_pl_1 h_pb_1 h_p_1
  have k_p_0 := h_p_2.cell 0 _ rfl
  have k_p_1 := h_p_2.cell 1 _ rfl
  have k_p_2 := h_p_2.cell 2 _ rfl
  have k_p_3 := h_p_2.cell 3 _ rfl
  have k_p_4 := h_p_2.cell 4 _ rfl
  have k_p_5 := h_p_2.cell 5 _ rfl
  have k_p_6 := h_p_2.cell 6 _ rfl
  have k_p_7 := h_p_2.cell 7 _ rfl
  have k_p_8 := h_p_2.cell 8 _ rfl
  have k_p_9 := h_p_2.cell 9 _ rfl
  go_wp2_with fail
  clear k_p_0 k_p_1 k_p_2 k_p_3 k_p_4 k_p_5 k_p_6 k_p_7 k_p_8 k_p_9
  have c := refCmCheck_any w2 (q := p) h_pl_2 h_pb_2 pw_p
  rw [E2.out] at c
  refine c.mono ?_
  rintro e w3 ⟨rfl, hb⟩
  clear c
  have B3 := B2.trans (hb.mono B2.size)
  have h_pl_3 := h_pl_2.below hb
  have h_pb_3 := h_pb_2.below hb
  have h_p_3 := h_p_2.later hb
  clear hb B2 h_pl_2 h_pb_2 h_p_2
  have k_p_1 := h_p_3.cell 1 _ rfl
  have hb := below_al w3 (.cells #[.int .i64 le, .int .i64 mi, .int .i64 (p.ballots - tw - on - mi - le), .int .i64 on, .int .i64 tw] 22)
  have B4 := B3.trans (hb.mono B3.size)
  have h_pl_4 := h_pl_3.below hb
  have h_pb_4 := h_pb_3.below hb
  have h_p_4 := h_p_3.later hb
  clear hb B3 h_pl_3 h_pb_3 h_p_3
  have h_m_4 := Has.new w3 #[.int .i64 le, .int .i64 mi, .int .i64 (p.ballots - tw - on - mi - le), .int .i64 on, .int .i64 tw] 22
  go_upto_region 4 with (first | refine wpList_store_new rfl 22 _ _ rfl at5 _ _ _ rfl rfl rfl rfl (five_one _ _ _ _ _) ?_)
  clear k_p_1
  generalize (w3.alloc (.cells #[.int .i64 le, .int .i64 mi, .int .i64 (p.ballots - tw - on - mi - le), .int .i64 on, .int .i64 tw] 22)) = w4 at *
  obtain ⟨K0, hK0⟩ : ∃ K, K = nextC p La (-2 : Int) := ⟨_, rfl⟩
  obtain ⟨K1, hK1⟩ : ∃ K, K = nextC p La (-1 : Int) := ⟨_, rfl⟩
  obtain ⟨K2, hK2⟩ : ∃ K, K = nextC p La (0 : Int) := ⟨_, rfl⟩
  obtain ⟨K3, hK3⟩ : ∃ K, K = nextC p La (1 : Int) := ⟨_, rfl⟩
  obtain ⟨K4, hK4⟩ : ∃ K, K = nextC p La (2 : Int) := ⟨_, rfl⟩
  have KE := Lib.hid (show K0 = nextC p La (-2) ∧ K1 = nextC p La (-1) ∧ K2 = nextC p La 0 ∧ K3 = nextC p La 1 ∧ K4 = nextC p La 2 from ⟨hK0, hK1, hK2, hK3, hK4⟩)
  have KB := Lib.hid (show K0 < pw 5 ∧ K1 < pw 5 ∧ K2 < pw 5 ∧ K3 < pw 5 ∧ K4 < pw 5 by rw [hK0, hK1, hK2, hK3, hK4]; exact ⟨nextC_5, nextC_5, nextC_5, nextC_5, nextC_5⟩)
  have KM := Lib.hid (show K4 ≤ K3 ∧ K3 ≤ K2 ∧ K2 ≤ K1 ∧ K1 ≤ K0 by rw [hK0, hK1, hK2, hK3, hK4]; exact ⟨nextC_mono V0.out.may (by decide), nextC_mono V0.out.may (by decide), nextC_mono V0.out.may (by decide), nextC_mono V0.out.may (by decide)⟩)
  obtain ⟨Z, hZ⟩ : ∃ Z, Z = p.ballots - tw - on - mi - le := ⟨_, rfl⟩
  have HZ := Lib.hid hZ
  have Za : 0 ≤ Z := by omega
  have Zb : Z ≤ 1000 := by omega
  rw [← hZ] at h_m_4
  have BASE := B4
  clear hK0 hK1 hK2 hK3 hK4 hZ sm
  go_wp2_with fail
  go_loopw [12, 13, 14, 15] (fun s l v i wr => Below w4.heap.size w4 wr ∧ ∃ (sa : Option Addr) (sn sc : Nat) (la : Option Addr) (ln lc : Nat) (Sv Lv : Nat), s = .slice sa sn sc ∧ l = .slice la ln lc ∧ Rd .u32 wr sa sn sc (limbs Sv) ∧ Rd .u32 wr la ln lc (limbs Lv) ∧
      ((i = .int .i64 2 ∧ v = .int .i64 0 ∧ Hid (Sv = 0 ∧ Lv = 0)) ∨
       (i = .int .i64 1 ∧ v = .int .i64 (2 * tw) ∧ Hid (Sv = K4 * tw.toNat ∧ Lv = K4)) ∨
       (i = .int .i64 0 ∧ v = .int .i64 (2 * tw + on) ∧ Hid (Sv = K4 * tw.toNat + K3 * on.toNat ∧ Lv = K3)) ∨
       (i = .int .i64 (-1) ∧ v = .int .i64 (2 * tw + on) ∧ Hid (Sv = K4 * tw.toNat + K3 * on.toNat + K2 * Z.toNat ∧ Lv = K2)) ∨
       (i = .int .i64 (-2) ∧ v = .int .i64 (2 * tw + on - mi) ∧ Hid (Sv = K4 * tw.toNat + K3 * on.toNat + K2 * Z.toNat + K1 * mi.toNat ∧ Lv = K1)) ∨
       (i = .int .i64 (-3) ∧ v = .int .i64 (2 * tw + on - mi - 2 * le) ∧ Hid (Sv = K4 * tw.toNat + K3 * on.toNat + K2 * Z.toNat + K1 * mi.toNat + K0 * le.toNat ∧ Lv = K0)))) (fun _ _ _ i _ => (intOf i + 3).toNat)
  case atStart =>
    refine ⟨?_, _, _, _, _, _, _, 0, 0, rfl, rfl, ?_, ?_, .inl ⟨rfl, rfl, Lib.hid ⟨rfl, rfl⟩⟩⟩
    · exact (below_al _ _).trans ((below_al _ _).mono (by simp))
    · exact (rd_emptyC _).below (below_al _ _)
    · have h := rd_emptyC (w4.alloc (.cells #[] 68))
      simp only [World.size_alloc] at h
      exact h
  case round =>
    obtain ⟨BW, sa, sn, sc, la, ln, lc, Sv, Lv, rfl, rfl, rs, rl, hways⟩ := hrel
    rcases hways with ⟨rfl, rfl, HI⟩ | ⟨rfl, rfl, HI⟩ | ⟨rfl, rfl, HI⟩ | ⟨rfl, rfl, HI⟩ | ⟨rfl, rfl, HI⟩ | ⟨rfl, rfl, HI⟩
    · have B100 := BASE.trans (BW.mono BASE.size)
      have h_pl_100 := h_pl_4.below BW
      have h_pb_100 := h_pb_4.below BW
      have h_p_100 := h_p_4.later BW
      have h_m_100 := h_m_4.later BW
      have h_s_100 := rs
      have h_l_100 := rl
      have h_BW_100 := BW
      clear rs rl BW
      by_cases x2 : p.s4 = 1000000
      case pos =>
        have df : (p.s4 == 1000000) = true := beq_iff_eq.2 x2
        clear x2
        have k_p_7 := h_p_100.cell 7 _ rfl
        go_wp2_with fail
        clear k_p_7
        have c := examples_any wr
        refine c.mono ?_
        rintro e w101 ⟨rfl, hb⟩
        clear c
        have B101 := B100.trans (hb.mono B100.size)
        have h_pl_101 := h_pl_100.below hb
        have h_pb_101 := h_pb_100.below hb
        have h_p_101 := h_p_100.later hb
        have h_m_101 := h_m_100.later hb
        have h_s_101 := h_s_100.below hb
        have h_l_101 := h_l_100.below hb
        have h_BW_101 := h_BW_100.trans (hb.mono h_BW_100.size)
        clear hb B100 h_pl_100 h_pb_100 h_p_100 h_m_100 h_s_100 h_l_100 h_BW_100
        go_wp2_with fail
        go_ret
        exact ⟨rfl, B101⟩
      have df : (p.s4 == 1000000) = false := beq_eq_false_iff_ne.2 x2
      have OB := Lib.hid (obs_oneC V0.out (x := (2 : Int)) (by decide) (by decide) (by show p.s4 < 1000000; have := V0.out.s4; unfold inS at this; omega))
      have SL := Lib.hid ((stepC_lev V0.out (2 : Int)).trans (congrArg limbs (KE.out.2.2.2.2).symm))
      obtain ⟨M, hM⟩ : ∃ M : Nat, M = tw.toNat := ⟨_, rfl⟩
      have cv : IntKind.u64.wrap tw = (M : Int) := by
        simp only [IntKind.wrap, IntKind.bits, IntKind.signed]
        simp
        omega
      have HM := Lib.hid (show M = tw.toNat ∧ M ≤ 1000 from ⟨hM, by omega⟩)
      clear hM x2
      have k_p_0 := h_p_100.cell 0 _ rfl
      have k_p_1 := h_p_100.cell 1 _ rfl
      have k_p_2 := h_p_100.cell 2 _ rfl
      have k_p_3 := h_p_100.cell 3 _ rfl
      have k_p_4 := h_p_100.cell 4 _ rfl
      have k_p_5 := h_p_100.cell 5 _ rfl
      have k_p_6 := h_p_100.cell 6 _ rfl
      have k_p_7 := h_p_100.cell 7 _ rfl
      have k_p_8 := h_p_100.cell 8 _ rfl
      have k_p_9 := h_p_100.cell 9 _ rfl
      have hb := below_al wr (.cells #[.int .i64 (2 : Int)] 3)
      have B101 := B100.trans (hb.mono B100.size)
      have h_pl_101 := h_pl_100.below hb
      have h_pb_101 := h_pb_100.below hb
      have h_p_101 := h_p_100.later hb
      have h_m_101 := h_m_100.later hb
      have h_s_101 := h_s_100.below hb
      have h_l_101 := h_l_100.below hb
      have h_BW_101 := h_BW_100.trans (hb.mono h_BW_100.size)
      clear hb B100 h_pl_100 h_pb_100 h_p_100 h_m_100 h_s_100 h_l_100 h_BW_100
      have h_li_101 := rdI_lone wr (2 : Int) (by unfold wide64; decide)
      go_wp2_with fail
      clear k_p_0 k_p_1 k_p_2 k_p_3 k_p_4 k_p_5 k_p_6 k_p_7 k_p_8 k_p_9
      generalize (wr.alloc (.cells #[.int .i64 (2 : Int)] 3)) = w101 at *
      have c := cmObserve_any w101 h_pl_101 h_pb_101 pw_p h_li_101
      rw [OB.out] at c
      refine c.mono ?_
      rintro e w102 ⟨a_o, n_o, c_o, b_o, m_o, d_o, rfl, h_ol_102, h_ob_102, hb⟩
      clear c
      have B102 := B101.trans (hb.mono B101.size)
      have h_pl_102 := h_pl_101.below hb
      have h_pb_102 := h_pb_101.below hb
      have h_p_102 := h_p_101.later hb
      have h_m_102 := h_m_101.later hb
      have h_s_102 := h_s_101.below hb
      have h_l_102 := h_l_101.below hb
      have h_BW_102 := h_BW_101.trans (hb.mono h_BW_101.size)
      clear hb B101 h_pl_101 h_pb_101 h_p_101 h_m_101 h_s_101 h_l_101 h_BW_101 h_li_101
      have hb := below_al w102 (.cells (cmC (stepC p (2 : Int)) a_o n_o c_o b_o m_o d_o) 25)
      have B103 := B102.trans (hb.mono B102.size)
      have h_pl_103 := h_pl_102.below hb
      have h_pb_103 := h_pb_102.below hb
      have h_p_103 := h_p_102.later hb
      have h_m_103 := h_m_102.later hb
      have h_s_103 := h_s_102.below hb
      have h_l_103 := h_l_102.below hb
      have h_BW_103 := h_BW_102.trans (hb.mono h_BW_102.size)
      have h_ol_103 := h_ol_102.below hb
      have h_ob_103 := h_ob_102.below hb
      clear hb B102 h_pl_102 h_pb_102 h_p_102 h_m_102 h_s_102 h_l_102 h_BW_102 h_ol_102 h_ob_102
      have h_o_103 := Has.new w102 (cmC (stepC p (2 : Int)) a_o n_o c_o b_o m_o d_o) 25
      go_upto_region 13 with (first | refine wpList_store_new rfl 25 _ _ rfl atCmp _ _ _ rfl rfl rfl rfl (cm_one (stepC p (2 : Int)) _ _ _ _ _ _) ?_)
      generalize (w102.alloc (.cells (cmC (stepC p (2 : Int)) a_o n_o c_o b_o m_o d_o) 25)) = w103 at *
      have wq : IntKind.i64.wrap 4 = 4 := by decide
      have hb := (Below.refl w103.heap.size w103).drew
      have B104 := B103.trans (hb.mono B103.size)
      have h_pl_104 := h_pl_103.below hb
      have h_pb_104 := h_pb_103.below hb
      have h_p_104 := h_p_103.later hb
      have h_m_104 := h_m_103.later hb
      have h_s_104 := h_s_103.below hb
      have h_l_104 := h_l_103.below hb
      have h_BW_104 := h_BW_103.trans (hb.mono h_BW_103.size)
      have h_ol_104 := h_ol_103.below hb
      have h_ob_104 := h_ob_103.below hb
      have h_o_104 := h_o_103.later hb
      clear hb B103 h_pl_103 h_pb_103 h_p_103 h_m_103 h_s_103 h_l_103 h_BW_103 h_ol_103 h_ob_103 h_o_103
      refine wp_region_held_drew (S := (fun w' => w'.cell? ⟨w102.heap.size, 8, none⟩ = some (.slice a_o n_o c_o) ∧ w'.cell? ⟨w3.heap.size, 4, none⟩ = some (.int .i64 tw) ∧ True)) (by kernel_rfl) ?_ (fun hHeld => ?_)
      · exact ⟨h_o_104.cell 8 _ rfl, h_m_104.cell 4 _ rfl, trivial⟩
      generalize w103.drew = w104 at *
      refine wpAnyH_take (i := 0) (oi := ?a1_0) (v := ?b1_0) ?c1_0 (by kernel_rfl) (by kernel_rfl) (by kernel_rfl) ?d1_0 ?e1_0 (by assumption) ?f1_0
      case c1_0 => simp only [tA, tS, tZ]; rfl
      case d1_0 => exact fun _ _ _ h => h
      case e1_0 => (refine Or.inl ⟨by rfl, ?_⟩; intro w h; (try dsimp only at h); go_simp; all_goals with_reducible rfl)
      try simp only [Act.put, tI, tP, tQ]
      refine wpAnyH_take (i := 1) (oi := ?a1_1) (v := ?b1_1) ?c1_1 (by kernel_rfl) (by kernel_rfl) (by kernel_rfl) ?d1_1 ?e1_1 (by assumption) ?f1_1
      case c1_1 => simp only [tA, tS, tZ]; rfl
      case d1_1 => exact fun _ _ _ h => h
      case e1_1 => (refine Or.inl ⟨by rfl, ?_⟩; intro w h; (try dsimp only at h); go_simp; all_goals with_reducible rfl)
      try simp only [Act.put, tI, tP, tQ]
      refine wpAnyH_take (i := 2) (oi := ?a1_2) (v := ?b1_2) ?c1_2 (by kernel_rfl) (by kernel_rfl) (by kernel_rfl) ?d1_2 ?e1_2 (by assumption) ?f1_2
      case c1_2 => simp only [tA, tS, tZ]; rfl
      case d1_2 => exact fun _ _ _ h => h
      case e1_2 => (refine Or.inl ⟨by rfl, ?_⟩; intro w h; (try dsimp only at h); go_simp; all_goals with_reducible rfl)
      try simp only [Act.put, tI, tP, tQ]
      refine wpAnyH_take (i := 3) (oi := ?a1_3) (v := ?b1_3) ?c1_3 (by kernel_rfl) (by kernel_rfl) (by kernel_rfl) ?d1_3 ?e1_3 (by assumption) ?f1_3
      case c1_3 => simp only [tA, tS, tZ]; rfl
      case d1_3 => exact fun _ _ _ h => h
      case e1_3 => (refine Or.inl ⟨by rfl, ?_⟩; intro w h; (try dsimp only at h); go_simp; all_goals with_reducible rfl)
      try simp only [Act.put, tI, tP, tQ]
      refine wpAnyH_take (i := 4) (oi := ?a1_4) (v := ?b1_4) ?c1_4 (by kernel_rfl) (by kernel_rfl) (by kernel_rfl) ?d1_4 ?e1_4 (by assumption) ?f1_4
      case c1_4 => simp only [tA, tS, tZ]; rfl
      case d1_4 => exact fun _ _ _ h => h
      case e1_4 => (refine Or.inl ⟨by rfl, ?_⟩; intro w h; (try dsimp only at h); go_simp; all_goals with_reducible rfl)
      try simp only [Act.put, tI, tP, tQ]
      refine wpAnyH_take (i := 5) (oi := ?a1_5) (v := ?b1_5) ?c1_5 (by kernel_rfl) (by kernel_rfl) (by kernel_rfl) ?d1_5 ?e1_5 (by assumption) ?f1_5
      case c1_5 => simp only [tA, tS, tZ]; rfl
      case d1_5 => exact fun _ _ _ h => h
      case e1_5 => (refine Or.inl ⟨by rfl, ?_⟩; intro w h; (try dsimp only at h); go_simp; all_goals with_reducible rfl)
      try simp only [Act.put, tI, tP, tQ]
      refine wpAnyH_take (i := 6) (oi := ?a1_6) (v := ?b1_6) ?c1_6 (by kernel_rfl) (by kernel_rfl) (by kernel_rfl) ?d1_6 ?e1_6 (by assumption) ?f1_6
      case c1_6 => simp only [tA, tS, tZ]; rfl
      case d1_6 => exact fun _ _ _ h => h
      case e1_6 => (refine Or.inl ⟨by rfl, ?_⟩; intro w h; (try dsimp only at h); go_simp; all_goals with_reducible rfl)
      try simp only [Act.put, tI, tP, tQ]
      refine wpAnyH_ready (rs := [7]) (by kernel_rfl) (by simp) ?_
      refine AllReadyH.cons (o := ?or2_7) ?hor2_7 (fun K hK => ?kr2_7) AllReadyH.nil
      case hor2_7 => simp only [List.getElem?_toArray, List.getElem?_cons_succ, List.getElem?_cons_zero]; rfl
      go_simp
      have c := refOf_any w104 M (by have := HM.out.2; omega)
      refine c.mono ?_
      rintro e w105 ⟨a_f, n_f, c_f, rfl, h_f_105, hb⟩
      clear c
      have B105 := B104.trans (hb.mono B104.size)
      have h_pl_105 := h_pl_104.below hb
      have h_pb_105 := h_pb_104.below hb
      have h_p_105 := h_p_104.later hb
      have h_m_105 := h_m_104.later hb
      have h_s_105 := h_s_104.below hb
      have h_l_105 := h_l_104.below hb
      have h_BW_105 := h_BW_104.trans (hb.mono h_BW_104.size)
      have h_ol_105 := h_ol_104.below hb
      have h_ob_105 := h_ob_104.below hb
      have h_o_105 := h_o_104.later hb
      clear hb B104 h_pl_104 h_pb_104 h_p_104 h_m_104 h_s_104 h_l_104 h_BW_104 h_ol_104 h_ob_104 h_o_104
      go_wp2_with fail
      clear hHeld
      refine hK.out _ _ ?_ (fun hHeld => ?_)
      · exact ⟨h_o_105.cell 8 _ rfl, h_m_105.cell 4 _ rfl, trivial⟩
      clear hK K
      try simp only [Act.put, List.setIfInBounds_toArray, List.set_cons_zero, List.set_cons_succ]
      refine wpAnyH_ready (rs := [8]) (by kernel_rfl) (by simp) ?_
      refine AllReadyH.cons (o := ?or3_8) ?hor3_8 (fun K hK => ?kr3_8) AllReadyH.nil
      case hor3_8 => simp only [List.getElem?_toArray, List.getElem?_cons_succ, List.getElem?_cons_zero]; rfl
      go_simp
      have hol := h_ol_105
      rw [SL.out] at hol
      have c := refMul_any w105 hol h_f_105
      rw [mul_ok (Nat.lt_of_lt_of_le KB.out.2.2.2.2 (pw_le (by decide))) (Nat.lt_of_le_of_lt HM.out.2 (Nat.lt_of_lt_of_le (by decide) (pw_le (show 1 ≤ 96 by decide)))) (Nat.lt_of_lt_of_le (mul_lt_pw KB.out.2.2.2.2 (show M < pw 1 from Nat.lt_of_le_of_lt HM.out.2 (by decide))) (pw_le (by decide)))] at c
      refine c.mono ?_
      rintro e w106 ⟨a_x, n_x, c_x, rfl, h_x_106, hb⟩
      clear c
      have B106 := B105.trans (hb.mono B105.size)
      have h_pl_106 := h_pl_105.below hb
      have h_pb_106 := h_pb_105.below hb
      have h_p_106 := h_p_105.later hb
      have h_m_106 := h_m_105.later hb
      have h_s_106 := h_s_105.below hb
      have h_l_106 := h_l_105.below hb
      have h_BW_106 := h_BW_105.trans (hb.mono h_BW_105.size)
      have h_ol_106 := h_ol_105.below hb
      have h_ob_106 := h_ob_105.below hb
      have h_o_106 := h_o_105.later hb
      clear hb B105 h_pl_105 h_pb_105 h_p_105 h_m_105 h_s_105 h_l_105 h_BW_105 h_ol_105 h_ob_105 h_o_105 h_f_105
      clear hol
      go_wp2_with fail
      clear hHeld
      refine hK.out _ _ ?_ (fun hHeld => ?_)
      · exact ⟨h_o_106.cell 8 _ rfl, h_m_106.cell 4 _ rfl, trivial⟩
      clear hK K
      try simp only [Act.put, List.setIfInBounds_toArray, List.set_cons_zero, List.set_cons_succ]
      refine wpAnyH_take (i := 9) (oi := ?a4_9) (v := ?b4_9) ?c4_9 (by kernel_rfl) (by kernel_rfl) (by kernel_rfl) ?d4_9 ?e4_9 (by assumption) ?f4_9
      case c4_9 => simp only [tA, tS, tZ]; rfl
      case d4_9 => exact fun _ _ _ h => h
      case e4_9 => (refine Or.inl ⟨by rfl, ?_⟩; intro w h; (try dsimp only at h); go_simp; all_goals with_reducible rfl)
      try simp only [Act.put, tI, tP, tQ]
      refine wpAnyH_take (i := 10) (oi := ?a4_10) (v := ?b4_10) ?c4_10 (by kernel_rfl) (by kernel_rfl) (by kernel_rfl) ?d4_10 ?e4_10 (by assumption) ?f4_10
      case c4_10 => simp only [tA, tS, tZ]; rfl
      case d4_10 => exact fun _ _ _ h => h
      case e4_10 => (refine Or.inl ⟨by rfl, ?_⟩; intro w h; (try dsimp only at h); go_simp; all_goals with_reducible rfl)
      try simp only [Act.put, tI, tP, tQ]
      refine wpAnyH_take (i := 11) (oi := ?a4_11) (v := ?b4_11) ?c4_11 (by kernel_rfl) (by kernel_rfl) (by kernel_rfl) ?d4_11 ?e4_11 (by assumption) ?f4_11
      case c4_11 => simp only [tA, tS, tZ]; rfl
      case d4_11 => exact fun _ _ _ h => h
      case e4_11 => (refine Or.inl ⟨by rfl, ?_⟩; intro w h; (try dsimp only at h); go_simp; all_goals with_reducible rfl)
      try simp only [Act.put, tI, tP, tQ]
      refine wpAnyH_take (i := 12) (oi := ?a4_12) (v := ?b4_12) ?c4_12 (by kernel_rfl) (by kernel_rfl) (by kernel_rfl) ?d4_12 ?e4_12 (by assumption) ?f4_12
      case c4_12 => simp only [tA, tS, tZ]; rfl
      case d4_12 => exact fun _ _ _ h => h
      case e4_12 => (refine Or.inl ⟨by rfl, ?_⟩; intro w h; (try dsimp only at h); go_simp; all_goals with_reducible rfl)
      try simp only [Act.put, tI, tP, tQ]
      refine wpAnyH_take (i := 13) (oi := ?a4_13) (v := ?b4_13) ?c4_13 (by kernel_rfl) (by kernel_rfl) (by kernel_rfl) ?d4_13 ?e4_13 (by assumption) ?f4_13
      case c4_13 => simp only [tA, tS, tZ]; rfl
      case d4_13 => exact fun _ _ _ h => h
      case e4_13 => (refine Or.inl ⟨by rfl, ?_⟩; intro w h; (try dsimp only at h); go_simp; all_goals with_reducible rfl)
      try simp only [Act.put, tI, tP, tQ]
      refine wpAnyH_done (by kernel_rfl) ?_ _
      clear hHeld
      have SB : Sv < pw 8 ∧ Sv + K4 * M < pw 8 := by
        have hm := HM.out.2
        have e5 : pw 5 * 6000 ≤ pw 8 := by decide
        have kb := KB.out
        have q0 : K4 * 0 ≤ pw 5 * 1000 := Nat.mul_le_mul (Nat.le_of_lt kb.2.2.2.2) (by omega)
        have q1 : K3 * 0 ≤ pw 5 * 1000 := Nat.mul_le_mul (Nat.le_of_lt kb.2.2.2.1) (by omega)
        have q2 : K2 * 0 ≤ pw 5 * 1000 := Nat.mul_le_mul (Nat.le_of_lt kb.2.2.1) (by omega)
        have q3 : K1 * 0 ≤ pw 5 * 1000 := Nat.mul_le_mul (Nat.le_of_lt kb.2.1) (by omega)
        have q4 : K0 * 0 ≤ pw 5 * 1000 := Nat.mul_le_mul (Nat.le_of_lt kb.1) (by omega)
        have qq : K4 * M ≤ pw 5 * 1000 := Nat.mul_le_mul (Nat.le_of_lt kb.2.2.2.2) hm
        have hs : Sv = 0 := HI.out.1
        have p5 : 0 < pw 5 := pw_pos 5
        generalize pw 5 = P at *
        omega
      have SBH := Lib.hid SB
      clear SB
      go_wp2_with fail
      have c := refAdd_any w106 h_s_106 h_x_106
      rw [add_ok (Nat.lt_of_lt_of_le SBH.out.2 (pw_le (by decide)))] at c
      refine c.mono ?_
      rintro e w107 ⟨a_y, n_y, c_y, rfl, h_y_107, hb⟩
      clear c
      have B107 := B106.trans (hb.mono B106.size)
      have h_pl_107 := h_pl_106.below hb
      have h_pb_107 := h_pb_106.below hb
      have h_p_107 := h_p_106.later hb
      have h_m_107 := h_m_106.later hb
      have h_s_107 := h_s_106.below hb
      have h_l_107 := h_l_106.below hb
      have h_BW_107 := h_BW_106.trans (hb.mono h_BW_106.size)
      have h_ol_107 := h_ol_106.below hb
      have h_ob_107 := h_ob_106.below hb
      have h_o_107 := h_o_106.later hb
      have h_x_107 := h_x_106.below hb
      clear hb B106 h_pl_106 h_pb_106 h_p_106 h_m_106 h_s_106 h_l_106 h_BW_106 h_ol_106 h_ob_106 h_o_106 h_x_106
      have AL := Lib.hid (show leC (limbs Lv) (stepC p (2 : Int)).lev = true by
        rw [SL.out, leC_ok (by rw [show Lv = 0 from HI.out.2]; exact pw_pos 96) (Nat.lt_of_lt_of_le KB.out.2.2.2.2 (pw_le (by decide)))]
        refine decide_eq_true ?_
        rw [show Lv = 0 from HI.out.2]
        exact Nat.zero_le _)
      have k_o_8 := h_o_107.cell 8 _ rfl
      go_wp2_with fail
      clear k_o_8
      have c := refAtMost_any w107 h_l_107 h_ol_107
      rw [AL.out] at c
      refine c.mono ?_
      rintro e w108 ⟨rfl, hb⟩
      clear c
      have B108 := B107.trans (hb.mono B107.size)
      have h_pl_108 := h_pl_107.below hb
      have h_pb_108 := h_pb_107.below hb
      have h_p_108 := h_p_107.later hb
      have h_m_108 := h_m_107.later hb
      have h_s_108 := h_s_107.below hb
      have h_l_108 := h_l_107.below hb
      have h_BW_108 := h_BW_107.trans (hb.mono h_BW_107.size)
      have h_ol_108 := h_ol_107.below hb
      have h_ob_108 := h_ob_107.below hb
      have h_o_108 := h_o_107.later hb
      have h_x_108 := h_x_107.below hb
      have h_y_108 := h_y_107.below hb
      clear hb B107 h_pl_107 h_pb_107 h_p_107 h_m_107 h_s_107 h_l_107 h_BW_107 h_ol_107 h_ob_107 h_o_107 h_x_107 h_y_107
      have k_o_8 := h_o_108.cell 8 _ rfl
      have k_m_4 := h_m_108.cell 4 _ rfl
      have ol := h_ol_108
      rw [SL.out] at ol
      have yy := h_y_108
      go_wp2_with fail
      go_roundw
      case rel => exact ⟨h_BW_108, _, _, _, _, _, _, _, _, rfl, rfl, yy, ol, .inr (.inl ⟨by go_num, by first | go_num | exact congrArg (Value.int .i64) (by first | omega | (simp only [wrap64]; omega) | (simp only [IntKind.wrap_i64]; omega)), Lib.hid ⟨by rw [HI.out.1, Nat.zero_add, HM.out.1], rfl⟩⟩)⟩
      case measure => simp [intOf]
    · have B100 := BASE.trans (BW.mono BASE.size)
      have h_pl_100 := h_pl_4.below BW
      have h_pb_100 := h_pb_4.below BW
      have h_p_100 := h_p_4.later BW
      have h_m_100 := h_m_4.later BW
      have h_s_100 := rs
      have h_l_100 := rl
      have h_BW_100 := BW
      clear rs rl BW
      by_cases x2 : p.s3 = 1000000
      case pos =>
        have df : (p.s3 == 1000000) = true := beq_iff_eq.2 x2
        clear x2
        have k_p_6 := h_p_100.cell 6 _ rfl
        go_wp2_with fail
        clear k_p_6
        have c := examples_any wr
        refine c.mono ?_
        rintro e w101 ⟨rfl, hb⟩
        clear c
        have B101 := B100.trans (hb.mono B100.size)
        have h_pl_101 := h_pl_100.below hb
        have h_pb_101 := h_pb_100.below hb
        have h_p_101 := h_p_100.later hb
        have h_m_101 := h_m_100.later hb
        have h_s_101 := h_s_100.below hb
        have h_l_101 := h_l_100.below hb
        have h_BW_101 := h_BW_100.trans (hb.mono h_BW_100.size)
        clear hb B100 h_pl_100 h_pb_100 h_p_100 h_m_100 h_s_100 h_l_100 h_BW_100
        go_wp2_with fail
        go_ret
        exact ⟨rfl, B101⟩
      have df : (p.s3 == 1000000) = false := beq_eq_false_iff_ne.2 x2
      have OB := Lib.hid (obs_oneC V0.out (x := (1 : Int)) (by decide) (by decide) (by show p.s3 < 1000000; have := V0.out.s3; unfold inS at this; omega))
      have SL := Lib.hid ((stepC_lev V0.out (1 : Int)).trans (congrArg limbs (KE.out.2.2.2.1).symm))
      obtain ⟨M, hM⟩ : ∃ M : Nat, M = on.toNat := ⟨_, rfl⟩
      have cv : IntKind.u64.wrap on = (M : Int) := by
        simp only [IntKind.wrap, IntKind.bits, IntKind.signed]
        simp
        omega
      have HM := Lib.hid (show M = on.toNat ∧ M ≤ 1000 from ⟨hM, by omega⟩)
      clear hM x2
      have k_p_0 := h_p_100.cell 0 _ rfl
      have k_p_1 := h_p_100.cell 1 _ rfl
      have k_p_2 := h_p_100.cell 2 _ rfl
      have k_p_3 := h_p_100.cell 3 _ rfl
      have k_p_4 := h_p_100.cell 4 _ rfl
      have k_p_5 := h_p_100.cell 5 _ rfl
      have k_p_6 := h_p_100.cell 6 _ rfl
      have k_p_7 := h_p_100.cell 7 _ rfl
      have k_p_8 := h_p_100.cell 8 _ rfl
      have k_p_9 := h_p_100.cell 9 _ rfl
      have hb := below_al wr (.cells #[.int .i64 (1 : Int)] 3)
      have B101 := B100.trans (hb.mono B100.size)
      have h_pl_101 := h_pl_100.below hb
      have h_pb_101 := h_pb_100.below hb
      have h_p_101 := h_p_100.later hb
      have h_m_101 := h_m_100.later hb
      have h_s_101 := h_s_100.below hb
      have h_l_101 := h_l_100.below hb
      have h_BW_101 := h_BW_100.trans (hb.mono h_BW_100.size)
      clear hb B100 h_pl_100 h_pb_100 h_p_100 h_m_100 h_s_100 h_l_100 h_BW_100
      have h_li_101 := rdI_lone wr (1 : Int) (by unfold wide64; decide)
      go_wp2_with fail
      clear k_p_0 k_p_1 k_p_2 k_p_3 k_p_4 k_p_5 k_p_6 k_p_7 k_p_8 k_p_9
      generalize (wr.alloc (.cells #[.int .i64 (1 : Int)] 3)) = w101 at *
      have c := cmObserve_any w101 h_pl_101 h_pb_101 pw_p h_li_101
      rw [OB.out] at c
      refine c.mono ?_
      rintro e w102 ⟨a_o, n_o, c_o, b_o, m_o, d_o, rfl, h_ol_102, h_ob_102, hb⟩
      clear c
      have B102 := B101.trans (hb.mono B101.size)
      have h_pl_102 := h_pl_101.below hb
      have h_pb_102 := h_pb_101.below hb
      have h_p_102 := h_p_101.later hb
      have h_m_102 := h_m_101.later hb
      have h_s_102 := h_s_101.below hb
      have h_l_102 := h_l_101.below hb
      have h_BW_102 := h_BW_101.trans (hb.mono h_BW_101.size)
      clear hb B101 h_pl_101 h_pb_101 h_p_101 h_m_101 h_s_101 h_l_101 h_BW_101 h_li_101
      have hb := below_al w102 (.cells (cmC (stepC p (1 : Int)) a_o n_o c_o b_o m_o d_o) 25)
      have B103 := B102.trans (hb.mono B102.size)
      have h_pl_103 := h_pl_102.below hb
      have h_pb_103 := h_pb_102.below hb
      have h_p_103 := h_p_102.later hb
      have h_m_103 := h_m_102.later hb
      have h_s_103 := h_s_102.below hb
      have h_l_103 := h_l_102.below hb
      have h_BW_103 := h_BW_102.trans (hb.mono h_BW_102.size)
      have h_ol_103 := h_ol_102.below hb
      have h_ob_103 := h_ob_102.below hb
      clear hb B102 h_pl_102 h_pb_102 h_p_102 h_m_102 h_s_102 h_l_102 h_BW_102 h_ol_102 h_ob_102
      have h_o_103 := Has.new w102 (cmC (stepC p (1 : Int)) a_o n_o c_o b_o m_o d_o) 25
      go_upto_region 13 with (first | refine wpList_store_new rfl 25 _ _ rfl atCmp _ _ _ rfl rfl rfl rfl (cm_one (stepC p (1 : Int)) _ _ _ _ _ _) ?_)
      generalize (w102.alloc (.cells (cmC (stepC p (1 : Int)) a_o n_o c_o b_o m_o d_o) 25)) = w103 at *
      have wq : IntKind.i64.wrap 3 = 3 := by decide
      have hb := (Below.refl w103.heap.size w103).drew
      have B104 := B103.trans (hb.mono B103.size)
      have h_pl_104 := h_pl_103.below hb
      have h_pb_104 := h_pb_103.below hb
      have h_p_104 := h_p_103.later hb
      have h_m_104 := h_m_103.later hb
      have h_s_104 := h_s_103.below hb
      have h_l_104 := h_l_103.below hb
      have h_BW_104 := h_BW_103.trans (hb.mono h_BW_103.size)
      have h_ol_104 := h_ol_103.below hb
      have h_ob_104 := h_ob_103.below hb
      have h_o_104 := h_o_103.later hb
      clear hb B103 h_pl_103 h_pb_103 h_p_103 h_m_103 h_s_103 h_l_103 h_BW_103 h_ol_103 h_ob_103 h_o_103
      refine wp_region_held_drew (S := (fun w' => w'.cell? ⟨w102.heap.size, 8, none⟩ = some (.slice a_o n_o c_o) ∧ w'.cell? ⟨w3.heap.size, 3, none⟩ = some (.int .i64 on) ∧ True)) (by kernel_rfl) ?_ (fun hHeld => ?_)
      · exact ⟨h_o_104.cell 8 _ rfl, h_m_104.cell 3 _ rfl, trivial⟩
      generalize w103.drew = w104 at *
      refine wpAnyH_take (i := 0) (oi := ?a5_0) (v := ?b5_0) ?c5_0 (by kernel_rfl) (by kernel_rfl) (by kernel_rfl) ?d5_0 ?e5_0 (by assumption) ?f5_0
      case c5_0 => simp only [tA, tS, tZ]; rfl
      case d5_0 => exact fun _ _ _ h => h
      case e5_0 => (refine Or.inl ⟨by rfl, ?_⟩; intro w h; (try dsimp only at h); go_simp; all_goals with_reducible rfl)
      try simp only [Act.put, tI, tP, tQ]
      refine wpAnyH_take (i := 1) (oi := ?a5_1) (v := ?b5_1) ?c5_1 (by kernel_rfl) (by kernel_rfl) (by kernel_rfl) ?d5_1 ?e5_1 (by assumption) ?f5_1
      case c5_1 => simp only [tA, tS, tZ]; rfl
      case d5_1 => exact fun _ _ _ h => h
      case e5_1 => (refine Or.inl ⟨by rfl, ?_⟩; intro w h; (try dsimp only at h); go_simp; all_goals with_reducible rfl)
      try simp only [Act.put, tI, tP, tQ]
      refine wpAnyH_take (i := 2) (oi := ?a5_2) (v := ?b5_2) ?c5_2 (by kernel_rfl) (by kernel_rfl) (by kernel_rfl) ?d5_2 ?e5_2 (by assumption) ?f5_2
      case c5_2 => simp only [tA, tS, tZ]; rfl
      case d5_2 => exact fun _ _ _ h => h
      case e5_2 => (refine Or.inl ⟨by rfl, ?_⟩; intro w h; (try dsimp only at h); go_simp; all_goals with_reducible rfl)
      try simp only [Act.put, tI, tP, tQ]
      refine wpAnyH_take (i := 3) (oi := ?a5_3) (v := ?b5_3) ?c5_3 (by kernel_rfl) (by kernel_rfl) (by kernel_rfl) ?d5_3 ?e5_3 (by assumption) ?f5_3
      case c5_3 => simp only [tA, tS, tZ]; rfl
      case d5_3 => exact fun _ _ _ h => h
      case e5_3 => (refine Or.inl ⟨by rfl, ?_⟩; intro w h; (try dsimp only at h); go_simp; all_goals with_reducible rfl)
      try simp only [Act.put, tI, tP, tQ]
      refine wpAnyH_take (i := 4) (oi := ?a5_4) (v := ?b5_4) ?c5_4 (by kernel_rfl) (by kernel_rfl) (by kernel_rfl) ?d5_4 ?e5_4 (by assumption) ?f5_4
      case c5_4 => simp only [tA, tS, tZ]; rfl
      case d5_4 => exact fun _ _ _ h => h
      case e5_4 => (refine Or.inl ⟨by rfl, ?_⟩; intro w h; (try dsimp only at h); go_simp; all_goals with_reducible rfl)
      try simp only [Act.put, tI, tP, tQ]
      refine wpAnyH_take (i := 5) (oi := ?a5_5) (v := ?b5_5) ?c5_5 (by kernel_rfl) (by kernel_rfl) (by kernel_rfl) ?d5_5 ?e5_5 (by assumption) ?f5_5
      case c5_5 => simp only [tA, tS, tZ]; rfl
      case d5_5 => exact fun _ _ _ h => h
      case e5_5 => (refine Or.inl ⟨by rfl, ?_⟩; intro w h; (try dsimp only at h); go_simp; all_goals with_reducible rfl)
      try simp only [Act.put, tI, tP, tQ]
      refine wpAnyH_take (i := 6) (oi := ?a5_6) (v := ?b5_6) ?c5_6 (by kernel_rfl) (by kernel_rfl) (by kernel_rfl) ?d5_6 ?e5_6 (by assumption) ?f5_6
      case c5_6 => simp only [tA, tS, tZ]; rfl
      case d5_6 => exact fun _ _ _ h => h
      case e5_6 => (refine Or.inl ⟨by rfl, ?_⟩; intro w h; (try dsimp only at h); go_simp; all_goals with_reducible rfl)
      try simp only [Act.put, tI, tP, tQ]
      refine wpAnyH_ready (rs := [7]) (by kernel_rfl) (by simp) ?_
      refine AllReadyH.cons (o := ?or6_7) ?hor6_7 (fun K hK => ?kr6_7) AllReadyH.nil
      case hor6_7 => simp only [List.getElem?_toArray, List.getElem?_cons_succ, List.getElem?_cons_zero]; rfl
      go_simp
      have c := refOf_any w104 M (by have := HM.out.2; omega)
      refine c.mono ?_
      rintro e w105 ⟨a_f, n_f, c_f, rfl, h_f_105, hb⟩
      clear c
      have B105 := B104.trans (hb.mono B104.size)
      have h_pl_105 := h_pl_104.below hb
      have h_pb_105 := h_pb_104.below hb
      have h_p_105 := h_p_104.later hb
      have h_m_105 := h_m_104.later hb
      have h_s_105 := h_s_104.below hb
      have h_l_105 := h_l_104.below hb
      have h_BW_105 := h_BW_104.trans (hb.mono h_BW_104.size)
      have h_ol_105 := h_ol_104.below hb
      have h_ob_105 := h_ob_104.below hb
      have h_o_105 := h_o_104.later hb
      clear hb B104 h_pl_104 h_pb_104 h_p_104 h_m_104 h_s_104 h_l_104 h_BW_104 h_ol_104 h_ob_104 h_o_104
      go_wp2_with fail
      clear hHeld
      refine hK.out _ _ ?_ (fun hHeld => ?_)
      · exact ⟨h_o_105.cell 8 _ rfl, h_m_105.cell 3 _ rfl, trivial⟩
      clear hK K
      try simp only [Act.put, List.setIfInBounds_toArray, List.set_cons_zero, List.set_cons_succ]
      refine wpAnyH_ready (rs := [8]) (by kernel_rfl) (by simp) ?_
      refine AllReadyH.cons (o := ?or7_8) ?hor7_8 (fun K hK => ?kr7_8) AllReadyH.nil
      case hor7_8 => simp only [List.getElem?_toArray, List.getElem?_cons_succ, List.getElem?_cons_zero]; rfl
      go_simp
      have hol := h_ol_105
      rw [SL.out] at hol
      have c := refMul_any w105 hol h_f_105
      rw [mul_ok (Nat.lt_of_lt_of_le KB.out.2.2.2.1 (pw_le (by decide))) (Nat.lt_of_le_of_lt HM.out.2 (Nat.lt_of_lt_of_le (by decide) (pw_le (show 1 ≤ 96 by decide)))) (Nat.lt_of_lt_of_le (mul_lt_pw KB.out.2.2.2.1 (show M < pw 1 from Nat.lt_of_le_of_lt HM.out.2 (by decide))) (pw_le (by decide)))] at c
      refine c.mono ?_
      rintro e w106 ⟨a_x, n_x, c_x, rfl, h_x_106, hb⟩
      clear c
      have B106 := B105.trans (hb.mono B105.size)
      have h_pl_106 := h_pl_105.below hb
      have h_pb_106 := h_pb_105.below hb
      have h_p_106 := h_p_105.later hb
      have h_m_106 := h_m_105.later hb
      have h_s_106 := h_s_105.below hb
      have h_l_106 := h_l_105.below hb
      have h_BW_106 := h_BW_105.trans (hb.mono h_BW_105.size)
      have h_ol_106 := h_ol_105.below hb
      have h_ob_106 := h_ob_105.below hb
      have h_o_106 := h_o_105.later hb
      clear hb B105 h_pl_105 h_pb_105 h_p_105 h_m_105 h_s_105 h_l_105 h_BW_105 h_ol_105 h_ob_105 h_o_105 h_f_105
      clear hol
      go_wp2_with fail
      clear hHeld
      refine hK.out _ _ ?_ (fun hHeld => ?_)
      · exact ⟨h_o_106.cell 8 _ rfl, h_m_106.cell 3 _ rfl, trivial⟩
      clear hK K
      try simp only [Act.put, List.setIfInBounds_toArray, List.set_cons_zero, List.set_cons_succ]
      refine wpAnyH_take (i := 9) (oi := ?a8_9) (v := ?b8_9) ?c8_9 (by kernel_rfl) (by kernel_rfl) (by kernel_rfl) ?d8_9 ?e8_9 (by assumption) ?f8_9
      case c8_9 => simp only [tA, tS, tZ]; rfl
      case d8_9 => exact fun _ _ _ h => h
      case e8_9 => (refine Or.inl ⟨by rfl, ?_⟩; intro w h; (try dsimp only at h); go_simp; all_goals with_reducible rfl)
      try simp only [Act.put, tI, tP, tQ]
      refine wpAnyH_take (i := 10) (oi := ?a8_10) (v := ?b8_10) ?c8_10 (by kernel_rfl) (by kernel_rfl) (by kernel_rfl) ?d8_10 ?e8_10 (by assumption) ?f8_10
      case c8_10 => simp only [tA, tS, tZ]; rfl
      case d8_10 => exact fun _ _ _ h => h
      case e8_10 => (refine Or.inl ⟨by rfl, ?_⟩; intro w h; (try dsimp only at h); go_simp; all_goals with_reducible rfl)
      try simp only [Act.put, tI, tP, tQ]
      refine wpAnyH_take (i := 11) (oi := ?a8_11) (v := ?b8_11) ?c8_11 (by kernel_rfl) (by kernel_rfl) (by kernel_rfl) ?d8_11 ?e8_11 (by assumption) ?f8_11
      case c8_11 => simp only [tA, tS, tZ]; rfl
      case d8_11 => exact fun _ _ _ h => h
      case e8_11 => (refine Or.inl ⟨by rfl, ?_⟩; intro w h; (try dsimp only at h); go_simp; all_goals with_reducible rfl)
      try simp only [Act.put, tI, tP, tQ]
      refine wpAnyH_take (i := 12) (oi := ?a8_12) (v := ?b8_12) ?c8_12 (by kernel_rfl) (by kernel_rfl) (by kernel_rfl) ?d8_12 ?e8_12 (by assumption) ?f8_12
      case c8_12 => simp only [tA, tS, tZ]; rfl
      case d8_12 => exact fun _ _ _ h => h
      case e8_12 => (refine Or.inl ⟨by rfl, ?_⟩; intro w h; (try dsimp only at h); go_simp; all_goals with_reducible rfl)
      try simp only [Act.put, tI, tP, tQ]
      refine wpAnyH_take (i := 13) (oi := ?a8_13) (v := ?b8_13) ?c8_13 (by kernel_rfl) (by kernel_rfl) (by kernel_rfl) ?d8_13 ?e8_13 (by assumption) ?f8_13
      case c8_13 => simp only [tA, tS, tZ]; rfl
      case d8_13 => exact fun _ _ _ h => h
      case e8_13 => (refine Or.inl ⟨by rfl, ?_⟩; intro w h; (try dsimp only at h); go_simp; all_goals with_reducible rfl)
      try simp only [Act.put, tI, tP, tQ]
      refine wpAnyH_done (by kernel_rfl) ?_ _
      clear hHeld
      have SB : Sv < pw 8 ∧ Sv + K3 * M < pw 8 := by
        have hm := HM.out.2
        have e5 : pw 5 * 6000 ≤ pw 8 := by decide
        have kb := KB.out
        have q0 : K4 * tw.toNat ≤ pw 5 * 1000 := Nat.mul_le_mul (Nat.le_of_lt kb.2.2.2.2) (by omega)
        have q1 : K3 * 0 ≤ pw 5 * 1000 := Nat.mul_le_mul (Nat.le_of_lt kb.2.2.2.1) (by omega)
        have q2 : K2 * 0 ≤ pw 5 * 1000 := Nat.mul_le_mul (Nat.le_of_lt kb.2.2.1) (by omega)
        have q3 : K1 * 0 ≤ pw 5 * 1000 := Nat.mul_le_mul (Nat.le_of_lt kb.2.1) (by omega)
        have q4 : K0 * 0 ≤ pw 5 * 1000 := Nat.mul_le_mul (Nat.le_of_lt kb.1) (by omega)
        have qq : K3 * M ≤ pw 5 * 1000 := Nat.mul_le_mul (Nat.le_of_lt kb.2.2.2.1) hm
        have hs : Sv = K4 * tw.toNat := HI.out.1
        have p5 : 0 < pw 5 := pw_pos 5
        generalize pw 5 = P at *
        omega
      have SBH := Lib.hid SB
      clear SB
      go_wp2_with fail
      have c := refAdd_any w106 h_s_106 h_x_106
      rw [add_ok (Nat.lt_of_lt_of_le SBH.out.2 (pw_le (by decide)))] at c
      refine c.mono ?_
      rintro e w107 ⟨a_y, n_y, c_y, rfl, h_y_107, hb⟩
      clear c
      have B107 := B106.trans (hb.mono B106.size)
      have h_pl_107 := h_pl_106.below hb
      have h_pb_107 := h_pb_106.below hb
      have h_p_107 := h_p_106.later hb
      have h_m_107 := h_m_106.later hb
      have h_s_107 := h_s_106.below hb
      have h_l_107 := h_l_106.below hb
      have h_BW_107 := h_BW_106.trans (hb.mono h_BW_106.size)
      have h_ol_107 := h_ol_106.below hb
      have h_ob_107 := h_ob_106.below hb
      have h_o_107 := h_o_106.later hb
      have h_x_107 := h_x_106.below hb
      clear hb B106 h_pl_106 h_pb_106 h_p_106 h_m_106 h_s_106 h_l_106 h_BW_106 h_ol_106 h_ob_106 h_o_106 h_x_106
      have AL := Lib.hid (show leC (limbs Lv) (stepC p (1 : Int)).lev = true by
        rw [SL.out, leC_ok (by rw [show Lv = K4 from HI.out.2]; exact Nat.lt_of_lt_of_le KB.out.2.2.2.2 (pw_le (by decide))) (Nat.lt_of_lt_of_le KB.out.2.2.2.1 (pw_le (by decide)))]
        refine decide_eq_true ?_
        rw [show Lv = K4 from HI.out.2]
        exact KM.out.1)
      have k_o_8 := h_o_107.cell 8 _ rfl
      go_wp2_with fail
      clear k_o_8
      have c := refAtMost_any w107 h_l_107 h_ol_107
      rw [AL.out] at c
      refine c.mono ?_
      rintro e w108 ⟨rfl, hb⟩
      clear c
      have B108 := B107.trans (hb.mono B107.size)
      have h_pl_108 := h_pl_107.below hb
      have h_pb_108 := h_pb_107.below hb
      have h_p_108 := h_p_107.later hb
      have h_m_108 := h_m_107.later hb
      have h_s_108 := h_s_107.below hb
      have h_l_108 := h_l_107.below hb
      have h_BW_108 := h_BW_107.trans (hb.mono h_BW_107.size)
      have h_ol_108 := h_ol_107.below hb
      have h_ob_108 := h_ob_107.below hb
      have h_o_108 := h_o_107.later hb
      have h_x_108 := h_x_107.below hb
      have h_y_108 := h_y_107.below hb
      clear hb B107 h_pl_107 h_pb_107 h_p_107 h_m_107 h_s_107 h_l_107 h_BW_107 h_ol_107 h_ob_107 h_o_107 h_x_107 h_y_107
      have k_o_8 := h_o_108.cell 8 _ rfl
      have k_m_3 := h_m_108.cell 3 _ rfl
      have ol := h_ol_108
      rw [SL.out] at ol
      have yy := h_y_108
      go_wp2_with fail
      go_roundw
      case rel => exact ⟨h_BW_108, _, _, _, _, _, _, _, _, rfl, rfl, yy, ol, .inr (.inr (.inl ⟨by go_num, by first | go_num | exact congrArg (Value.int .i64) (by first | omega | (simp only [wrap64]; omega) | (simp only [IntKind.wrap_i64]; omega)), Lib.hid ⟨by rw [HI.out.1, HM.out.1], rfl⟩⟩))⟩
      case measure => simp [intOf]
    · have B100 := BASE.trans (BW.mono BASE.size)
      have h_pl_100 := h_pl_4.below BW
      have h_pb_100 := h_pb_4.below BW
      have h_p_100 := h_p_4.later BW
      have h_m_100 := h_m_4.later BW
      have h_s_100 := rs
      have h_l_100 := rl
      have h_BW_100 := BW
      clear rs rl BW
      by_cases x2 : p.s2 = 1000000
      case pos =>
        have df : (p.s2 == 1000000) = true := beq_iff_eq.2 x2
        clear x2
        have k_p_5 := h_p_100.cell 5 _ rfl
        go_wp2_with fail
        clear k_p_5
        have c := examples_any wr
        refine c.mono ?_
        rintro e w101 ⟨rfl, hb⟩
        clear c
        have B101 := B100.trans (hb.mono B100.size)
        have h_pl_101 := h_pl_100.below hb
        have h_pb_101 := h_pb_100.below hb
        have h_p_101 := h_p_100.later hb
        have h_m_101 := h_m_100.later hb
        have h_s_101 := h_s_100.below hb
        have h_l_101 := h_l_100.below hb
        have h_BW_101 := h_BW_100.trans (hb.mono h_BW_100.size)
        clear hb B100 h_pl_100 h_pb_100 h_p_100 h_m_100 h_s_100 h_l_100 h_BW_100
        go_wp2_with fail
        go_ret
        exact ⟨rfl, B101⟩
      have df : (p.s2 == 1000000) = false := beq_eq_false_iff_ne.2 x2
      have OB := Lib.hid (obs_oneC V0.out (x := (0 : Int)) (by decide) (by decide) (by show p.s2 < 1000000; have := V0.out.s2; unfold inS at this; omega))
      have SL := Lib.hid ((stepC_lev V0.out (0 : Int)).trans (congrArg limbs (KE.out.2.2.1).symm))
      obtain ⟨M, hM⟩ : ∃ M : Nat, M = Z.toNat := ⟨_, rfl⟩
      have cv : IntKind.u64.wrap Z = (M : Int) := by
        simp only [IntKind.wrap, IntKind.bits, IntKind.signed]
        simp
        omega
      have HM := Lib.hid (show M = Z.toNat ∧ M ≤ 1000 from ⟨hM, by omega⟩)
      clear hM x2
      have k_p_0 := h_p_100.cell 0 _ rfl
      have k_p_1 := h_p_100.cell 1 _ rfl
      have k_p_2 := h_p_100.cell 2 _ rfl
      have k_p_3 := h_p_100.cell 3 _ rfl
      have k_p_4 := h_p_100.cell 4 _ rfl
      have k_p_5 := h_p_100.cell 5 _ rfl
      have k_p_6 := h_p_100.cell 6 _ rfl
      have k_p_7 := h_p_100.cell 7 _ rfl
      have k_p_8 := h_p_100.cell 8 _ rfl
      have k_p_9 := h_p_100.cell 9 _ rfl
      have hb := below_al wr (.cells #[.int .i64 (0 : Int)] 3)
      have B101 := B100.trans (hb.mono B100.size)
      have h_pl_101 := h_pl_100.below hb
      have h_pb_101 := h_pb_100.below hb
      have h_p_101 := h_p_100.later hb
      have h_m_101 := h_m_100.later hb
      have h_s_101 := h_s_100.below hb
      have h_l_101 := h_l_100.below hb
      have h_BW_101 := h_BW_100.trans (hb.mono h_BW_100.size)
      clear hb B100 h_pl_100 h_pb_100 h_p_100 h_m_100 h_s_100 h_l_100 h_BW_100
      have h_li_101 := rdI_lone wr (0 : Int) (by unfold wide64; decide)
      go_wp2_with fail
      clear k_p_0 k_p_1 k_p_2 k_p_3 k_p_4 k_p_5 k_p_6 k_p_7 k_p_8 k_p_9
      generalize (wr.alloc (.cells #[.int .i64 (0 : Int)] 3)) = w101 at *
      have c := cmObserve_any w101 h_pl_101 h_pb_101 pw_p h_li_101
      rw [OB.out] at c
      refine c.mono ?_
      rintro e w102 ⟨a_o, n_o, c_o, b_o, m_o, d_o, rfl, h_ol_102, h_ob_102, hb⟩
      clear c
      have B102 := B101.trans (hb.mono B101.size)
      have h_pl_102 := h_pl_101.below hb
      have h_pb_102 := h_pb_101.below hb
      have h_p_102 := h_p_101.later hb
      have h_m_102 := h_m_101.later hb
      have h_s_102 := h_s_101.below hb
      have h_l_102 := h_l_101.below hb
      have h_BW_102 := h_BW_101.trans (hb.mono h_BW_101.size)
      clear hb B101 h_pl_101 h_pb_101 h_p_101 h_m_101 h_s_101 h_l_101 h_BW_101 h_li_101
      have hb := below_al w102 (.cells (cmC (stepC p (0 : Int)) a_o n_o c_o b_o m_o d_o) 25)
      have B103 := B102.trans (hb.mono B102.size)
      have h_pl_103 := h_pl_102.below hb
      have h_pb_103 := h_pb_102.below hb
      have h_p_103 := h_p_102.later hb
      have h_m_103 := h_m_102.later hb
      have h_s_103 := h_s_102.below hb
      have h_l_103 := h_l_102.below hb
      have h_BW_103 := h_BW_102.trans (hb.mono h_BW_102.size)
      have h_ol_103 := h_ol_102.below hb
      have h_ob_103 := h_ob_102.below hb
      clear hb B102 h_pl_102 h_pb_102 h_p_102 h_m_102 h_s_102 h_l_102 h_BW_102 h_ol_102 h_ob_102
      have h_o_103 := Has.new w102 (cmC (stepC p (0 : Int)) a_o n_o c_o b_o m_o d_o) 25
      go_upto_region 13 with (first | refine wpList_store_new rfl 25 _ _ rfl atCmp _ _ _ rfl rfl rfl rfl (cm_one (stepC p (0 : Int)) _ _ _ _ _ _) ?_)
      generalize (w102.alloc (.cells (cmC (stepC p (0 : Int)) a_o n_o c_o b_o m_o d_o) 25)) = w103 at *
      have wq : IntKind.i64.wrap 2 = 2 := by decide
      have hb := (Below.refl w103.heap.size w103).drew
      have B104 := B103.trans (hb.mono B103.size)
      have h_pl_104 := h_pl_103.below hb
      have h_pb_104 := h_pb_103.below hb
      have h_p_104 := h_p_103.later hb
      have h_m_104 := h_m_103.later hb
      have h_s_104 := h_s_103.below hb
      have h_l_104 := h_l_103.below hb
      have h_BW_104 := h_BW_103.trans (hb.mono h_BW_103.size)
      have h_ol_104 := h_ol_103.below hb
      have h_ob_104 := h_ob_103.below hb
      have h_o_104 := h_o_103.later hb
      clear hb B103 h_pl_103 h_pb_103 h_p_103 h_m_103 h_s_103 h_l_103 h_BW_103 h_ol_103 h_ob_103 h_o_103
      refine wp_region_held_drew (S := (fun w' => w'.cell? ⟨w102.heap.size, 8, none⟩ = some (.slice a_o n_o c_o) ∧ w'.cell? ⟨w3.heap.size, 2, none⟩ = some (.int .i64 Z) ∧ True)) (by kernel_rfl) ?_ (fun hHeld => ?_)
      · exact ⟨h_o_104.cell 8 _ rfl, h_m_104.cell 2 _ rfl, trivial⟩
      generalize w103.drew = w104 at *
      refine wpAnyH_take (i := 0) (oi := ?a9_0) (v := ?b9_0) ?c9_0 (by kernel_rfl) (by kernel_rfl) (by kernel_rfl) ?d9_0 ?e9_0 (by assumption) ?f9_0
      case c9_0 => simp only [tA, tS, tZ]; rfl
      case d9_0 => exact fun _ _ _ h => h
      case e9_0 => (refine Or.inl ⟨by rfl, ?_⟩; intro w h; (try dsimp only at h); go_simp; all_goals with_reducible rfl)
      try simp only [Act.put, tI, tP, tQ]
      refine wpAnyH_take (i := 1) (oi := ?a9_1) (v := ?b9_1) ?c9_1 (by kernel_rfl) (by kernel_rfl) (by kernel_rfl) ?d9_1 ?e9_1 (by assumption) ?f9_1
      case c9_1 => simp only [tA, tS, tZ]; rfl
      case d9_1 => exact fun _ _ _ h => h
      case e9_1 => (refine Or.inl ⟨by rfl, ?_⟩; intro w h; (try dsimp only at h); go_simp; all_goals with_reducible rfl)
      try simp only [Act.put, tI, tP, tQ]
      refine wpAnyH_take (i := 2) (oi := ?a9_2) (v := ?b9_2) ?c9_2 (by kernel_rfl) (by kernel_rfl) (by kernel_rfl) ?d9_2 ?e9_2 (by assumption) ?f9_2
      case c9_2 => simp only [tA, tS, tZ]; rfl
      case d9_2 => exact fun _ _ _ h => h
      case e9_2 => (refine Or.inl ⟨by rfl, ?_⟩; intro w h; (try dsimp only at h); go_simp; all_goals with_reducible rfl)
      try simp only [Act.put, tI, tP, tQ]
      refine wpAnyH_take (i := 3) (oi := ?a9_3) (v := ?b9_3) ?c9_3 (by kernel_rfl) (by kernel_rfl) (by kernel_rfl) ?d9_3 ?e9_3 (by assumption) ?f9_3
      case c9_3 => simp only [tA, tS, tZ]; rfl
      case d9_3 => exact fun _ _ _ h => h
      case e9_3 => (refine Or.inl ⟨by rfl, ?_⟩; intro w h; (try dsimp only at h); go_simp; all_goals with_reducible rfl)
      try simp only [Act.put, tI, tP, tQ]
      refine wpAnyH_take (i := 4) (oi := ?a9_4) (v := ?b9_4) ?c9_4 (by kernel_rfl) (by kernel_rfl) (by kernel_rfl) ?d9_4 ?e9_4 (by assumption) ?f9_4
      case c9_4 => simp only [tA, tS, tZ]; rfl
      case d9_4 => exact fun _ _ _ h => h
      case e9_4 => (refine Or.inl ⟨by rfl, ?_⟩; intro w h; (try dsimp only at h); go_simp; all_goals with_reducible rfl)
      try simp only [Act.put, tI, tP, tQ]
      refine wpAnyH_take (i := 5) (oi := ?a9_5) (v := ?b9_5) ?c9_5 (by kernel_rfl) (by kernel_rfl) (by kernel_rfl) ?d9_5 ?e9_5 (by assumption) ?f9_5
      case c9_5 => simp only [tA, tS, tZ]; rfl
      case d9_5 => exact fun _ _ _ h => h
      case e9_5 => (refine Or.inl ⟨by rfl, ?_⟩; intro w h; (try dsimp only at h); go_simp; all_goals with_reducible rfl)
      try simp only [Act.put, tI, tP, tQ]
      refine wpAnyH_take (i := 6) (oi := ?a9_6) (v := ?b9_6) ?c9_6 (by kernel_rfl) (by kernel_rfl) (by kernel_rfl) ?d9_6 ?e9_6 (by assumption) ?f9_6
      case c9_6 => simp only [tA, tS, tZ]; rfl
      case d9_6 => exact fun _ _ _ h => h
      case e9_6 => (refine Or.inl ⟨by rfl, ?_⟩; intro w h; (try dsimp only at h); go_simp; all_goals with_reducible rfl)
      try simp only [Act.put, tI, tP, tQ]
      refine wpAnyH_ready (rs := [7]) (by kernel_rfl) (by simp) ?_
      refine AllReadyH.cons (o := ?or10_7) ?hor10_7 (fun K hK => ?kr10_7) AllReadyH.nil
      case hor10_7 => simp only [List.getElem?_toArray, List.getElem?_cons_succ, List.getElem?_cons_zero]; rfl
      go_simp
      have c := refOf_any w104 M (by have := HM.out.2; omega)
      refine c.mono ?_
      rintro e w105 ⟨a_f, n_f, c_f, rfl, h_f_105, hb⟩
      clear c
      have B105 := B104.trans (hb.mono B104.size)
      have h_pl_105 := h_pl_104.below hb
      have h_pb_105 := h_pb_104.below hb
      have h_p_105 := h_p_104.later hb
      have h_m_105 := h_m_104.later hb
      have h_s_105 := h_s_104.below hb
      have h_l_105 := h_l_104.below hb
      have h_BW_105 := h_BW_104.trans (hb.mono h_BW_104.size)
      have h_ol_105 := h_ol_104.below hb
      have h_ob_105 := h_ob_104.below hb
      have h_o_105 := h_o_104.later hb
      clear hb B104 h_pl_104 h_pb_104 h_p_104 h_m_104 h_s_104 h_l_104 h_BW_104 h_ol_104 h_ob_104 h_o_104
      go_wp2_with fail
      clear hHeld
      refine hK.out _ _ ?_ (fun hHeld => ?_)
      · exact ⟨h_o_105.cell 8 _ rfl, h_m_105.cell 2 _ rfl, trivial⟩
      clear hK K
      try simp only [Act.put, List.setIfInBounds_toArray, List.set_cons_zero, List.set_cons_succ]
      refine wpAnyH_ready (rs := [8]) (by kernel_rfl) (by simp) ?_
      refine AllReadyH.cons (o := ?or11_8) ?hor11_8 (fun K hK => ?kr11_8) AllReadyH.nil
      case hor11_8 => simp only [List.getElem?_toArray, List.getElem?_cons_succ, List.getElem?_cons_zero]; rfl
      go_simp
      have hol := h_ol_105
      rw [SL.out] at hol
      have c := refMul_any w105 hol h_f_105
      rw [mul_ok (Nat.lt_of_lt_of_le KB.out.2.2.1 (pw_le (by decide))) (Nat.lt_of_le_of_lt HM.out.2 (Nat.lt_of_lt_of_le (by decide) (pw_le (show 1 ≤ 96 by decide)))) (Nat.lt_of_lt_of_le (mul_lt_pw KB.out.2.2.1 (show M < pw 1 from Nat.lt_of_le_of_lt HM.out.2 (by decide))) (pw_le (by decide)))] at c
      refine c.mono ?_
      rintro e w106 ⟨a_x, n_x, c_x, rfl, h_x_106, hb⟩
      clear c
      have B106 := B105.trans (hb.mono B105.size)
      have h_pl_106 := h_pl_105.below hb
      have h_pb_106 := h_pb_105.below hb
      have h_p_106 := h_p_105.later hb
      have h_m_106 := h_m_105.later hb
      have h_s_106 := h_s_105.below hb
      have h_l_106 := h_l_105.below hb
      have h_BW_106 := h_BW_105.trans (hb.mono h_BW_105.size)
      have h_ol_106 := h_ol_105.below hb
      have h_ob_106 := h_ob_105.below hb
      have h_o_106 := h_o_105.later hb
      clear hb B105 h_pl_105 h_pb_105 h_p_105 h_m_105 h_s_105 h_l_105 h_BW_105 h_ol_105 h_ob_105 h_o_105 h_f_105
      clear hol
      go_wp2_with fail
      clear hHeld
      refine hK.out _ _ ?_ (fun hHeld => ?_)
      · exact ⟨h_o_106.cell 8 _ rfl, h_m_106.cell 2 _ rfl, trivial⟩
      clear hK K
      try simp only [Act.put, List.setIfInBounds_toArray, List.set_cons_zero, List.set_cons_succ]
      refine wpAnyH_take (i := 9) (oi := ?a12_9) (v := ?b12_9) ?c12_9 (by kernel_rfl) (by kernel_rfl) (by kernel_rfl) ?d12_9 ?e12_9 (by assumption) ?f12_9
      case c12_9 => simp only [tA, tS, tZ]; rfl
      case d12_9 => exact fun _ _ _ h => h
      case e12_9 => (refine Or.inl ⟨by rfl, ?_⟩; intro w h; (try dsimp only at h); go_simp; all_goals with_reducible rfl)
      try simp only [Act.put, tI, tP, tQ]
      refine wpAnyH_take (i := 10) (oi := ?a12_10) (v := ?b12_10) ?c12_10 (by kernel_rfl) (by kernel_rfl) (by kernel_rfl) ?d12_10 ?e12_10 (by assumption) ?f12_10
      case c12_10 => simp only [tA, tS, tZ]; rfl
      case d12_10 => exact fun _ _ _ h => h
      case e12_10 => (refine Or.inl ⟨by rfl, ?_⟩; intro w h; (try dsimp only at h); go_simp; all_goals with_reducible rfl)
      try simp only [Act.put, tI, tP, tQ]
      refine wpAnyH_take (i := 11) (oi := ?a12_11) (v := ?b12_11) ?c12_11 (by kernel_rfl) (by kernel_rfl) (by kernel_rfl) ?d12_11 ?e12_11 (by assumption) ?f12_11
      case c12_11 => simp only [tA, tS, tZ]; rfl
      case d12_11 => exact fun _ _ _ h => h
      case e12_11 => (refine Or.inl ⟨by rfl, ?_⟩; intro w h; (try dsimp only at h); go_simp; all_goals with_reducible rfl)
      try simp only [Act.put, tI, tP, tQ]
      refine wpAnyH_take (i := 12) (oi := ?a12_12) (v := ?b12_12) ?c12_12 (by kernel_rfl) (by kernel_rfl) (by kernel_rfl) ?d12_12 ?e12_12 (by assumption) ?f12_12
      case c12_12 => simp only [tA, tS, tZ]; rfl
      case d12_12 => exact fun _ _ _ h => h
      case e12_12 => (refine Or.inl ⟨by rfl, ?_⟩; intro w h; (try dsimp only at h); go_simp; all_goals with_reducible rfl)
      try simp only [Act.put, tI, tP, tQ]
      refine wpAnyH_take (i := 13) (oi := ?a12_13) (v := ?b12_13) ?c12_13 (by kernel_rfl) (by kernel_rfl) (by kernel_rfl) ?d12_13 ?e12_13 (by assumption) ?f12_13
      case c12_13 => simp only [tA, tS, tZ]; rfl
      case d12_13 => exact fun _ _ _ h => h
      case e12_13 => (refine Or.inl ⟨by rfl, ?_⟩; intro w h; (try dsimp only at h); go_simp; all_goals with_reducible rfl)
      try simp only [Act.put, tI, tP, tQ]
      refine wpAnyH_done (by kernel_rfl) ?_ _
      clear hHeld
      have SB : Sv < pw 8 ∧ Sv + K2 * M < pw 8 := by
        have hm := HM.out.2
        have e5 : pw 5 * 6000 ≤ pw 8 := by decide
        have kb := KB.out
        have q0 : K4 * tw.toNat ≤ pw 5 * 1000 := Nat.mul_le_mul (Nat.le_of_lt kb.2.2.2.2) (by omega)
        have q1 : K3 * on.toNat ≤ pw 5 * 1000 := Nat.mul_le_mul (Nat.le_of_lt kb.2.2.2.1) (by omega)
        have q2 : K2 * 0 ≤ pw 5 * 1000 := Nat.mul_le_mul (Nat.le_of_lt kb.2.2.1) (by omega)
        have q3 : K1 * 0 ≤ pw 5 * 1000 := Nat.mul_le_mul (Nat.le_of_lt kb.2.1) (by omega)
        have q4 : K0 * 0 ≤ pw 5 * 1000 := Nat.mul_le_mul (Nat.le_of_lt kb.1) (by omega)
        have qq : K2 * M ≤ pw 5 * 1000 := Nat.mul_le_mul (Nat.le_of_lt kb.2.2.1) hm
        have hs : Sv = K4 * tw.toNat + K3 * on.toNat := HI.out.1
        have p5 : 0 < pw 5 := pw_pos 5
        generalize pw 5 = P at *
        omega
      have SBH := Lib.hid SB
      clear SB
      go_wp2_with fail
      have c := refAdd_any w106 h_s_106 h_x_106
      rw [add_ok (Nat.lt_of_lt_of_le SBH.out.2 (pw_le (by decide)))] at c
      refine c.mono ?_
      rintro e w107 ⟨a_y, n_y, c_y, rfl, h_y_107, hb⟩
      clear c
      have B107 := B106.trans (hb.mono B106.size)
      have h_pl_107 := h_pl_106.below hb
      have h_pb_107 := h_pb_106.below hb
      have h_p_107 := h_p_106.later hb
      have h_m_107 := h_m_106.later hb
      have h_s_107 := h_s_106.below hb
      have h_l_107 := h_l_106.below hb
      have h_BW_107 := h_BW_106.trans (hb.mono h_BW_106.size)
      have h_ol_107 := h_ol_106.below hb
      have h_ob_107 := h_ob_106.below hb
      have h_o_107 := h_o_106.later hb
      have h_x_107 := h_x_106.below hb
      clear hb B106 h_pl_106 h_pb_106 h_p_106 h_m_106 h_s_106 h_l_106 h_BW_106 h_ol_106 h_ob_106 h_o_106 h_x_106
      have AL := Lib.hid (show leC (limbs Lv) (stepC p (0 : Int)).lev = true by
        rw [SL.out, leC_ok (by rw [show Lv = K3 from HI.out.2]; exact Nat.lt_of_lt_of_le KB.out.2.2.2.1 (pw_le (by decide))) (Nat.lt_of_lt_of_le KB.out.2.2.1 (pw_le (by decide)))]
        refine decide_eq_true ?_
        rw [show Lv = K3 from HI.out.2]
        exact KM.out.2.1)
      have k_o_8 := h_o_107.cell 8 _ rfl
      go_wp2_with fail
      clear k_o_8
      have c := refAtMost_any w107 h_l_107 h_ol_107
      rw [AL.out] at c
      refine c.mono ?_
      rintro e w108 ⟨rfl, hb⟩
      clear c
      have B108 := B107.trans (hb.mono B107.size)
      have h_pl_108 := h_pl_107.below hb
      have h_pb_108 := h_pb_107.below hb
      have h_p_108 := h_p_107.later hb
      have h_m_108 := h_m_107.later hb
      have h_s_108 := h_s_107.below hb
      have h_l_108 := h_l_107.below hb
      have h_BW_108 := h_BW_107.trans (hb.mono h_BW_107.size)
      have h_ol_108 := h_ol_107.below hb
      have h_ob_108 := h_ob_107.below hb
      have h_o_108 := h_o_107.later hb
      have h_x_108 := h_x_107.below hb
      have h_y_108 := h_y_107.below hb
      clear hb B107 h_pl_107 h_pb_107 h_p_107 h_m_107 h_s_107 h_l_107 h_BW_107 h_ol_107 h_ob_107 h_o_107 h_x_107 h_y_107
      have k_o_8 := h_o_108.cell 8 _ rfl
      have k_m_2 := h_m_108.cell 2 _ rfl
      have ol := h_ol_108
      rw [SL.out] at ol
      have yy := h_y_108
      go_wp2_with fail
      go_roundw
      case rel => exact ⟨h_BW_108, _, _, _, _, _, _, _, _, rfl, rfl, yy, ol, .inr (.inr (.inr (.inl ⟨by go_num, by first | go_num | exact congrArg (Value.int .i64) (by first | omega | (simp only [wrap64]; omega) | (simp only [IntKind.wrap_i64]; omega)), Lib.hid ⟨by rw [HI.out.1, HM.out.1], rfl⟩⟩)))⟩
      case measure => simp [intOf]
    · have B100 := BASE.trans (BW.mono BASE.size)
      have h_pl_100 := h_pl_4.below BW
      have h_pb_100 := h_pb_4.below BW
      have h_p_100 := h_p_4.later BW
      have h_m_100 := h_m_4.later BW
      have h_s_100 := rs
      have h_l_100 := rl
      have h_BW_100 := BW
      clear rs rl BW
      by_cases x2 : p.s1 = 1000000
      case pos =>
        have df : (p.s1 == 1000000) = true := beq_iff_eq.2 x2
        clear x2
        have k_p_4 := h_p_100.cell 4 _ rfl
        go_wp2_with fail
        clear k_p_4
        have c := examples_any wr
        refine c.mono ?_
        rintro e w101 ⟨rfl, hb⟩
        clear c
        have B101 := B100.trans (hb.mono B100.size)
        have h_pl_101 := h_pl_100.below hb
        have h_pb_101 := h_pb_100.below hb
        have h_p_101 := h_p_100.later hb
        have h_m_101 := h_m_100.later hb
        have h_s_101 := h_s_100.below hb
        have h_l_101 := h_l_100.below hb
        have h_BW_101 := h_BW_100.trans (hb.mono h_BW_100.size)
        clear hb B100 h_pl_100 h_pb_100 h_p_100 h_m_100 h_s_100 h_l_100 h_BW_100
        go_wp2_with fail
        go_ret
        exact ⟨rfl, B101⟩
      have df : (p.s1 == 1000000) = false := beq_eq_false_iff_ne.2 x2
      have OB := Lib.hid (obs_oneC V0.out (x := (-1 : Int)) (by decide) (by decide) (by show p.s1 < 1000000; have := V0.out.s1; unfold inS at this; omega))
      have SL := Lib.hid ((stepC_lev V0.out (-1 : Int)).trans (congrArg limbs (KE.out.2.1).symm))
      obtain ⟨M, hM⟩ : ∃ M : Nat, M = mi.toNat := ⟨_, rfl⟩
      have cv : IntKind.u64.wrap mi = (M : Int) := by
        simp only [IntKind.wrap, IntKind.bits, IntKind.signed]
        simp
        omega
      have HM := Lib.hid (show M = mi.toNat ∧ M ≤ 1000 from ⟨hM, by omega⟩)
      clear hM x2
      have k_p_0 := h_p_100.cell 0 _ rfl
      have k_p_1 := h_p_100.cell 1 _ rfl
      have k_p_2 := h_p_100.cell 2 _ rfl
      have k_p_3 := h_p_100.cell 3 _ rfl
      have k_p_4 := h_p_100.cell 4 _ rfl
      have k_p_5 := h_p_100.cell 5 _ rfl
      have k_p_6 := h_p_100.cell 6 _ rfl
      have k_p_7 := h_p_100.cell 7 _ rfl
      have k_p_8 := h_p_100.cell 8 _ rfl
      have k_p_9 := h_p_100.cell 9 _ rfl
      have hb := below_al wr (.cells #[.int .i64 (-1 : Int)] 3)
      have B101 := B100.trans (hb.mono B100.size)
      have h_pl_101 := h_pl_100.below hb
      have h_pb_101 := h_pb_100.below hb
      have h_p_101 := h_p_100.later hb
      have h_m_101 := h_m_100.later hb
      have h_s_101 := h_s_100.below hb
      have h_l_101 := h_l_100.below hb
      have h_BW_101 := h_BW_100.trans (hb.mono h_BW_100.size)
      clear hb B100 h_pl_100 h_pb_100 h_p_100 h_m_100 h_s_100 h_l_100 h_BW_100
      have h_li_101 := rdI_lone wr (-1 : Int) (by unfold wide64; decide)
      go_wp2_with fail
      clear k_p_0 k_p_1 k_p_2 k_p_3 k_p_4 k_p_5 k_p_6 k_p_7 k_p_8 k_p_9
      generalize (wr.alloc (.cells #[.int .i64 (-1 : Int)] 3)) = w101 at *
      have c := cmObserve_any w101 h_pl_101 h_pb_101 pw_p h_li_101
      rw [OB.out] at c
      refine c.mono ?_
      rintro e w102 ⟨a_o, n_o, c_o, b_o, m_o, d_o, rfl, h_ol_102, h_ob_102, hb⟩
      clear c
      have B102 := B101.trans (hb.mono B101.size)
      have h_pl_102 := h_pl_101.below hb
      have h_pb_102 := h_pb_101.below hb
      have h_p_102 := h_p_101.later hb
      have h_m_102 := h_m_101.later hb
      have h_s_102 := h_s_101.below hb
      have h_l_102 := h_l_101.below hb
      have h_BW_102 := h_BW_101.trans (hb.mono h_BW_101.size)
      clear hb B101 h_pl_101 h_pb_101 h_p_101 h_m_101 h_s_101 h_l_101 h_BW_101 h_li_101
      have hb := below_al w102 (.cells (cmC (stepC p (-1 : Int)) a_o n_o c_o b_o m_o d_o) 25)
      have B103 := B102.trans (hb.mono B102.size)
      have h_pl_103 := h_pl_102.below hb
      have h_pb_103 := h_pb_102.below hb
      have h_p_103 := h_p_102.later hb
      have h_m_103 := h_m_102.later hb
      have h_s_103 := h_s_102.below hb
      have h_l_103 := h_l_102.below hb
      have h_BW_103 := h_BW_102.trans (hb.mono h_BW_102.size)
      have h_ol_103 := h_ol_102.below hb
      have h_ob_103 := h_ob_102.below hb
      clear hb B102 h_pl_102 h_pb_102 h_p_102 h_m_102 h_s_102 h_l_102 h_BW_102 h_ol_102 h_ob_102
      have h_o_103 := Has.new w102 (cmC (stepC p (-1 : Int)) a_o n_o c_o b_o m_o d_o) 25
      go_upto_region 13 with (first | refine wpList_store_new rfl 25 _ _ rfl atCmp _ _ _ rfl rfl rfl rfl (cm_one (stepC p (-1 : Int)) _ _ _ _ _ _) ?_)
      generalize (w102.alloc (.cells (cmC (stepC p (-1 : Int)) a_o n_o c_o b_o m_o d_o) 25)) = w103 at *
      have wq : IntKind.i64.wrap 1 = 1 := by decide
      have hb := (Below.refl w103.heap.size w103).drew
      have B104 := B103.trans (hb.mono B103.size)
      have h_pl_104 := h_pl_103.below hb
      have h_pb_104 := h_pb_103.below hb
      have h_p_104 := h_p_103.later hb
      have h_m_104 := h_m_103.later hb
      have h_s_104 := h_s_103.below hb
      have h_l_104 := h_l_103.below hb
      have h_BW_104 := h_BW_103.trans (hb.mono h_BW_103.size)
      have h_ol_104 := h_ol_103.below hb
      have h_ob_104 := h_ob_103.below hb
      have h_o_104 := h_o_103.later hb
      clear hb B103 h_pl_103 h_pb_103 h_p_103 h_m_103 h_s_103 h_l_103 h_BW_103 h_ol_103 h_ob_103 h_o_103
      refine wp_region_held_drew (S := (fun w' => w'.cell? ⟨w102.heap.size, 8, none⟩ = some (.slice a_o n_o c_o) ∧ w'.cell? ⟨w3.heap.size, 1, none⟩ = some (.int .i64 mi) ∧ True)) (by kernel_rfl) ?_ (fun hHeld => ?_)
      · exact ⟨h_o_104.cell 8 _ rfl, h_m_104.cell 1 _ rfl, trivial⟩
      generalize w103.drew = w104 at *
      refine wpAnyH_take (i := 0) (oi := ?a13_0) (v := ?b13_0) ?c13_0 (by kernel_rfl) (by kernel_rfl) (by kernel_rfl) ?d13_0 ?e13_0 (by assumption) ?f13_0
      case c13_0 => simp only [tA, tS, tZ]; rfl
      case d13_0 => exact fun _ _ _ h => h
      case e13_0 => (refine Or.inl ⟨by rfl, ?_⟩; intro w h; (try dsimp only at h); go_simp; all_goals with_reducible rfl)
      try simp only [Act.put, tI, tP, tQ]
      refine wpAnyH_take (i := 1) (oi := ?a13_1) (v := ?b13_1) ?c13_1 (by kernel_rfl) (by kernel_rfl) (by kernel_rfl) ?d13_1 ?e13_1 (by assumption) ?f13_1
      case c13_1 => simp only [tA, tS, tZ]; rfl
      case d13_1 => exact fun _ _ _ h => h
      case e13_1 => (refine Or.inl ⟨by rfl, ?_⟩; intro w h; (try dsimp only at h); go_simp; all_goals with_reducible rfl)
      try simp only [Act.put, tI, tP, tQ]
      refine wpAnyH_take (i := 2) (oi := ?a13_2) (v := ?b13_2) ?c13_2 (by kernel_rfl) (by kernel_rfl) (by kernel_rfl) ?d13_2 ?e13_2 (by assumption) ?f13_2
      case c13_2 => simp only [tA, tS, tZ]; rfl
      case d13_2 => exact fun _ _ _ h => h
      case e13_2 => (refine Or.inl ⟨by rfl, ?_⟩; intro w h; (try dsimp only at h); go_simp; all_goals with_reducible rfl)
      try simp only [Act.put, tI, tP, tQ]
      refine wpAnyH_take (i := 3) (oi := ?a13_3) (v := ?b13_3) ?c13_3 (by kernel_rfl) (by kernel_rfl) (by kernel_rfl) ?d13_3 ?e13_3 (by assumption) ?f13_3
      case c13_3 => simp only [tA, tS, tZ]; rfl
      case d13_3 => exact fun _ _ _ h => h
      case e13_3 => (refine Or.inl ⟨by rfl, ?_⟩; intro w h; (try dsimp only at h); go_simp; all_goals with_reducible rfl)
      try simp only [Act.put, tI, tP, tQ]
      refine wpAnyH_take (i := 4) (oi := ?a13_4) (v := ?b13_4) ?c13_4 (by kernel_rfl) (by kernel_rfl) (by kernel_rfl) ?d13_4 ?e13_4 (by assumption) ?f13_4
      case c13_4 => simp only [tA, tS, tZ]; rfl
      case d13_4 => exact fun _ _ _ h => h
      case e13_4 => (refine Or.inl ⟨by rfl, ?_⟩; intro w h; (try dsimp only at h); go_simp; all_goals with_reducible rfl)
      try simp only [Act.put, tI, tP, tQ]
      refine wpAnyH_take (i := 5) (oi := ?a13_5) (v := ?b13_5) ?c13_5 (by kernel_rfl) (by kernel_rfl) (by kernel_rfl) ?d13_5 ?e13_5 (by assumption) ?f13_5
      case c13_5 => simp only [tA, tS, tZ]; rfl
      case d13_5 => exact fun _ _ _ h => h
      case e13_5 => (refine Or.inl ⟨by rfl, ?_⟩; intro w h; (try dsimp only at h); go_simp; all_goals with_reducible rfl)
      try simp only [Act.put, tI, tP, tQ]
      refine wpAnyH_take (i := 6) (oi := ?a13_6) (v := ?b13_6) ?c13_6 (by kernel_rfl) (by kernel_rfl) (by kernel_rfl) ?d13_6 ?e13_6 (by assumption) ?f13_6
      case c13_6 => simp only [tA, tS, tZ]; rfl
      case d13_6 => exact fun _ _ _ h => h
      case e13_6 => (refine Or.inl ⟨by rfl, ?_⟩; intro w h; (try dsimp only at h); go_simp; all_goals with_reducible rfl)
      try simp only [Act.put, tI, tP, tQ]
      refine wpAnyH_ready (rs := [7]) (by kernel_rfl) (by simp) ?_
      refine AllReadyH.cons (o := ?or14_7) ?hor14_7 (fun K hK => ?kr14_7) AllReadyH.nil
      case hor14_7 => simp only [List.getElem?_toArray, List.getElem?_cons_succ, List.getElem?_cons_zero]; rfl
      go_simp
      have c := refOf_any w104 M (by have := HM.out.2; omega)
      refine c.mono ?_
      rintro e w105 ⟨a_f, n_f, c_f, rfl, h_f_105, hb⟩
      clear c
      have B105 := B104.trans (hb.mono B104.size)
      have h_pl_105 := h_pl_104.below hb
      have h_pb_105 := h_pb_104.below hb
      have h_p_105 := h_p_104.later hb
      have h_m_105 := h_m_104.later hb
      have h_s_105 := h_s_104.below hb
      have h_l_105 := h_l_104.below hb
      have h_BW_105 := h_BW_104.trans (hb.mono h_BW_104.size)
      have h_ol_105 := h_ol_104.below hb
      have h_ob_105 := h_ob_104.below hb
      have h_o_105 := h_o_104.later hb
      clear hb B104 h_pl_104 h_pb_104 h_p_104 h_m_104 h_s_104 h_l_104 h_BW_104 h_ol_104 h_ob_104 h_o_104
      go_wp2_with fail
      clear hHeld
      refine hK.out _ _ ?_ (fun hHeld => ?_)
      · exact ⟨h_o_105.cell 8 _ rfl, h_m_105.cell 1 _ rfl, trivial⟩
      clear hK K
      try simp only [Act.put, List.setIfInBounds_toArray, List.set_cons_zero, List.set_cons_succ]
      refine wpAnyH_ready (rs := [8]) (by kernel_rfl) (by simp) ?_
      refine AllReadyH.cons (o := ?or15_8) ?hor15_8 (fun K hK => ?kr15_8) AllReadyH.nil
      case hor15_8 => simp only [List.getElem?_toArray, List.getElem?_cons_succ, List.getElem?_cons_zero]; rfl
      go_simp
      have hol := h_ol_105
      rw [SL.out] at hol
      have c := refMul_any w105 hol h_f_105
      rw [mul_ok (Nat.lt_of_lt_of_le KB.out.2.1 (pw_le (by decide))) (Nat.lt_of_le_of_lt HM.out.2 (Nat.lt_of_lt_of_le (by decide) (pw_le (show 1 ≤ 96 by decide)))) (Nat.lt_of_lt_of_le (mul_lt_pw KB.out.2.1 (show M < pw 1 from Nat.lt_of_le_of_lt HM.out.2 (by decide))) (pw_le (by decide)))] at c
      refine c.mono ?_
      rintro e w106 ⟨a_x, n_x, c_x, rfl, h_x_106, hb⟩
      clear c
      have B106 := B105.trans (hb.mono B105.size)
      have h_pl_106 := h_pl_105.below hb
      have h_pb_106 := h_pb_105.below hb
      have h_p_106 := h_p_105.later hb
      have h_m_106 := h_m_105.later hb
      have h_s_106 := h_s_105.below hb
      have h_l_106 := h_l_105.below hb
      have h_BW_106 := h_BW_105.trans (hb.mono h_BW_105.size)
      have h_ol_106 := h_ol_105.below hb
      have h_ob_106 := h_ob_105.below hb
      have h_o_106 := h_o_105.later hb
      clear hb B105 h_pl_105 h_pb_105 h_p_105 h_m_105 h_s_105 h_l_105 h_BW_105 h_ol_105 h_ob_105 h_o_105 h_f_105
      clear hol
      go_wp2_with fail
      clear hHeld
      refine hK.out _ _ ?_ (fun hHeld => ?_)
      · exact ⟨h_o_106.cell 8 _ rfl, h_m_106.cell 1 _ rfl, trivial⟩
      clear hK K
      try simp only [Act.put, List.setIfInBounds_toArray, List.set_cons_zero, List.set_cons_succ]
      refine wpAnyH_take (i := 9) (oi := ?a16_9) (v := ?b16_9) ?c16_9 (by kernel_rfl) (by kernel_rfl) (by kernel_rfl) ?d16_9 ?e16_9 (by assumption) ?f16_9
      case c16_9 => simp only [tA, tS, tZ]; rfl
      case d16_9 => exact fun _ _ _ h => h
      case e16_9 => (refine Or.inl ⟨by rfl, ?_⟩; intro w h; (try dsimp only at h); go_simp; all_goals with_reducible rfl)
      try simp only [Act.put, tI, tP, tQ]
      refine wpAnyH_take (i := 10) (oi := ?a16_10) (v := ?b16_10) ?c16_10 (by kernel_rfl) (by kernel_rfl) (by kernel_rfl) ?d16_10 ?e16_10 (by assumption) ?f16_10
      case c16_10 => simp only [tA, tS, tZ]; rfl
      case d16_10 => exact fun _ _ _ h => h
      case e16_10 => (refine Or.inl ⟨by rfl, ?_⟩; intro w h; (try dsimp only at h); go_simp; all_goals with_reducible rfl)
      try simp only [Act.put, tI, tP, tQ]
      refine wpAnyH_take (i := 11) (oi := ?a16_11) (v := ?b16_11) ?c16_11 (by kernel_rfl) (by kernel_rfl) (by kernel_rfl) ?d16_11 ?e16_11 (by assumption) ?f16_11
      case c16_11 => simp only [tA, tS, tZ]; rfl
      case d16_11 => exact fun _ _ _ h => h
      case e16_11 => (refine Or.inl ⟨by rfl, ?_⟩; intro w h; (try dsimp only at h); go_simp; all_goals with_reducible rfl)
      try simp only [Act.put, tI, tP, tQ]
      refine wpAnyH_take (i := 12) (oi := ?a16_12) (v := ?b16_12) ?c16_12 (by kernel_rfl) (by kernel_rfl) (by kernel_rfl) ?d16_12 ?e16_12 (by assumption) ?f16_12
      case c16_12 => simp only [tA, tS, tZ]; rfl
      case d16_12 => exact fun _ _ _ h => h
      case e16_12 => (refine Or.inl ⟨by rfl, ?_⟩; intro w h; (try dsimp only at h); go_simp; all_goals with_reducible rfl)
      try simp only [Act.put, tI, tP, tQ]
      refine wpAnyH_take (i := 13) (oi := ?a16_13) (v := ?b16_13) ?c16_13 (by kernel_rfl) (by kernel_rfl) (by kernel_rfl) ?d16_13 ?e16_13 (by assumption) ?f16_13
      case c16_13 => simp only [tA, tS, tZ]; rfl
      case d16_13 => exact fun _ _ _ h => h
      case e16_13 => (refine Or.inl ⟨by rfl, ?_⟩; intro w h; (try dsimp only at h); go_simp; all_goals with_reducible rfl)
      try simp only [Act.put, tI, tP, tQ]
      refine wpAnyH_done (by kernel_rfl) ?_ _
      clear hHeld
      have SB : Sv < pw 8 ∧ Sv + K1 * M < pw 8 := by
        have hm := HM.out.2
        have e5 : pw 5 * 6000 ≤ pw 8 := by decide
        have kb := KB.out
        have q0 : K4 * tw.toNat ≤ pw 5 * 1000 := Nat.mul_le_mul (Nat.le_of_lt kb.2.2.2.2) (by omega)
        have q1 : K3 * on.toNat ≤ pw 5 * 1000 := Nat.mul_le_mul (Nat.le_of_lt kb.2.2.2.1) (by omega)
        have q2 : K2 * Z.toNat ≤ pw 5 * 1000 := Nat.mul_le_mul (Nat.le_of_lt kb.2.2.1) (by omega)
        have q3 : K1 * 0 ≤ pw 5 * 1000 := Nat.mul_le_mul (Nat.le_of_lt kb.2.1) (by omega)
        have q4 : K0 * 0 ≤ pw 5 * 1000 := Nat.mul_le_mul (Nat.le_of_lt kb.1) (by omega)
        have qq : K1 * M ≤ pw 5 * 1000 := Nat.mul_le_mul (Nat.le_of_lt kb.2.1) hm
        have hs : Sv = K4 * tw.toNat + K3 * on.toNat + K2 * Z.toNat := HI.out.1
        have p5 : 0 < pw 5 := pw_pos 5
        generalize pw 5 = P at *
        omega
      have SBH := Lib.hid SB
      clear SB
      go_wp2_with fail
      have c := refAdd_any w106 h_s_106 h_x_106
      rw [add_ok (Nat.lt_of_lt_of_le SBH.out.2 (pw_le (by decide)))] at c
      refine c.mono ?_
      rintro e w107 ⟨a_y, n_y, c_y, rfl, h_y_107, hb⟩
      clear c
      have B107 := B106.trans (hb.mono B106.size)
      have h_pl_107 := h_pl_106.below hb
      have h_pb_107 := h_pb_106.below hb
      have h_p_107 := h_p_106.later hb
      have h_m_107 := h_m_106.later hb
      have h_s_107 := h_s_106.below hb
      have h_l_107 := h_l_106.below hb
      have h_BW_107 := h_BW_106.trans (hb.mono h_BW_106.size)
      have h_ol_107 := h_ol_106.below hb
      have h_ob_107 := h_ob_106.below hb
      have h_o_107 := h_o_106.later hb
      have h_x_107 := h_x_106.below hb
      clear hb B106 h_pl_106 h_pb_106 h_p_106 h_m_106 h_s_106 h_l_106 h_BW_106 h_ol_106 h_ob_106 h_o_106 h_x_106
      have AL := Lib.hid (show leC (limbs Lv) (stepC p (-1 : Int)).lev = true by
        rw [SL.out, leC_ok (by rw [show Lv = K2 from HI.out.2]; exact Nat.lt_of_lt_of_le KB.out.2.2.1 (pw_le (by decide))) (Nat.lt_of_lt_of_le KB.out.2.1 (pw_le (by decide)))]
        refine decide_eq_true ?_
        rw [show Lv = K2 from HI.out.2]
        exact KM.out.2.2.1)
      have k_o_8 := h_o_107.cell 8 _ rfl
      go_wp2_with fail
      clear k_o_8
      have c := refAtMost_any w107 h_l_107 h_ol_107
      rw [AL.out] at c
      refine c.mono ?_
      rintro e w108 ⟨rfl, hb⟩
      clear c
      have B108 := B107.trans (hb.mono B107.size)
      have h_pl_108 := h_pl_107.below hb
      have h_pb_108 := h_pb_107.below hb
      have h_p_108 := h_p_107.later hb
      have h_m_108 := h_m_107.later hb
      have h_s_108 := h_s_107.below hb
      have h_l_108 := h_l_107.below hb
      have h_BW_108 := h_BW_107.trans (hb.mono h_BW_107.size)
      have h_ol_108 := h_ol_107.below hb
      have h_ob_108 := h_ob_107.below hb
      have h_o_108 := h_o_107.later hb
      have h_x_108 := h_x_107.below hb
      have h_y_108 := h_y_107.below hb
      clear hb B107 h_pl_107 h_pb_107 h_p_107 h_m_107 h_s_107 h_l_107 h_BW_107 h_ol_107 h_ob_107 h_o_107 h_x_107 h_y_107
      have k_o_8 := h_o_108.cell 8 _ rfl
      have k_m_1 := h_m_108.cell 1 _ rfl
      have ol := h_ol_108
      rw [SL.out] at ol
      have yy := h_y_108
      go_wp2_with fail
      go_roundw
      case rel => exact ⟨h_BW_108, _, _, _, _, _, _, _, _, rfl, rfl, yy, ol, .inr (.inr (.inr (.inr (.inl ⟨by go_num, by first | go_num | exact congrArg (Value.int .i64) (by first | omega | (simp only [wrap64]; omega) | (simp only [IntKind.wrap_i64]; omega)), Lib.hid ⟨by rw [HI.out.1, HM.out.1], rfl⟩⟩))))⟩
      case measure => simp [intOf]
    · have B100 := BASE.trans (BW.mono BASE.size)
      have h_pl_100 := h_pl_4.below BW
      have h_pb_100 := h_pb_4.below BW
      have h_p_100 := h_p_4.later BW
      have h_m_100 := h_m_4.later BW
      have h_s_100 := rs
      have h_l_100 := rl
      have h_BW_100 := BW
      clear rs rl BW
      by_cases x2 : p.s0 = 1000000
      case pos =>
        have df : (p.s0 == 1000000) = true := beq_iff_eq.2 x2
        clear x2
        have k_p_3 := h_p_100.cell 3 _ rfl
        go_wp2_with fail
        clear k_p_3
        have c := examples_any wr
        refine c.mono ?_
        rintro e w101 ⟨rfl, hb⟩
        clear c
        have B101 := B100.trans (hb.mono B100.size)
        have h_pl_101 := h_pl_100.below hb
        have h_pb_101 := h_pb_100.below hb
        have h_p_101 := h_p_100.later hb
        have h_m_101 := h_m_100.later hb
        have h_s_101 := h_s_100.below hb
        have h_l_101 := h_l_100.below hb
        have h_BW_101 := h_BW_100.trans (hb.mono h_BW_100.size)
        clear hb B100 h_pl_100 h_pb_100 h_p_100 h_m_100 h_s_100 h_l_100 h_BW_100
        go_wp2_with fail
        go_ret
        exact ⟨rfl, B101⟩
      have df : (p.s0 == 1000000) = false := beq_eq_false_iff_ne.2 x2
      have OB := Lib.hid (obs_oneC V0.out (x := (-2 : Int)) (by decide) (by decide) (by show p.s0 < 1000000; have := V0.out.s0; unfold inS at this; omega))
      have SL := Lib.hid ((stepC_lev V0.out (-2 : Int)).trans (congrArg limbs (KE.out.1).symm))
      obtain ⟨M, hM⟩ : ∃ M : Nat, M = le.toNat := ⟨_, rfl⟩
      have cv : IntKind.u64.wrap le = (M : Int) := by
        simp only [IntKind.wrap, IntKind.bits, IntKind.signed]
        simp
        omega
      have HM := Lib.hid (show M = le.toNat ∧ M ≤ 1000 from ⟨hM, by omega⟩)
      clear hM x2
      have k_p_0 := h_p_100.cell 0 _ rfl
      have k_p_1 := h_p_100.cell 1 _ rfl
      have k_p_2 := h_p_100.cell 2 _ rfl
      have k_p_3 := h_p_100.cell 3 _ rfl
      have k_p_4 := h_p_100.cell 4 _ rfl
      have k_p_5 := h_p_100.cell 5 _ rfl
      have k_p_6 := h_p_100.cell 6 _ rfl
      have k_p_7 := h_p_100.cell 7 _ rfl
      have k_p_8 := h_p_100.cell 8 _ rfl
      have k_p_9 := h_p_100.cell 9 _ rfl
      have hb := below_al wr (.cells #[.int .i64 (-2 : Int)] 3)
      have B101 := B100.trans (hb.mono B100.size)
      have h_pl_101 := h_pl_100.below hb
      have h_pb_101 := h_pb_100.below hb
      have h_p_101 := h_p_100.later hb
      have h_m_101 := h_m_100.later hb
      have h_s_101 := h_s_100.below hb
      have h_l_101 := h_l_100.below hb
      have h_BW_101 := h_BW_100.trans (hb.mono h_BW_100.size)
      clear hb B100 h_pl_100 h_pb_100 h_p_100 h_m_100 h_s_100 h_l_100 h_BW_100
      have h_li_101 := rdI_lone wr (-2 : Int) (by unfold wide64; decide)
      go_wp2_with fail
      clear k_p_0 k_p_1 k_p_2 k_p_3 k_p_4 k_p_5 k_p_6 k_p_7 k_p_8 k_p_9
      generalize (wr.alloc (.cells #[.int .i64 (-2 : Int)] 3)) = w101 at *
      have c := cmObserve_any w101 h_pl_101 h_pb_101 pw_p h_li_101
      rw [OB.out] at c
      refine c.mono ?_
      rintro e w102 ⟨a_o, n_o, c_o, b_o, m_o, d_o, rfl, h_ol_102, h_ob_102, hb⟩
      clear c
      have B102 := B101.trans (hb.mono B101.size)
      have h_pl_102 := h_pl_101.below hb
      have h_pb_102 := h_pb_101.below hb
      have h_p_102 := h_p_101.later hb
      have h_m_102 := h_m_101.later hb
      have h_s_102 := h_s_101.below hb
      have h_l_102 := h_l_101.below hb
      have h_BW_102 := h_BW_101.trans (hb.mono h_BW_101.size)
      clear hb B101 h_pl_101 h_pb_101 h_p_101 h_m_101 h_s_101 h_l_101 h_BW_101 h_li_101
      have hb := below_al w102 (.cells (cmC (stepC p (-2 : Int)) a_o n_o c_o b_o m_o d_o) 25)
      have B103 := B102.trans (hb.mono B102.size)
      have h_pl_103 := h_pl_102.below hb
      have h_pb_103 := h_pb_102.below hb
      have h_p_103 := h_p_102.later hb
      have h_m_103 := h_m_102.later hb
      have h_s_103 := h_s_102.below hb
      have h_l_103 := h_l_102.below hb
      have h_BW_103 := h_BW_102.trans (hb.mono h_BW_102.size)
      have h_ol_103 := h_ol_102.below hb
      have h_ob_103 := h_ob_102.below hb
      clear hb B102 h_pl_102 h_pb_102 h_p_102 h_m_102 h_s_102 h_l_102 h_BW_102 h_ol_102 h_ob_102
      have h_o_103 := Has.new w102 (cmC (stepC p (-2 : Int)) a_o n_o c_o b_o m_o d_o) 25
      go_upto_region 13 with (first | refine wpList_store_new rfl 25 _ _ rfl atCmp _ _ _ rfl rfl rfl rfl (cm_one (stepC p (-2 : Int)) _ _ _ _ _ _) ?_)
      generalize (w102.alloc (.cells (cmC (stepC p (-2 : Int)) a_o n_o c_o b_o m_o d_o) 25)) = w103 at *
      have wq : IntKind.i64.wrap 0 = 0 := by decide
      have hb := (Below.refl w103.heap.size w103).drew
      have B104 := B103.trans (hb.mono B103.size)
      have h_pl_104 := h_pl_103.below hb
      have h_pb_104 := h_pb_103.below hb
      have h_p_104 := h_p_103.later hb
      have h_m_104 := h_m_103.later hb
      have h_s_104 := h_s_103.below hb
      have h_l_104 := h_l_103.below hb
      have h_BW_104 := h_BW_103.trans (hb.mono h_BW_103.size)
      have h_ol_104 := h_ol_103.below hb
      have h_ob_104 := h_ob_103.below hb
      have h_o_104 := h_o_103.later hb
      clear hb B103 h_pl_103 h_pb_103 h_p_103 h_m_103 h_s_103 h_l_103 h_BW_103 h_ol_103 h_ob_103 h_o_103
      refine wp_region_held_drew (S := (fun w' => w'.cell? ⟨w102.heap.size, 8, none⟩ = some (.slice a_o n_o c_o) ∧ w'.cell? ⟨w3.heap.size, 0, none⟩ = some (.int .i64 le) ∧ True)) (by kernel_rfl) ?_ (fun hHeld => ?_)
      · exact ⟨h_o_104.cell 8 _ rfl, h_m_104.cell 0 _ rfl, trivial⟩
      generalize w103.drew = w104 at *
      refine wpAnyH_take (i := 0) (oi := ?a17_0) (v := ?b17_0) ?c17_0 (by kernel_rfl) (by kernel_rfl) (by kernel_rfl) ?d17_0 ?e17_0 (by assumption) ?f17_0
      case c17_0 => simp only [tA, tS, tZ]; rfl
      case d17_0 => exact fun _ _ _ h => h
      case e17_0 => (refine Or.inl ⟨by rfl, ?_⟩; intro w h; (try dsimp only at h); go_simp; all_goals with_reducible rfl)
      try simp only [Act.put, tI, tP, tQ]
      refine wpAnyH_take (i := 1) (oi := ?a17_1) (v := ?b17_1) ?c17_1 (by kernel_rfl) (by kernel_rfl) (by kernel_rfl) ?d17_1 ?e17_1 (by assumption) ?f17_1
      case c17_1 => simp only [tA, tS, tZ]; rfl
      case d17_1 => exact fun _ _ _ h => h
      case e17_1 => (refine Or.inl ⟨by rfl, ?_⟩; intro w h; (try dsimp only at h); go_simp; all_goals with_reducible rfl)
      try simp only [Act.put, tI, tP, tQ]
      refine wpAnyH_take (i := 2) (oi := ?a17_2) (v := ?b17_2) ?c17_2 (by kernel_rfl) (by kernel_rfl) (by kernel_rfl) ?d17_2 ?e17_2 (by assumption) ?f17_2
      case c17_2 => simp only [tA, tS, tZ]; rfl
      case d17_2 => exact fun _ _ _ h => h
      case e17_2 => (refine Or.inl ⟨by rfl, ?_⟩; intro w h; (try dsimp only at h); go_simp; all_goals with_reducible rfl)
      try simp only [Act.put, tI, tP, tQ]
      refine wpAnyH_take (i := 3) (oi := ?a17_3) (v := ?b17_3) ?c17_3 (by kernel_rfl) (by kernel_rfl) (by kernel_rfl) ?d17_3 ?e17_3 (by assumption) ?f17_3
      case c17_3 => simp only [tA, tS, tZ]; rfl
      case d17_3 => exact fun _ _ _ h => h
      case e17_3 => (refine Or.inl ⟨by rfl, ?_⟩; intro w h; (try dsimp only at h); go_simp; all_goals with_reducible rfl)
      try simp only [Act.put, tI, tP, tQ]
      refine wpAnyH_take (i := 4) (oi := ?a17_4) (v := ?b17_4) ?c17_4 (by kernel_rfl) (by kernel_rfl) (by kernel_rfl) ?d17_4 ?e17_4 (by assumption) ?f17_4
      case c17_4 => simp only [tA, tS, tZ]; rfl
      case d17_4 => exact fun _ _ _ h => h
      case e17_4 => (refine Or.inl ⟨by rfl, ?_⟩; intro w h; (try dsimp only at h); go_simp; all_goals with_reducible rfl)
      try simp only [Act.put, tI, tP, tQ]
      refine wpAnyH_take (i := 5) (oi := ?a17_5) (v := ?b17_5) ?c17_5 (by kernel_rfl) (by kernel_rfl) (by kernel_rfl) ?d17_5 ?e17_5 (by assumption) ?f17_5
      case c17_5 => simp only [tA, tS, tZ]; rfl
      case d17_5 => exact fun _ _ _ h => h
      case e17_5 => (refine Or.inl ⟨by rfl, ?_⟩; intro w h; (try dsimp only at h); go_simp; all_goals with_reducible rfl)
      try simp only [Act.put, tI, tP, tQ]
      refine wpAnyH_take (i := 6) (oi := ?a17_6) (v := ?b17_6) ?c17_6 (by kernel_rfl) (by kernel_rfl) (by kernel_rfl) ?d17_6 ?e17_6 (by assumption) ?f17_6
      case c17_6 => simp only [tA, tS, tZ]; rfl
      case d17_6 => exact fun _ _ _ h => h
      case e17_6 => (refine Or.inl ⟨by rfl, ?_⟩; intro w h; (try dsimp only at h); go_simp; all_goals with_reducible rfl)
      try simp only [Act.put, tI, tP, tQ]
      refine wpAnyH_ready (rs := [7]) (by kernel_rfl) (by simp) ?_
      refine AllReadyH.cons (o := ?or18_7) ?hor18_7 (fun K hK => ?kr18_7) AllReadyH.nil
      case hor18_7 => simp only [List.getElem?_toArray, List.getElem?_cons_succ, List.getElem?_cons_zero]; rfl
      go_simp
      have c := refOf_any w104 M (by have := HM.out.2; omega)
      refine c.mono ?_
      rintro e w105 ⟨a_f, n_f, c_f, rfl, h_f_105, hb⟩
      clear c
      have B105 := B104.trans (hb.mono B104.size)
      have h_pl_105 := h_pl_104.below hb
      have h_pb_105 := h_pb_104.below hb
      have h_p_105 := h_p_104.later hb
      have h_m_105 := h_m_104.later hb
      have h_s_105 := h_s_104.below hb
      have h_l_105 := h_l_104.below hb
      have h_BW_105 := h_BW_104.trans (hb.mono h_BW_104.size)
      have h_ol_105 := h_ol_104.below hb
      have h_ob_105 := h_ob_104.below hb
      have h_o_105 := h_o_104.later hb
      clear hb B104 h_pl_104 h_pb_104 h_p_104 h_m_104 h_s_104 h_l_104 h_BW_104 h_ol_104 h_ob_104 h_o_104
      go_wp2_with fail
      clear hHeld
      refine hK.out _ _ ?_ (fun hHeld => ?_)
      · exact ⟨h_o_105.cell 8 _ rfl, h_m_105.cell 0 _ rfl, trivial⟩
      clear hK K
      try simp only [Act.put, List.setIfInBounds_toArray, List.set_cons_zero, List.set_cons_succ]
      refine wpAnyH_ready (rs := [8]) (by kernel_rfl) (by simp) ?_
      refine AllReadyH.cons (o := ?or19_8) ?hor19_8 (fun K hK => ?kr19_8) AllReadyH.nil
      case hor19_8 => simp only [List.getElem?_toArray, List.getElem?_cons_succ, List.getElem?_cons_zero]; rfl
      go_simp
      have hol := h_ol_105
      rw [SL.out] at hol
      have c := refMul_any w105 hol h_f_105
      rw [mul_ok (Nat.lt_of_lt_of_le KB.out.1 (pw_le (by decide))) (Nat.lt_of_le_of_lt HM.out.2 (Nat.lt_of_lt_of_le (by decide) (pw_le (show 1 ≤ 96 by decide)))) (Nat.lt_of_lt_of_le (mul_lt_pw KB.out.1 (show M < pw 1 from Nat.lt_of_le_of_lt HM.out.2 (by decide))) (pw_le (by decide)))] at c
      refine c.mono ?_
      rintro e w106 ⟨a_x, n_x, c_x, rfl, h_x_106, hb⟩
      clear c
      have B106 := B105.trans (hb.mono B105.size)
      have h_pl_106 := h_pl_105.below hb
      have h_pb_106 := h_pb_105.below hb
      have h_p_106 := h_p_105.later hb
      have h_m_106 := h_m_105.later hb
      have h_s_106 := h_s_105.below hb
      have h_l_106 := h_l_105.below hb
      have h_BW_106 := h_BW_105.trans (hb.mono h_BW_105.size)
      have h_ol_106 := h_ol_105.below hb
      have h_ob_106 := h_ob_105.below hb
      have h_o_106 := h_o_105.later hb
      clear hb B105 h_pl_105 h_pb_105 h_p_105 h_m_105 h_s_105 h_l_105 h_BW_105 h_ol_105 h_ob_105 h_o_105 h_f_105
      clear hol
      go_wp2_with fail
      clear hHeld
      refine hK.out _ _ ?_ (fun hHeld => ?_)
      · exact ⟨h_o_106.cell 8 _ rfl, h_m_106.cell 0 _ rfl, trivial⟩
      clear hK K
      try simp only [Act.put, List.setIfInBounds_toArray, List.set_cons_zero, List.set_cons_succ]
      refine wpAnyH_take (i := 9) (oi := ?a20_9) (v := ?b20_9) ?c20_9 (by kernel_rfl) (by kernel_rfl) (by kernel_rfl) ?d20_9 ?e20_9 (by assumption) ?f20_9
      case c20_9 => simp only [tA, tS, tZ]; rfl
      case d20_9 => exact fun _ _ _ h => h
      case e20_9 => (refine Or.inl ⟨by rfl, ?_⟩; intro w h; (try dsimp only at h); go_simp; all_goals with_reducible rfl)
      try simp only [Act.put, tI, tP, tQ]
      refine wpAnyH_take (i := 10) (oi := ?a20_10) (v := ?b20_10) ?c20_10 (by kernel_rfl) (by kernel_rfl) (by kernel_rfl) ?d20_10 ?e20_10 (by assumption) ?f20_10
      case c20_10 => simp only [tA, tS, tZ]; rfl
      case d20_10 => exact fun _ _ _ h => h
      case e20_10 => (refine Or.inl ⟨by rfl, ?_⟩; intro w h; (try dsimp only at h); go_simp; all_goals with_reducible rfl)
      try simp only [Act.put, tI, tP, tQ]
      refine wpAnyH_take (i := 11) (oi := ?a20_11) (v := ?b20_11) ?c20_11 (by kernel_rfl) (by kernel_rfl) (by kernel_rfl) ?d20_11 ?e20_11 (by assumption) ?f20_11
      case c20_11 => simp only [tA, tS, tZ]; rfl
      case d20_11 => exact fun _ _ _ h => h
      case e20_11 => (refine Or.inl ⟨by rfl, ?_⟩; intro w h; (try dsimp only at h); go_simp; all_goals with_reducible rfl)
      try simp only [Act.put, tI, tP, tQ]
      refine wpAnyH_take (i := 12) (oi := ?a20_12) (v := ?b20_12) ?c20_12 (by kernel_rfl) (by kernel_rfl) (by kernel_rfl) ?d20_12 ?e20_12 (by assumption) ?f20_12
      case c20_12 => simp only [tA, tS, tZ]; rfl
      case d20_12 => exact fun _ _ _ h => h
      case e20_12 => (refine Or.inl ⟨by rfl, ?_⟩; intro w h; (try dsimp only at h); go_simp; all_goals with_reducible rfl)
      try simp only [Act.put, tI, tP, tQ]
      refine wpAnyH_take (i := 13) (oi := ?a20_13) (v := ?b20_13) ?c20_13 (by kernel_rfl) (by kernel_rfl) (by kernel_rfl) ?d20_13 ?e20_13 (by assumption) ?f20_13
      case c20_13 => simp only [tA, tS, tZ]; rfl
      case d20_13 => exact fun _ _ _ h => h
      case e20_13 => (refine Or.inl ⟨by rfl, ?_⟩; intro w h; (try dsimp only at h); go_simp; all_goals with_reducible rfl)
      try simp only [Act.put, tI, tP, tQ]
      refine wpAnyH_done (by kernel_rfl) ?_ _
      clear hHeld
      have SB : Sv < pw 8 ∧ Sv + K0 * M < pw 8 := by
        have hm := HM.out.2
        have e5 : pw 5 * 6000 ≤ pw 8 := by decide
        have kb := KB.out
        have q0 : K4 * tw.toNat ≤ pw 5 * 1000 := Nat.mul_le_mul (Nat.le_of_lt kb.2.2.2.2) (by omega)
        have q1 : K3 * on.toNat ≤ pw 5 * 1000 := Nat.mul_le_mul (Nat.le_of_lt kb.2.2.2.1) (by omega)
        have q2 : K2 * Z.toNat ≤ pw 5 * 1000 := Nat.mul_le_mul (Nat.le_of_lt kb.2.2.1) (by omega)
        have q3 : K1 * mi.toNat ≤ pw 5 * 1000 := Nat.mul_le_mul (Nat.le_of_lt kb.2.1) (by omega)
        have q4 : K0 * 0 ≤ pw 5 * 1000 := Nat.mul_le_mul (Nat.le_of_lt kb.1) (by omega)
        have qq : K0 * M ≤ pw 5 * 1000 := Nat.mul_le_mul (Nat.le_of_lt kb.1) hm
        have hs : Sv = K4 * tw.toNat + K3 * on.toNat + K2 * Z.toNat + K1 * mi.toNat := HI.out.1
        have p5 : 0 < pw 5 := pw_pos 5
        generalize pw 5 = P at *
        omega
      have SBH := Lib.hid SB
      clear SB
      go_wp2_with fail
      have c := refAdd_any w106 h_s_106 h_x_106
      rw [add_ok (Nat.lt_of_lt_of_le SBH.out.2 (pw_le (by decide)))] at c
      refine c.mono ?_
      rintro e w107 ⟨a_y, n_y, c_y, rfl, h_y_107, hb⟩
      clear c
      have B107 := B106.trans (hb.mono B106.size)
      have h_pl_107 := h_pl_106.below hb
      have h_pb_107 := h_pb_106.below hb
      have h_p_107 := h_p_106.later hb
      have h_m_107 := h_m_106.later hb
      have h_s_107 := h_s_106.below hb
      have h_l_107 := h_l_106.below hb
      have h_BW_107 := h_BW_106.trans (hb.mono h_BW_106.size)
      have h_ol_107 := h_ol_106.below hb
      have h_ob_107 := h_ob_106.below hb
      have h_o_107 := h_o_106.later hb
      have h_x_107 := h_x_106.below hb
      clear hb B106 h_pl_106 h_pb_106 h_p_106 h_m_106 h_s_106 h_l_106 h_BW_106 h_ol_106 h_ob_106 h_o_106 h_x_106
      have AL := Lib.hid (show leC (limbs Lv) (stepC p (-2 : Int)).lev = true by
        rw [SL.out, leC_ok (by rw [show Lv = K1 from HI.out.2]; exact Nat.lt_of_lt_of_le KB.out.2.1 (pw_le (by decide))) (Nat.lt_of_lt_of_le KB.out.1 (pw_le (by decide)))]
        refine decide_eq_true ?_
        rw [show Lv = K1 from HI.out.2]
        exact KM.out.2.2.2)
      have k_o_8 := h_o_107.cell 8 _ rfl
      go_wp2_with fail
      clear k_o_8
      have c := refAtMost_any w107 h_l_107 h_ol_107
      rw [AL.out] at c
      refine c.mono ?_
      rintro e w108 ⟨rfl, hb⟩
      clear c
      have B108 := B107.trans (hb.mono B107.size)
      have h_pl_108 := h_pl_107.below hb
      have h_pb_108 := h_pb_107.below hb
      have h_p_108 := h_p_107.later hb
      have h_m_108 := h_m_107.later hb
      have h_s_108 := h_s_107.below hb
      have h_l_108 := h_l_107.below hb
      have h_BW_108 := h_BW_107.trans (hb.mono h_BW_107.size)
      have h_ol_108 := h_ol_107.below hb
      have h_ob_108 := h_ob_107.below hb
      have h_o_108 := h_o_107.later hb
      have h_x_108 := h_x_107.below hb
      have h_y_108 := h_y_107.below hb
      clear hb B107 h_pl_107 h_pb_107 h_p_107 h_m_107 h_s_107 h_l_107 h_BW_107 h_ol_107 h_ob_107 h_o_107 h_x_107 h_y_107
      have k_o_8 := h_o_108.cell 8 _ rfl
      have k_m_0 := h_m_108.cell 0 _ rfl
      have ol := h_ol_108
      rw [SL.out] at ol
      have yy := h_y_108
      go_wp2_with fail
      go_roundw
      case rel => exact ⟨h_BW_108, _, _, _, _, _, _, _, _, rfl, rfl, yy, ol, .inr (.inr (.inr (.inr (.inr ⟨by go_num, by first | go_num | exact congrArg (Value.int .i64) (by first | omega | (simp only [wrap64]; omega) | (simp only [IntKind.wrap_i64]; omega)), Lib.hid ⟨by rw [HI.out.1, HM.out.1], rfl⟩⟩))))⟩
      case measure => simp [intOf]
    · have B100 := BASE.trans (BW.mono BASE.size)
      have h_pl_100 := h_pl_4.below BW
      have h_pb_100 := h_pb_4.below BW
      have h_p_100 := h_p_4.later BW
      have h_m_100 := h_m_4.later BW
      have h_s_100 := rs
      have h_l_100 := rl
      have h_BW_100 := BW
      clear rs rl BW
      obtain ⟨M, hM⟩ : ∃ M : Nat, M = p.ballots.toNat := ⟨_, rfl⟩
      have cv : IntKind.u64.wrap p.ballots = (M : Int) := by
        simp only [IntKind.wrap, IntKind.bits, IntKind.signed]
        simp
        omega
      have HM := Lib.hid (show M = tw.toNat + on.toNat + Z.toNat + mi.toNat + le.toNat ∧ M ≤ 1000 from ⟨by have := HZ.out; omega, by omega⟩)
      clear hM
      go_upto_region 20 with fail
      have hb := (Below.refl wr.heap.size wr).drew
      have B101 := B100.trans (hb.mono B100.size)
      have h_pl_101 := h_pl_100.below hb
      have h_pb_101 := h_pb_100.below hb
      have h_p_101 := h_p_100.later hb
      have h_m_101 := h_m_100.later hb
      have h_s_101 := h_s_100.below hb
      have h_l_101 := h_l_100.below hb
      have h_BW_101 := h_BW_100.trans (hb.mono h_BW_100.size)
      clear hb B100 h_pl_100 h_pb_100 h_p_100 h_m_100 h_s_100 h_l_100 h_BW_100
      refine wp_region_held_drew (S := (fun w' => w'.cell? ⟨w.heap.size, 1, none⟩ = some (.int .i64 (p).ballots) ∧ w'.cell? ⟨w.heap.size, 8, none⟩ = some (.slice a_p n_p c_p) ∧ True)) (by kernel_rfl) ?_ (fun hHeld => ?_)
      · exact ⟨h_p_101.cell 1 _ rfl, h_p_101.cell 8 _ rfl, trivial⟩
      generalize wr.drew = w101 at *
      refine wpAnyH_take (i := 0) (oi := ?a21_0) (v := ?b21_0) ?c21_0 (by kernel_rfl) (by kernel_rfl) (by kernel_rfl) ?d21_0 ?e21_0 (by assumption) ?f21_0
      case c21_0 => simp only [tA, tS, tZ]; rfl
      case d21_0 => exact fun _ _ _ h => h
      case e21_0 => (refine Or.inl ⟨by rfl, ?_⟩; intro w h; (try dsimp only at h); go_simp; all_goals with_reducible rfl)
      try simp only [Act.put, tI, tP, tQ]
      refine wpAnyH_take (i := 1) (oi := ?a21_1) (v := ?b21_1) ?c21_1 (by kernel_rfl) (by kernel_rfl) (by kernel_rfl) ?d21_1 ?e21_1 (by assumption) ?f21_1
      case c21_1 => simp only [tA, tS, tZ]; rfl
      case d21_1 => exact fun _ _ _ h => h
      case e21_1 => (refine Or.inl ⟨by rfl, ?_⟩; intro w h; (try dsimp only at h); go_simp; all_goals with_reducible rfl)
      try simp only [Act.put, tI, tP, tQ]
      refine wpAnyH_take (i := 2) (oi := ?a21_2) (v := ?b21_2) ?c21_2 (by kernel_rfl) (by kernel_rfl) (by kernel_rfl) ?d21_2 ?e21_2 (by assumption) ?f21_2
      case c21_2 => simp only [tA, tS, tZ]; rfl
      case d21_2 => exact fun _ _ _ h => h
      case e21_2 => (refine Or.inl ⟨by rfl, ?_⟩; intro w h; (try dsimp only at h); go_simp; all_goals with_reducible rfl)
      try simp only [Act.put, tI, tP, tQ]
      refine wpAnyH_take (i := 3) (oi := ?a21_3) (v := ?b21_3) ?c21_3 (by kernel_rfl) (by kernel_rfl) (by kernel_rfl) ?d21_3 ?e21_3 (by assumption) ?f21_3
      case c21_3 => simp only [tA, tS, tZ]; rfl
      case d21_3 => exact fun _ _ _ h => h
      case e21_3 => (refine Or.inl ⟨by rfl, ?_⟩; intro w h; (try dsimp only at h); go_simp; all_goals with_reducible rfl)
      try simp only [Act.put, tI, tP, tQ]
      refine wpAnyH_take (i := 4) (oi := ?a21_4) (v := ?b21_4) ?c21_4 (by kernel_rfl) (by kernel_rfl) (by kernel_rfl) ?d21_4 ?e21_4 (by assumption) ?f21_4
      case c21_4 => simp only [tA, tS, tZ]; rfl
      case d21_4 => exact fun _ _ _ h => h
      case e21_4 => (refine Or.inl ⟨by rfl, ?_⟩; intro w h; (try dsimp only at h); go_simp; all_goals with_reducible rfl)
      try simp only [Act.put, tI, tP, tQ]
      refine wpAnyH_ready (rs := [5]) (by kernel_rfl) (by simp) ?_
      refine AllReadyH.cons (o := ?or22_5) ?hor22_5 (fun K hK => ?kr22_5) AllReadyH.nil
      case hor22_5 => simp only [List.getElem?_toArray, List.getElem?_cons_succ, List.getElem?_cons_zero]; rfl
      go_simp
      have c := refOf_any w101 M (by have := HM.out.2; omega)
      refine c.mono ?_
      rintro e w102 ⟨a_f, n_f, c_f, rfl, h_f_102, hb⟩
      clear c
      have B102 := B101.trans (hb.mono B101.size)
      have h_pl_102 := h_pl_101.below hb
      have h_pb_102 := h_pb_101.below hb
      have h_p_102 := h_p_101.later hb
      have h_m_102 := h_m_101.later hb
      have h_s_102 := h_s_101.below hb
      have h_l_102 := h_l_101.below hb
      have h_BW_102 := h_BW_101.trans (hb.mono h_BW_101.size)
      clear hb B101 h_pl_101 h_pb_101 h_p_101 h_m_101 h_s_101 h_l_101 h_BW_101
      go_wp2_with fail
      clear hHeld
      refine hK.out _ _ ?_ (fun hHeld => ?_)
      · exact ⟨h_p_102.cell 1 _ rfl, h_p_102.cell 8 _ rfl, trivial⟩
      clear hK K
      try simp only [Act.put, List.setIfInBounds_toArray, List.set_cons_zero, List.set_cons_succ]
      refine wpAnyH_ready (rs := [6]) (by kernel_rfl) (by simp) ?_
      refine AllReadyH.cons (o := ?or23_6) ?hor23_6 (fun K hK => ?kr23_6) AllReadyH.nil
      case hor23_6 => simp only [List.getElem?_toArray, List.getElem?_cons_succ, List.getElem?_cons_zero]; rfl
      go_simp
      have hol := h_pl_102
      rw [V0.out.lev] at hol
      have c := refMul_any w102 hol h_f_102
      rw [mul_ok V0.out.pw.1 (Nat.lt_of_le_of_lt HM.out.2 (Nat.lt_of_lt_of_le (by decide) (pw_le (show 1 ≤ 96 by decide)))) (Nat.lt_of_lt_of_le (mul_lt_pw (show La < pw 5 from Nat.lt_of_le_of_lt (Nat.le_trans V0.out.le V0.out.hi) (by decide)) (show M < pw 1 from Nat.lt_of_le_of_lt HM.out.2 (by decide))) (pw_le (by decide)))] at c
      refine c.mono ?_
      rintro e w103 ⟨a_x, n_x, c_x, rfl, h_x_103, hb⟩
      clear c
      have B103 := B102.trans (hb.mono B102.size)
      have h_pl_103 := h_pl_102.below hb
      have h_pb_103 := h_pb_102.below hb
      have h_p_103 := h_p_102.later hb
      have h_m_103 := h_m_102.later hb
      have h_s_103 := h_s_102.below hb
      have h_l_103 := h_l_102.below hb
      have h_BW_103 := h_BW_102.trans (hb.mono h_BW_102.size)
      clear hb B102 h_pl_102 h_pb_102 h_p_102 h_m_102 h_s_102 h_l_102 h_BW_102 h_f_102
      clear hol
      go_wp2_with fail
      clear hHeld
      refine hK.out _ _ ?_ (fun hHeld => ?_)
      · exact ⟨h_p_103.cell 1 _ rfl, h_p_103.cell 8 _ rfl, trivial⟩
      clear hK K
      try simp only [Act.put, List.setIfInBounds_toArray, List.set_cons_zero, List.set_cons_succ]
      refine wpAnyH_take (i := 7) (oi := ?a24_7) (v := ?b24_7) ?c24_7 (by kernel_rfl) (by kernel_rfl) (by kernel_rfl) ?d24_7 ?e24_7 (by assumption) ?f24_7
      case c24_7 => simp only [tA, tS, tZ]; rfl
      case d24_7 => exact fun _ _ _ h => h
      case e24_7 => (refine Or.inl ⟨by rfl, ?_⟩; intro w h; (try dsimp only at h); go_simp; all_goals with_reducible rfl)
      try simp only [Act.put, tI, tP, tQ]
      refine wpAnyH_take (i := 8) (oi := ?a24_8) (v := ?b24_8) ?c24_8 (by kernel_rfl) (by kernel_rfl) (by kernel_rfl) ?d24_8 ?e24_8 (by assumption) ?f24_8
      case c24_8 => simp only [tA, tS, tZ]; rfl
      case d24_8 => exact fun _ _ _ h => h
      case e24_8 => (refine Or.inl ⟨by rfl, ?_⟩; intro w h; (try dsimp only at h); go_simp; all_goals with_reducible rfl)
      try simp only [Act.put, tI, tP, tQ]
      refine wpAnyH_take (i := 9) (oi := ?a24_9) (v := ?b24_9) ?c24_9 (by kernel_rfl) (by kernel_rfl) (by kernel_rfl) ?d24_9 ?e24_9 (by assumption) ?f24_9
      case c24_9 => simp only [tA, tS, tZ]; rfl
      case d24_9 => exact fun _ _ _ h => h
      case e24_9 => (refine Or.inl ⟨by rfl, ?_⟩; intro w h; (try dsimp only at h); go_simp; all_goals with_reducible rfl)
      try simp only [Act.put, tI, tP, tQ]
      refine wpAnyH_take (i := 10) (oi := ?a24_10) (v := ?b24_10) ?c24_10 (by kernel_rfl) (by kernel_rfl) (by kernel_rfl) ?d24_10 ?e24_10 (by assumption) ?f24_10
      case c24_10 => simp only [tA, tS, tZ]; rfl
      case d24_10 => exact fun _ _ _ h => h
      case e24_10 => (refine Or.inl ⟨by rfl, ?_⟩; intro w h; (try dsimp only at h); go_simp; all_goals with_reducible rfl)
      try simp only [Act.put, tI, tP, tQ]
      refine wpAnyH_take (i := 11) (oi := ?a24_11) (v := ?b24_11) ?c24_11 (by kernel_rfl) (by kernel_rfl) (by kernel_rfl) ?d24_11 ?e24_11 (by assumption) ?f24_11
      case c24_11 => simp only [tA, tS, tZ]; rfl
      case d24_11 => exact fun _ _ _ h => h
      case e24_11 => (refine Or.inl ⟨by rfl, ?_⟩; intro w h; (try dsimp only at h); go_simp; all_goals with_reducible rfl)
      try simp only [Act.put, tI, tP, tQ]
      refine wpAnyH_done (by kernel_rfl) ?_ _
      clear hHeld
      by_cases big : (2 * tw + on - mi - 2 * le) < p.margin
      case pos =>
        have db : decide ((2 * tw + on - mi - 2 * le) < p.margin) = true := decide_eq_true big
        clear big
        have k_p_2 := h_p_103.cell 2 _ rfl
        go_wp2_with fail
        clear k_p_2
        have c := examples_any w103
        refine c.mono ?_
        rintro e w104 ⟨rfl, hb⟩
        clear c
        have B104 := B103.trans (hb.mono B103.size)
        have h_pl_104 := h_pl_103.below hb
        have h_pb_104 := h_pb_103.below hb
        have h_p_104 := h_p_103.later hb
        have h_m_104 := h_m_103.later hb
        have h_s_104 := h_s_103.below hb
        have h_l_104 := h_l_103.below hb
        have h_BW_104 := h_BW_103.trans (hb.mono h_BW_103.size)
        have h_x_104 := h_x_103.below hb
        clear hb B103 h_pl_103 h_pb_103 h_p_103 h_m_103 h_s_103 h_l_103 h_BW_103 h_x_103
        go_wp2_with fail
        go_ret
        exact ⟨rfl, B104⟩
      have db : decide ((2 * tw + on - mi - 2 * le) < p.margin) = false := decide_eq_false big
      have AL := Lib.hid (show leC (limbs Sv) (limbs (La * M)) = true by
        have hs := HI.out.1
        have hz := HZ.out
        have m96 : La * M < pw 96 := Nat.lt_of_lt_of_le (mul_lt_pw (show La < pw 5 from Nat.lt_of_le_of_lt (Nat.le_trans V0.out.le V0.out.hi) (by decide)) (show M < pw 1 from Nat.lt_of_le_of_lt HM.out.2 (by decide))) (pw_le (by decide))
        have hle : Sv ≤ La * M := by
          rw [hs, HM.out.1, KE.out.1, KE.out.2.1, KE.out.2.2.1, KE.out.2.2.2.1, KE.out.2.2.2.2]
          exact super_cmp (x4 := tw.toNat) (x3 := on.toNat) (x2 := Z.toNat) (x1 := mi.toNat) (x0 := le.toNat) V0.out.may (by omega) (by omega)
        rw [leC_ok (Nat.lt_of_le_of_lt hle m96) m96]
        exact decide_eq_true hle)
      clear big
      have k_p_2 := h_p_103.cell 2 _ rfl
      go_wp2_with fail
      clear k_p_2
      have c := refAtMost_any w103 h_s_103 h_x_103
      rw [AL.out] at c
      refine c.mono ?_
      rintro e w104 ⟨rfl, hb⟩
      clear c
      have B104 := B103.trans (hb.mono B103.size)
      have h_pl_104 := h_pl_103.below hb
      have h_pb_104 := h_pb_103.below hb
      have h_p_104 := h_p_103.later hb
      have h_m_104 := h_m_103.later hb
      have h_s_104 := h_s_103.below hb
      have h_l_104 := h_l_103.below hb
      have h_BW_104 := h_BW_103.trans (hb.mono h_BW_103.size)
      have h_x_104 := h_x_103.below hb
      clear hb B103 h_pl_103 h_pb_103 h_p_103 h_m_103 h_s_103 h_l_103 h_BW_103 h_x_103
      go_wp2_with fail
      have c := examples_any w104
      refine c.mono ?_
      rintro e w105 ⟨rfl, hb⟩
      clear c
      have B105 := B104.trans (hb.mono B104.size)
      have h_pl_105 := h_pl_104.below hb
      have h_pb_105 := h_pb_104.below hb
      have h_p_105 := h_p_104.later hb
      have h_m_105 := h_m_104.later hb
      have h_s_105 := h_s_104.below hb
      have h_l_105 := h_l_104.below hb
      have h_BW_105 := h_BW_104.trans (hb.mono h_BW_104.size)
      have h_x_105 := h_x_104.below hb
      clear hb B104 h_pl_104 h_pb_104 h_p_104 h_m_104 h_s_104 h_l_104 h_BW_104 h_x_104
      go_wp2_with fail
      go_ret
      exact ⟨rfl, B105⟩

end Go.Proofs.Ytmkcdlhhbnakiaa
