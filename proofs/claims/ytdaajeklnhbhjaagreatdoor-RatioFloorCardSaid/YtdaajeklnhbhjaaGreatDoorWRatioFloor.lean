/- The walk of the law RatioFloor: it returns true and turns nothing that was there. No condition. Printed by gen_ratlaws.py. -/
import Derived.Test.YtdaajeklnhbhjaaGreatDoorRatW
import Derived.Test.YtdaajeklnhbhjaaGreatDoorRatV
import Derived.Test.YtdaajeklnhbhjaaGreatDoorRatY
import Derived.BigQuiet
import Derived.Deep.CutRange
namespace Go.Proofs.YtdaajeklnhbhjaaGreatDoor
open Go.RowKit Go.Suf
set_option linter.unusedVariables false
set_option linter.unusedSimpArgs false

set_option maxRecDepth 100000 in
set_option maxHeartbeats 8000000 in
theorem ratioFloor_walk (w : World) {g_x : Bool} {a_x b_x : Option Addr} {n_x c_x m_x d_x : Nat} {xn xd : List Nat} (h_xn : Rd .u32 w a_x n_x c_x xn) (h_xd : Rd .u32 w b_x m_x d_x xd) (n : Int) (h_n1 : -9223372036854775808 ≤ n) (h_n2 : n ≤ 9223372036854775807) :
    Calls Tryz.prog 9 #[ratV g_x a_x n_x c_x b_x m_x d_x, .int .i64 n] w fun e w' => e = .returned (.bool true) ∧ Below w.heap.size w w' := by
  obtain ⟨x, rfl, rfl, rfl⟩ : ∃ x : QV, g_x = x.neg ∧ xn = x.num ∧ xd = x.den := ⟨⟨g_x, xn, xd⟩, rfl, rfl, rfl⟩
  have l_n : n < 9223372036854775808 := by omega
  have B0 : Below w.heap.size w w := Below.refl _ _
  have h_xn_0 := h_xn
  have h_xd_0 := h_xd
  by_cases ok : okV x
  case neg =>
    have RT := Lib.hid (show (decide (okV x)) = false from decide_eq_false ok)
    clear ok
    go_enter Tryz.func9, Tryz.ntmps9
    have hb := below_al w (.cells #[.bool (x).neg, .slice a_x n_x c_x, .slice b_x m_x d_x] 24)
    have B1 := B0.trans (hb.mono B0.size)
    have h_xn_1 := h_xn_0.below hb
    have h_xd_1 := h_xd_0.below hb
    clear hb B0 h_xn_0 h_xd_0
    have h_x_1 := Has.new w #[.bool (x).neg, .slice a_x n_x c_x, .slice b_x m_x d_x] 24
    have k_x_0 := h_x_1.cell 0 _ rfl
    have k_x_1 := h_x_1.cell 1 _ rfl
    have k_x_2 := h_x_1.cell 2 _ rfl
    have hb := below_al (w.alloc (.cells #[.bool (x).neg, .slice a_x n_x c_x, .slice b_x m_x d_x] 24)) (.cells #[.bool (x).neg, .slice a_x n_x c_x, .slice b_x m_x d_x] 24)
    have B2 := B1.trans (hb.mono B1.size)
    have h_xn_2 := h_xn_1.below hb
    have h_xd_2 := h_xd_1.below hb
    have h_x_2 := h_x_1.later hb
    clear hb B1 h_xn_1 h_xd_1 h_x_1
    have h_l_2 := Has.new (w.alloc (.cells #[.bool (x).neg, .slice a_x n_x c_x, .slice b_x m_x d_x] 24)) #[.bool (x).neg, .slice a_x n_x c_x, .slice b_x m_x d_x] 24
    simp only [World.size_alloc] at h_l_2
    go_wp2_with fail
    clear k_x_0 k_x_1 k_x_2
    generalize ((w.alloc (.cells #[.bool (x).neg, .slice a_x n_x c_x, .slice b_x m_x d_x] 24)).alloc (.cells #[.bool (x).neg, .slice a_x n_x c_x, .slice b_x m_x d_x] 24)) = w2 at *
    have c := right1_any w2 (g_x := (x).neg) h_xn_2 h_xd_2 h_l_2
    rw [show (⟨(x).neg, (x).num, (x).den⟩ : QV) = x from rfl] at c
    rw [RT.out] at c
    refine c.mono ?_
    rintro e w3 ⟨rfl, hb⟩
    clear c
    have B3 := B2.trans (hb.mono B2.size)
    have h_xn_3 := h_xn_2.below hb
    have h_xd_3 := h_xd_2.below hb
    have h_x_3 := h_x_2.later hb
    clear hb B2 h_xn_2 h_xd_2 h_x_2 h_l_2
    go_wp2_with fail
    have c := wakes_any w3
    refine c.mono ?_
    rintro e w4 ⟨rfl, hb⟩
    clear c
    have B4 := B3.trans (hb.mono B3.size)
    have h_xn_4 := h_xn_3.below hb
    have h_xd_4 := h_xd_3.below hb
    have h_x_4 := h_x_3.later hb
    clear hb B3 h_xn_3 h_xd_3 h_x_3
    go_wp2_with fail
    go_ret
    exact ⟨rfl, B4⟩
  have RT := Lib.hid (show (decide (okV x)) = true from decide_eq_true ok)
  obtain ⟨lo, hi, P, f0, f1, f2, f3, f4⟩ := floor_law ⟨h_xn_0.bd, h_xd_0.bd⟩ ok
  have FN := Lib.hid (whole_law h_n1 l_n)
  have F0 := Lib.hid f0
  have F1 := Lib.hid f1
  have F2 := Lib.hid f2
  clear f0 f1 f2 ok
  by_cases hl : lo < 0
  case pos =>
    have F3 := Lib.hid (f3 (.inl hl))
    have d1 : decide (lo < 0) = true := decide_eq_true hl
    clear f3 f4 hl
    go_enter Tryz.func9, Tryz.ntmps9
    have hb := below_al w (.cells #[.bool (x).neg, .slice a_x n_x c_x, .slice b_x m_x d_x] 24)
    have B1 := B0.trans (hb.mono B0.size)
    have h_xn_1 := h_xn_0.below hb
    have h_xd_1 := h_xd_0.below hb
    clear hb B0 h_xn_0 h_xd_0
    have h_x_1 := Has.new w #[.bool (x).neg, .slice a_x n_x c_x, .slice b_x m_x d_x] 24
    have k_x_0 := h_x_1.cell 0 _ rfl
    have k_x_1 := h_x_1.cell 1 _ rfl
    have k_x_2 := h_x_1.cell 2 _ rfl
    have hb := below_al (w.alloc (.cells #[.bool (x).neg, .slice a_x n_x c_x, .slice b_x m_x d_x] 24)) (.cells #[.bool (x).neg, .slice a_x n_x c_x, .slice b_x m_x d_x] 24)
    have B2 := B1.trans (hb.mono B1.size)
    have h_xn_2 := h_xn_1.below hb
    have h_xd_2 := h_xd_1.below hb
    have h_x_2 := h_x_1.later hb
    clear hb B1 h_xn_1 h_xd_1 h_x_1
    have h_l_2 := Has.new (w.alloc (.cells #[.bool (x).neg, .slice a_x n_x c_x, .slice b_x m_x d_x] 24)) #[.bool (x).neg, .slice a_x n_x c_x, .slice b_x m_x d_x] 24
    simp only [World.size_alloc] at h_l_2
    go_wp2_with fail
    clear k_x_0 k_x_1 k_x_2
    generalize ((w.alloc (.cells #[.bool (x).neg, .slice a_x n_x c_x, .slice b_x m_x d_x] 24)).alloc (.cells #[.bool (x).neg, .slice a_x n_x c_x, .slice b_x m_x d_x] 24)) = w2 at *
    have c := right1_any w2 (g_x := (x).neg) h_xn_2 h_xd_2 h_l_2
    rw [show (⟨(x).neg, (x).num, (x).den⟩ : QV) = x from rfl] at c
    rw [RT.out] at c
    refine c.mono ?_
    rintro e w3 ⟨rfl, hb⟩
    clear c
    have B3 := B2.trans (hb.mono B2.size)
    have h_xn_3 := h_xn_2.below hb
    have h_xd_3 := h_xd_2.below hb
    have h_x_3 := h_x_2.later hb
    clear hb B2 h_xn_2 h_xd_2 h_x_2 h_l_2
    go_wp2_with fail
    have c := whole_any w3 n h_n1 l_n
    refine c.mono ?_
    rintro e w4 ⟨a_o, n_o, c_o, b_o, m_o, d_o, rfl, h_on_4, h_od_4, hb⟩
    clear c
    have B4 := B3.trans (hb.mono B3.size)
    have h_xn_4 := h_xn_3.below hb
    have h_xd_4 := h_xd_3.below hb
    have h_x_4 := h_x_3.later hb
    clear hb B3 h_xn_3 h_xd_3 h_x_3
    go_wp2_with fail
    have c := ratFloor_any w4 (g := ((ofC n 1).1).neg) h_on_4 h_od_4
    rw [show (⟨((ofC n 1).1).neg, ((ofC n 1).1).num, ((ofC n 1).1).den⟩ : QV) = (ofC n 1).1 from rfl] at c
    rw [FN.out] at c
    refine c.mono ?_
    rintro e w5 ⟨rfl, hb⟩
    clear c
    have B5 := B4.trans (hb.mono B4.size)
    have h_xn_5 := h_xn_4.below hb
    have h_xd_5 := h_xd_4.below hb
    have h_x_5 := h_x_4.later hb
    clear hb B4 h_xn_4 h_xd_4 h_x_4 h_on_4 h_od_4
    go_wp2_with fail
    have hb := (Below.refl w5.heap.size w5).drew
    have B6 := B5.trans (hb.mono B5.size)
    have h_xn_6 := h_xn_5.below hb
    have h_xd_6 := h_xd_5.below hb
    have h_x_6 := h_x_5.later hb
    clear hb B5 h_xn_5 h_xd_5 h_x_5
    refine wp_region_held_drew (S := (fun w' => w'.cell? ⟨w.heap.size, 0, none⟩ = some (.bool (x).neg) ∧ w'.cell? ⟨w.heap.size, 1, none⟩ = some (.slice a_x n_x c_x) ∧ w'.cell? ⟨w.heap.size, 2, none⟩ = some (.slice b_x m_x d_x) ∧ True)) (by kernel_rfl) ?_ (fun hHeld => ?_)
    · exact ⟨h_x_6.cell 0 _ rfl, h_x_6.cell 1 _ rfl, h_x_6.cell 2 _ rfl, trivial⟩
    generalize w5.drew = w6 at *
    refine wpAnyH_take (i := 0) (oi := ?oir45_0) (v := ?vr45_0) ?hir45_0 (by kernel_rfl) (by kernel_rfl) (by kernel_rfl) ?hqr45_0 ?hyr45_0 (by assumption) ?restr45_0
    case hir45_0 => simp only [List.getElem?_toArray, List.getElem?_cons_succ, List.getElem?_cons_zero]; rfl
    case hqr45_0 => exact fun _ _ _ h => h
    case hyr45_0 => (refine Or.inl ⟨by rfl, ?_⟩; intro w hSw; (try dsimp only at hSw); go_simp; all_goals with_reducible rfl)
    try simp only [Act.put, List.setIfInBounds_toArray, List.set_cons_zero, List.set_cons_succ]
    refine wpAnyH_ready (rs := [1]) (by kernel_rfl) (by simp) ?_
    refine AllReadyH.cons (o := ?or46_1) ?hor46_1 (fun K hK => ?kr46_1) AllReadyH.nil
    case hor46_1 => simp only [List.getElem?_toArray, List.getElem?_cons_succ, List.getElem?_cons_zero]; rfl
    go_simp
    have c := whole_any w6 (-9223372036854775808) (by decide) (by decide)
    refine c.mono ?_
    rintro e w7 ⟨a_o, n_o, c_o, b_o, m_o, d_o, rfl, h_on_7, h_od_7, hb⟩
    clear c
    have B7 := B6.trans (hb.mono B6.size)
    have h_xn_7 := h_xn_6.below hb
    have h_xd_7 := h_xd_6.below hb
    have h_x_7 := h_x_6.later hb
    clear hb B6 h_xn_6 h_xd_6 h_x_6
    go_wp2_with fail
    clear hHeld
    refine hK.out _ _ ?_ (fun hHeld => ?_)
    · exact ⟨h_x_7.cell 0 _ rfl, h_x_7.cell 1 _ rfl, h_x_7.cell 2 _ rfl, trivial⟩
    clear hK K
    try simp only [Act.put, List.setIfInBounds_toArray, List.set_cons_zero, List.set_cons_succ]
    refine wpAnyH_ready (rs := [2]) (by kernel_rfl) (by simp) ?_
    refine AllReadyH.cons (o := ?or47_2) ?hor47_2 (fun K hK => ?kr47_2) AllReadyH.nil
    case hor47_2 => simp only [List.getElem?_toArray, List.getElem?_cons_succ, List.getElem?_cons_zero]; rfl
    go_simp
    have c := ratCmp_any w7 (g1 := (x).neg) (g2 := ((ofC (-9223372036854775808) 1).1).neg) h_xn_7 h_xd_7 h_on_7 h_od_7
    rw [show (⟨(x).neg, (x).num, (x).den⟩ : QV) = x from rfl] at c
    rw [show (⟨((ofC (-9223372036854775808) 1).1).neg, ((ofC (-9223372036854775808) 1).1).num, ((ofC (-9223372036854775808) 1).1).den⟩ : QV) = (ofC (-9223372036854775808) 1).1 from rfl] at c
    rw [F0.out] at c
    refine c.mono ?_
    rintro e w8 ⟨rfl, hb⟩
    clear c
    have B8 := B7.trans (hb.mono B7.size)
    have h_xn_8 := h_xn_7.below hb
    have h_xd_8 := h_xd_7.below hb
    have h_x_8 := h_x_7.later hb
    clear hb B7 h_xn_7 h_xd_7 h_x_7 h_on_7 h_od_7
    go_wp2_with fail
    clear hHeld
    refine hK.out _ _ ?_ (fun hHeld => ?_)
    · exact ⟨h_x_8.cell 0 _ rfl, h_x_8.cell 1 _ rfl, h_x_8.cell 2 _ rfl, trivial⟩
    clear hK K
    try simp only [Act.put, List.setIfInBounds_toArray, List.set_cons_zero, List.set_cons_succ]
    refine wpAnyH_take (i := 3) (oi := ?oir48_3) (v := ?vr48_3) ?hir48_3 (by kernel_rfl) (by kernel_rfl) (by kernel_rfl) ?hqr48_3 ?hyr48_3 (by assumption) ?restr48_3
    case hir48_3 => simp only [List.getElem?_toArray, List.getElem?_cons_succ, List.getElem?_cons_zero]; rfl
    case hqr48_3 => exact fun _ _ _ h => h
    case hyr48_3 => (refine Or.inl ⟨by rfl, ?_⟩; intro w hSw; (try dsimp only at hSw); go_simp; all_goals with_reducible rfl)
    try simp only [Act.put, List.setIfInBounds_toArray, List.set_cons_zero, List.set_cons_succ]
    refine wpAnyH_take (i := 4) (oi := ?oir48_4) (v := ?vr48_4) ?hir48_4 (by kernel_rfl) (by kernel_rfl) (by kernel_rfl) ?hqr48_4 ?hyr48_4 (by assumption) ?restr48_4
    case hir48_4 => simp only [List.getElem?_toArray, List.getElem?_cons_succ, List.getElem?_cons_zero]; rfl
    case hqr48_4 => exact fun _ _ _ h => h
    case hyr48_4 => (refine Or.inl ⟨by rfl, ?_⟩; intro w hSw; (try dsimp only at hSw); go_simp; all_goals with_reducible rfl)
    try simp only [Act.put, List.setIfInBounds_toArray, List.set_cons_zero, List.set_cons_succ]
    refine wpAnyH_take (i := 5) (oi := ?oir48_5) (v := ?vr48_5) ?hir48_5 (by kernel_rfl) (by kernel_rfl) (by kernel_rfl) ?hqr48_5 ?hyr48_5 (by assumption) ?restr48_5
    case hir48_5 => simp only [List.getElem?_toArray, List.getElem?_cons_succ, List.getElem?_cons_zero]; rfl
    case hqr48_5 => exact fun _ _ _ h => h
    case hyr48_5 => (refine Or.inl ⟨by rfl, ?_⟩; intro w hSw; (try dsimp only at hSw); go_simp; all_goals with_reducible rfl)
    try simp only [Act.put, List.setIfInBounds_toArray, List.set_cons_zero, List.set_cons_succ]
    refine wpAnyH_take (i := 6) (oi := ?oir48_6) (v := ?vr48_6) ?hir48_6 (by kernel_rfl) (by kernel_rfl) (by kernel_rfl) ?hqr48_6 ?hyr48_6 (by assumption) ?restr48_6
    case hir48_6 => simp only [List.getElem?_toArray, List.getElem?_cons_succ, List.getElem?_cons_zero]; rfl
    case hqr48_6 => exact fun _ _ _ h => h
    case hyr48_6 => (refine Or.inl ⟨by rfl, ?_⟩; intro w hSw; (try dsimp only at hSw); go_simp; all_goals with_reducible rfl)
    try simp only [Act.put, List.setIfInBounds_toArray, List.set_cons_zero, List.set_cons_succ]
    refine wpAnyH_take (i := 7) (oi := ?oir48_7) (v := ?vr48_7) ?hir48_7 (by kernel_rfl) (by kernel_rfl) (by kernel_rfl) ?hqr48_7 ?hyr48_7 (by assumption) ?restr48_7
    case hir48_7 => simp only [List.getElem?_toArray, List.getElem?_cons_succ, List.getElem?_cons_zero]; rfl
    case hqr48_7 => exact fun _ _ _ h => h
    case hyr48_7 => (refine Or.inl ⟨by rfl, ?_⟩; intro w hSw; (try dsimp only at hSw); go_simp; all_goals with_reducible rfl)
    try simp only [Act.put, List.setIfInBounds_toArray, List.set_cons_zero, List.set_cons_succ]
    refine wpAnyH_done (by kernel_rfl) ?_ _
    clear hHeld
    go_wp2_with fail
    have c := whole_any w8 9223372036854775807 (by decide) (by decide)
    refine c.mono ?_
    rintro e w9 ⟨a_o, n_o, c_o, b_o, m_o, d_o, rfl, h_on_9, h_od_9, hb⟩
    clear c
    have B9 := B8.trans (hb.mono B8.size)
    have h_xn_9 := h_xn_8.below hb
    have h_xd_9 := h_xd_8.below hb
    have h_x_9 := h_x_8.later hb
    clear hb B8 h_xn_8 h_xd_8 h_x_8
    go_wp2_with fail
    have c := whole_any w9 1 (by decide) (by decide)
    refine c.mono ?_
    rintro e w10 ⟨a_q, n_q, c_q, b_q, m_q, d_q, rfl, h_qn_10, h_qd_10, hb⟩
    clear c
    have B10 := B9.trans (hb.mono B9.size)
    have h_xn_10 := h_xn_9.below hb
    have h_xd_10 := h_xd_9.below hb
    have h_x_10 := h_x_9.later hb
    have h_on_10 := h_on_9.below hb
    have h_od_10 := h_od_9.below hb
    clear hb B9 h_xn_9 h_xd_9 h_x_9 h_on_9 h_od_9
    go_wp2_with fail
    have c := ratAdd_any w10 (g1 := ((ofC 9223372036854775807 1).1).neg) (g2 := ((ofC 1 1).1).neg) h_on_10 h_od_10 h_qn_10 h_qd_10
    rw [show (⟨((ofC 9223372036854775807 1).1).neg, ((ofC 9223372036854775807 1).1).num, ((ofC 9223372036854775807 1).1).den⟩ : QV) = (ofC 9223372036854775807 1).1 from rfl] at c
    rw [show (⟨((ofC 1 1).1).neg, ((ofC 1 1).1).num, ((ofC 1 1).1).den⟩ : QV) = (ofC 1 1).1 from rfl] at c
    rw [F1.out] at c
    refine c.mono ?_
    rintro e w11 ⟨a_e, n_e, c_e, b_e, m_e, d_e, rfl, h_en_11, h_ed_11, hb⟩
    clear c
    have B11 := B10.trans (hb.mono B10.size)
    have h_xn_11 := h_xn_10.below hb
    have h_xd_11 := h_xd_10.below hb
    have h_x_11 := h_x_10.later hb
    clear hb B10 h_xn_10 h_xd_10 h_x_10 h_on_10 h_od_10 h_qn_10 h_qd_10
    have hb := below_al w11 (.cells #[.bool (P).neg, .slice a_e n_e c_e, .slice b_e m_e d_e] 24)
    have B12 := B11.trans (hb.mono B11.size)
    have h_xn_12 := h_xn_11.below hb
    have h_xd_12 := h_xd_11.below hb
    have h_x_12 := h_x_11.later hb
    have h_en_12 := h_en_11.below hb
    have h_ed_12 := h_ed_11.below hb
    clear hb B11 h_xn_11 h_xd_11 h_x_11 h_en_11 h_ed_11
    have h_e_12 := Has.new w11 #[.bool (P).neg, .slice a_e n_e c_e, .slice b_e m_e d_e] 24
    have k_x_0 := h_x_12.cell 0 _ rfl
    have k_x_1 := h_x_12.cell 1 _ rfl
    have k_x_2 := h_x_12.cell 2 _ rfl
    have k_e_0 := h_e_12.cell 0 _ rfl
    have k_e_1 := h_e_12.cell 1 _ rfl
    have k_e_2 := h_e_12.cell 2 _ rfl
    go_wp2_with first | refine wpList_store_new rfl 24 _ _ rfl atRat _ _ _ rfl rfl rfl rfl (rat_one _ _ _ _ _ _ _) ?_
    clear k_x_0 k_x_1 k_x_2 k_e_0 k_e_1 k_e_2
    generalize (w11.alloc (.cells #[.bool (P).neg, .slice a_e n_e c_e, .slice b_e m_e d_e] 24)) = w12 at *
    have c := ratCmp_any w12 (g1 := (x).neg) (g2 := (P).neg) h_xn_12 h_xd_12 h_en_12 h_ed_12
    rw [show (⟨(x).neg, (x).num, (x).den⟩ : QV) = x from rfl] at c
    rw [show (⟨(P).neg, (P).num, (P).den⟩ : QV) = P from rfl] at c
    rw [F2.out] at c
    refine c.mono ?_
    rintro e w13 ⟨rfl, hb⟩
    clear c
    have B13 := B12.trans (hb.mono B12.size)
    have h_xn_13 := h_xn_12.below hb
    have h_xd_13 := h_xd_12.below hb
    have h_x_13 := h_x_12.later hb
    have h_en_13 := h_en_12.below hb
    have h_ed_13 := h_ed_12.below hb
    have h_e_13 := h_e_12.later hb
    clear hb B12 h_xn_12 h_xd_12 h_x_12 h_en_12 h_ed_12 h_e_12
    have k_x_0 := h_x_13.cell 0 _ rfl
    have k_x_1 := h_x_13.cell 1 _ rfl
    have k_x_2 := h_x_13.cell 2 _ rfl
    go_wp2_with fail
    clear k_x_0 k_x_1 k_x_2
    have c := ratFloor_any w13 (g := (x).neg) h_xn_13 h_xd_13
    rw [show (⟨(x).neg, (x).num, (x).den⟩ : QV) = x from rfl] at c
    rw [F3.out] at c
    refine c.mono ?_
    rintro e w14 ⟨rfl, hb⟩
    clear c
    have B14 := B13.trans (hb.mono B13.size)
    have h_xn_14 := h_xn_13.below hb
    have h_xd_14 := h_xd_13.below hb
    have h_x_14 := h_x_13.later hb
    have h_en_14 := h_en_13.below hb
    have h_ed_14 := h_ed_13.below hb
    have h_e_14 := h_e_13.later hb
    clear hb B13 h_xn_13 h_xd_13 h_x_13 h_en_13 h_ed_13 h_e_13
    go_wp2_with fail
    have c := wakes_any w14
    refine c.mono ?_
    rintro e w15 ⟨rfl, hb⟩
    clear c
    have B15 := B14.trans (hb.mono B14.size)
    have h_xn_15 := h_xn_14.below hb
    have h_xd_15 := h_xd_14.below hb
    have h_x_15 := h_x_14.later hb
    have h_en_15 := h_en_14.below hb
    have h_ed_15 := h_ed_14.below hb
    have h_e_15 := h_e_14.later hb
    clear hb B14 h_xn_14 h_xd_14 h_x_14 h_en_14 h_ed_14 h_e_14
    go_wp2_with fail
    go_ret
    exact ⟨rfl, B15⟩
  have d1 : decide (lo < 0) = false := decide_eq_false hl
  have hl1 := hl
  clear hl
  by_cases hl : 0 ≤ hi
  case pos =>
    have F3 := Lib.hid (f3 (.inr hl))
    have d2 : decide (0 ≤ hi) = true := decide_eq_true hl
    clear f3 f4 hl
    go_enter Tryz.func9, Tryz.ntmps9
    have hb := below_al w (.cells #[.bool (x).neg, .slice a_x n_x c_x, .slice b_x m_x d_x] 24)
    have B1 := B0.trans (hb.mono B0.size)
    have h_xn_1 := h_xn_0.below hb
    have h_xd_1 := h_xd_0.below hb
    clear hb B0 h_xn_0 h_xd_0
    have h_x_1 := Has.new w #[.bool (x).neg, .slice a_x n_x c_x, .slice b_x m_x d_x] 24
    have k_x_0 := h_x_1.cell 0 _ rfl
    have k_x_1 := h_x_1.cell 1 _ rfl
    have k_x_2 := h_x_1.cell 2 _ rfl
    have hb := below_al (w.alloc (.cells #[.bool (x).neg, .slice a_x n_x c_x, .slice b_x m_x d_x] 24)) (.cells #[.bool (x).neg, .slice a_x n_x c_x, .slice b_x m_x d_x] 24)
    have B2 := B1.trans (hb.mono B1.size)
    have h_xn_2 := h_xn_1.below hb
    have h_xd_2 := h_xd_1.below hb
    have h_x_2 := h_x_1.later hb
    clear hb B1 h_xn_1 h_xd_1 h_x_1
    have h_l_2 := Has.new (w.alloc (.cells #[.bool (x).neg, .slice a_x n_x c_x, .slice b_x m_x d_x] 24)) #[.bool (x).neg, .slice a_x n_x c_x, .slice b_x m_x d_x] 24
    simp only [World.size_alloc] at h_l_2
    go_wp2_with fail
    clear k_x_0 k_x_1 k_x_2
    generalize ((w.alloc (.cells #[.bool (x).neg, .slice a_x n_x c_x, .slice b_x m_x d_x] 24)).alloc (.cells #[.bool (x).neg, .slice a_x n_x c_x, .slice b_x m_x d_x] 24)) = w2 at *
    have c := right1_any w2 (g_x := (x).neg) h_xn_2 h_xd_2 h_l_2
    rw [show (⟨(x).neg, (x).num, (x).den⟩ : QV) = x from rfl] at c
    rw [RT.out] at c
    refine c.mono ?_
    rintro e w3 ⟨rfl, hb⟩
    clear c
    have B3 := B2.trans (hb.mono B2.size)
    have h_xn_3 := h_xn_2.below hb
    have h_xd_3 := h_xd_2.below hb
    have h_x_3 := h_x_2.later hb
    clear hb B2 h_xn_2 h_xd_2 h_x_2 h_l_2
    go_wp2_with fail
    have c := whole_any w3 n h_n1 l_n
    refine c.mono ?_
    rintro e w4 ⟨a_o, n_o, c_o, b_o, m_o, d_o, rfl, h_on_4, h_od_4, hb⟩
    clear c
    have B4 := B3.trans (hb.mono B3.size)
    have h_xn_4 := h_xn_3.below hb
    have h_xd_4 := h_xd_3.below hb
    have h_x_4 := h_x_3.later hb
    clear hb B3 h_xn_3 h_xd_3 h_x_3
    go_wp2_with fail
    have c := ratFloor_any w4 (g := ((ofC n 1).1).neg) h_on_4 h_od_4
    rw [show (⟨((ofC n 1).1).neg, ((ofC n 1).1).num, ((ofC n 1).1).den⟩ : QV) = (ofC n 1).1 from rfl] at c
    rw [FN.out] at c
    refine c.mono ?_
    rintro e w5 ⟨rfl, hb⟩
    clear c
    have B5 := B4.trans (hb.mono B4.size)
    have h_xn_5 := h_xn_4.below hb
    have h_xd_5 := h_xd_4.below hb
    have h_x_5 := h_x_4.later hb
    clear hb B4 h_xn_4 h_xd_4 h_x_4 h_on_4 h_od_4
    go_wp2_with fail
    have hb := (Below.refl w5.heap.size w5).drew
    have B6 := B5.trans (hb.mono B5.size)
    have h_xn_6 := h_xn_5.below hb
    have h_xd_6 := h_xd_5.below hb
    have h_x_6 := h_x_5.later hb
    clear hb B5 h_xn_5 h_xd_5 h_x_5
    refine wp_region_held_drew (S := (fun w' => w'.cell? ⟨w.heap.size, 0, none⟩ = some (.bool (x).neg) ∧ w'.cell? ⟨w.heap.size, 1, none⟩ = some (.slice a_x n_x c_x) ∧ w'.cell? ⟨w.heap.size, 2, none⟩ = some (.slice b_x m_x d_x) ∧ True)) (by kernel_rfl) ?_ (fun hHeld => ?_)
    · exact ⟨h_x_6.cell 0 _ rfl, h_x_6.cell 1 _ rfl, h_x_6.cell 2 _ rfl, trivial⟩
    generalize w5.drew = w6 at *
    refine wpAnyH_take (i := 0) (oi := ?oir49_0) (v := ?vr49_0) ?hir49_0 (by kernel_rfl) (by kernel_rfl) (by kernel_rfl) ?hqr49_0 ?hyr49_0 (by assumption) ?restr49_0
    case hir49_0 => simp only [List.getElem?_toArray, List.getElem?_cons_succ, List.getElem?_cons_zero]; rfl
    case hqr49_0 => exact fun _ _ _ h => h
    case hyr49_0 => (refine Or.inl ⟨by rfl, ?_⟩; intro w hSw; (try dsimp only at hSw); go_simp; all_goals with_reducible rfl)
    try simp only [Act.put, List.setIfInBounds_toArray, List.set_cons_zero, List.set_cons_succ]
    refine wpAnyH_ready (rs := [1]) (by kernel_rfl) (by simp) ?_
    refine AllReadyH.cons (o := ?or50_1) ?hor50_1 (fun K hK => ?kr50_1) AllReadyH.nil
    case hor50_1 => simp only [List.getElem?_toArray, List.getElem?_cons_succ, List.getElem?_cons_zero]; rfl
    go_simp
    have c := whole_any w6 (-9223372036854775808) (by decide) (by decide)
    refine c.mono ?_
    rintro e w7 ⟨a_o, n_o, c_o, b_o, m_o, d_o, rfl, h_on_7, h_od_7, hb⟩
    clear c
    have B7 := B6.trans (hb.mono B6.size)
    have h_xn_7 := h_xn_6.below hb
    have h_xd_7 := h_xd_6.below hb
    have h_x_7 := h_x_6.later hb
    clear hb B6 h_xn_6 h_xd_6 h_x_6
    go_wp2_with fail
    clear hHeld
    refine hK.out _ _ ?_ (fun hHeld => ?_)
    · exact ⟨h_x_7.cell 0 _ rfl, h_x_7.cell 1 _ rfl, h_x_7.cell 2 _ rfl, trivial⟩
    clear hK K
    try simp only [Act.put, List.setIfInBounds_toArray, List.set_cons_zero, List.set_cons_succ]
    refine wpAnyH_ready (rs := [2]) (by kernel_rfl) (by simp) ?_
    refine AllReadyH.cons (o := ?or51_2) ?hor51_2 (fun K hK => ?kr51_2) AllReadyH.nil
    case hor51_2 => simp only [List.getElem?_toArray, List.getElem?_cons_succ, List.getElem?_cons_zero]; rfl
    go_simp
    have c := ratCmp_any w7 (g1 := (x).neg) (g2 := ((ofC (-9223372036854775808) 1).1).neg) h_xn_7 h_xd_7 h_on_7 h_od_7
    rw [show (⟨(x).neg, (x).num, (x).den⟩ : QV) = x from rfl] at c
    rw [show (⟨((ofC (-9223372036854775808) 1).1).neg, ((ofC (-9223372036854775808) 1).1).num, ((ofC (-9223372036854775808) 1).1).den⟩ : QV) = (ofC (-9223372036854775808) 1).1 from rfl] at c
    rw [F0.out] at c
    refine c.mono ?_
    rintro e w8 ⟨rfl, hb⟩
    clear c
    have B8 := B7.trans (hb.mono B7.size)
    have h_xn_8 := h_xn_7.below hb
    have h_xd_8 := h_xd_7.below hb
    have h_x_8 := h_x_7.later hb
    clear hb B7 h_xn_7 h_xd_7 h_x_7 h_on_7 h_od_7
    go_wp2_with fail
    clear hHeld
    refine hK.out _ _ ?_ (fun hHeld => ?_)
    · exact ⟨h_x_8.cell 0 _ rfl, h_x_8.cell 1 _ rfl, h_x_8.cell 2 _ rfl, trivial⟩
    clear hK K
    try simp only [Act.put, List.setIfInBounds_toArray, List.set_cons_zero, List.set_cons_succ]
    refine wpAnyH_take (i := 3) (oi := ?oir52_3) (v := ?vr52_3) ?hir52_3 (by kernel_rfl) (by kernel_rfl) (by kernel_rfl) ?hqr52_3 ?hyr52_3 (by assumption) ?restr52_3
    case hir52_3 => simp only [List.getElem?_toArray, List.getElem?_cons_succ, List.getElem?_cons_zero]; rfl
    case hqr52_3 => exact fun _ _ _ h => h
    case hyr52_3 => (refine Or.inl ⟨by rfl, ?_⟩; intro w hSw; (try dsimp only at hSw); go_simp; all_goals with_reducible rfl)
    try simp only [Act.put, List.setIfInBounds_toArray, List.set_cons_zero, List.set_cons_succ]
    refine wpAnyH_take (i := 4) (oi := ?oir52_4) (v := ?vr52_4) ?hir52_4 (by kernel_rfl) (by kernel_rfl) (by kernel_rfl) ?hqr52_4 ?hyr52_4 (by assumption) ?restr52_4
    case hir52_4 => simp only [List.getElem?_toArray, List.getElem?_cons_succ, List.getElem?_cons_zero]; rfl
    case hqr52_4 => exact fun _ _ _ h => h
    case hyr52_4 => (refine Or.inl ⟨by rfl, ?_⟩; intro w hSw; (try dsimp only at hSw); go_simp; all_goals with_reducible rfl)
    try simp only [Act.put, List.setIfInBounds_toArray, List.set_cons_zero, List.set_cons_succ]
    refine wpAnyH_take (i := 5) (oi := ?oir52_5) (v := ?vr52_5) ?hir52_5 (by kernel_rfl) (by kernel_rfl) (by kernel_rfl) ?hqr52_5 ?hyr52_5 (by assumption) ?restr52_5
    case hir52_5 => simp only [List.getElem?_toArray, List.getElem?_cons_succ, List.getElem?_cons_zero]; rfl
    case hqr52_5 => exact fun _ _ _ h => h
    case hyr52_5 => (refine Or.inl ⟨by rfl, ?_⟩; intro w hSw; (try dsimp only at hSw); go_simp; all_goals with_reducible rfl)
    try simp only [Act.put, List.setIfInBounds_toArray, List.set_cons_zero, List.set_cons_succ]
    refine wpAnyH_take (i := 6) (oi := ?oir52_6) (v := ?vr52_6) ?hir52_6 (by kernel_rfl) (by kernel_rfl) (by kernel_rfl) ?hqr52_6 ?hyr52_6 (by assumption) ?restr52_6
    case hir52_6 => simp only [List.getElem?_toArray, List.getElem?_cons_succ, List.getElem?_cons_zero]; rfl
    case hqr52_6 => exact fun _ _ _ h => h
    case hyr52_6 => (refine Or.inl ⟨by rfl, ?_⟩; intro w hSw; (try dsimp only at hSw); go_simp; all_goals with_reducible rfl)
    try simp only [Act.put, List.setIfInBounds_toArray, List.set_cons_zero, List.set_cons_succ]
    refine wpAnyH_take (i := 7) (oi := ?oir52_7) (v := ?vr52_7) ?hir52_7 (by kernel_rfl) (by kernel_rfl) (by kernel_rfl) ?hqr52_7 ?hyr52_7 (by assumption) ?restr52_7
    case hir52_7 => simp only [List.getElem?_toArray, List.getElem?_cons_succ, List.getElem?_cons_zero]; rfl
    case hqr52_7 => exact fun _ _ _ h => h
    case hyr52_7 => (refine Or.inl ⟨by rfl, ?_⟩; intro w hSw; (try dsimp only at hSw); go_simp; all_goals with_reducible rfl)
    try simp only [Act.put, List.setIfInBounds_toArray, List.set_cons_zero, List.set_cons_succ]
    refine wpAnyH_done (by kernel_rfl) ?_ _
    clear hHeld
    go_wp2_with fail
    have c := whole_any w8 9223372036854775807 (by decide) (by decide)
    refine c.mono ?_
    rintro e w9 ⟨a_o, n_o, c_o, b_o, m_o, d_o, rfl, h_on_9, h_od_9, hb⟩
    clear c
    have B9 := B8.trans (hb.mono B8.size)
    have h_xn_9 := h_xn_8.below hb
    have h_xd_9 := h_xd_8.below hb
    have h_x_9 := h_x_8.later hb
    clear hb B8 h_xn_8 h_xd_8 h_x_8
    go_wp2_with fail
    have c := whole_any w9 1 (by decide) (by decide)
    refine c.mono ?_
    rintro e w10 ⟨a_q, n_q, c_q, b_q, m_q, d_q, rfl, h_qn_10, h_qd_10, hb⟩
    clear c
    have B10 := B9.trans (hb.mono B9.size)
    have h_xn_10 := h_xn_9.below hb
    have h_xd_10 := h_xd_9.below hb
    have h_x_10 := h_x_9.later hb
    have h_on_10 := h_on_9.below hb
    have h_od_10 := h_od_9.below hb
    clear hb B9 h_xn_9 h_xd_9 h_x_9 h_on_9 h_od_9
    go_wp2_with fail
    have c := ratAdd_any w10 (g1 := ((ofC 9223372036854775807 1).1).neg) (g2 := ((ofC 1 1).1).neg) h_on_10 h_od_10 h_qn_10 h_qd_10
    rw [show (⟨((ofC 9223372036854775807 1).1).neg, ((ofC 9223372036854775807 1).1).num, ((ofC 9223372036854775807 1).1).den⟩ : QV) = (ofC 9223372036854775807 1).1 from rfl] at c
    rw [show (⟨((ofC 1 1).1).neg, ((ofC 1 1).1).num, ((ofC 1 1).1).den⟩ : QV) = (ofC 1 1).1 from rfl] at c
    rw [F1.out] at c
    refine c.mono ?_
    rintro e w11 ⟨a_e, n_e, c_e, b_e, m_e, d_e, rfl, h_en_11, h_ed_11, hb⟩
    clear c
    have B11 := B10.trans (hb.mono B10.size)
    have h_xn_11 := h_xn_10.below hb
    have h_xd_11 := h_xd_10.below hb
    have h_x_11 := h_x_10.later hb
    clear hb B10 h_xn_10 h_xd_10 h_x_10 h_on_10 h_od_10 h_qn_10 h_qd_10
    have hb := below_al w11 (.cells #[.bool (P).neg, .slice a_e n_e c_e, .slice b_e m_e d_e] 24)
    have B12 := B11.trans (hb.mono B11.size)
    have h_xn_12 := h_xn_11.below hb
    have h_xd_12 := h_xd_11.below hb
    have h_x_12 := h_x_11.later hb
    have h_en_12 := h_en_11.below hb
    have h_ed_12 := h_ed_11.below hb
    clear hb B11 h_xn_11 h_xd_11 h_x_11 h_en_11 h_ed_11
    have h_e_12 := Has.new w11 #[.bool (P).neg, .slice a_e n_e c_e, .slice b_e m_e d_e] 24
    have k_x_0 := h_x_12.cell 0 _ rfl
    have k_x_1 := h_x_12.cell 1 _ rfl
    have k_x_2 := h_x_12.cell 2 _ rfl
    have k_e_0 := h_e_12.cell 0 _ rfl
    have k_e_1 := h_e_12.cell 1 _ rfl
    have k_e_2 := h_e_12.cell 2 _ rfl
    go_wp2_with first | refine wpList_store_new rfl 24 _ _ rfl atRat _ _ _ rfl rfl rfl rfl (rat_one _ _ _ _ _ _ _) ?_
    clear k_x_0 k_x_1 k_x_2 k_e_0 k_e_1 k_e_2
    generalize (w11.alloc (.cells #[.bool (P).neg, .slice a_e n_e c_e, .slice b_e m_e d_e] 24)) = w12 at *
    have c := ratCmp_any w12 (g1 := (x).neg) (g2 := (P).neg) h_xn_12 h_xd_12 h_en_12 h_ed_12
    rw [show (⟨(x).neg, (x).num, (x).den⟩ : QV) = x from rfl] at c
    rw [show (⟨(P).neg, (P).num, (P).den⟩ : QV) = P from rfl] at c
    rw [F2.out] at c
    refine c.mono ?_
    rintro e w13 ⟨rfl, hb⟩
    clear c
    have B13 := B12.trans (hb.mono B12.size)
    have h_xn_13 := h_xn_12.below hb
    have h_xd_13 := h_xd_12.below hb
    have h_x_13 := h_x_12.later hb
    have h_en_13 := h_en_12.below hb
    have h_ed_13 := h_ed_12.below hb
    have h_e_13 := h_e_12.later hb
    clear hb B12 h_xn_12 h_xd_12 h_x_12 h_en_12 h_ed_12 h_e_12
    have k_x_0 := h_x_13.cell 0 _ rfl
    have k_x_1 := h_x_13.cell 1 _ rfl
    have k_x_2 := h_x_13.cell 2 _ rfl
    go_wp2_with fail
    clear k_x_0 k_x_1 k_x_2
    have c := ratFloor_any w13 (g := (x).neg) h_xn_13 h_xd_13
    rw [show (⟨(x).neg, (x).num, (x).den⟩ : QV) = x from rfl] at c
    rw [F3.out] at c
    refine c.mono ?_
    rintro e w14 ⟨rfl, hb⟩
    clear c
    have B14 := B13.trans (hb.mono B13.size)
    have h_xn_14 := h_xn_13.below hb
    have h_xd_14 := h_xd_13.below hb
    have h_x_14 := h_x_13.later hb
    have h_en_14 := h_en_13.below hb
    have h_ed_14 := h_ed_13.below hb
    have h_e_14 := h_e_13.later hb
    clear hb B13 h_xn_13 h_xd_13 h_x_13 h_en_13 h_ed_13 h_e_13
    go_wp2_with fail
    have c := wakes_any w14
    refine c.mono ?_
    rintro e w15 ⟨rfl, hb⟩
    clear c
    have B15 := B14.trans (hb.mono B14.size)
    have h_xn_15 := h_xn_14.below hb
    have h_xd_15 := h_xd_14.below hb
    have h_x_15 := h_x_14.later hb
    have h_en_15 := h_en_14.below hb
    have h_ed_15 := h_ed_14.below hb
    have h_e_15 := h_e_14.later hb
    clear hb B14 h_xn_14 h_xd_14 h_x_14 h_en_14 h_ed_14 h_e_14
    go_wp2_with fail
    go_ret
    exact ⟨rfl, B15⟩
  have d2 : decide (0 ≤ hi) = false := decide_eq_false hl
  obtain ⟨k, a, b, N, g0, k1, k2, g1, g2, g3, ha, hb⟩ := f4 (fun h => h.elim hl1 hl)
  have d3 : decide (a ≤ 0) = true := decide_eq_true ha
  have d4 : decide (0 < b) = true := decide_eq_true hb
  clear f3 f4 hl hl1 ha hb
  have G0 := Lib.hid g0
  have G1 := Lib.hid g1
  have G2 := Lib.hid g2
  have G3 := Lib.hid g3
  clear g0 g1 g2 g3
  go_enter Tryz.func9, Tryz.ntmps9
  have hb := below_al w (.cells #[.bool (x).neg, .slice a_x n_x c_x, .slice b_x m_x d_x] 24)
  have B1 := B0.trans (hb.mono B0.size)
  have h_xn_1 := h_xn_0.below hb
  have h_xd_1 := h_xd_0.below hb
  clear hb B0 h_xn_0 h_xd_0
  have h_x_1 := Has.new w #[.bool (x).neg, .slice a_x n_x c_x, .slice b_x m_x d_x] 24
  have k_x_0 := h_x_1.cell 0 _ rfl
  have k_x_1 := h_x_1.cell 1 _ rfl
  have k_x_2 := h_x_1.cell 2 _ rfl
  have hb := below_al (w.alloc (.cells #[.bool (x).neg, .slice a_x n_x c_x, .slice b_x m_x d_x] 24)) (.cells #[.bool (x).neg, .slice a_x n_x c_x, .slice b_x m_x d_x] 24)
  have B2 := B1.trans (hb.mono B1.size)
  have h_xn_2 := h_xn_1.below hb
  have h_xd_2 := h_xd_1.below hb
  have h_x_2 := h_x_1.later hb
  clear hb B1 h_xn_1 h_xd_1 h_x_1
  have h_l_2 := Has.new (w.alloc (.cells #[.bool (x).neg, .slice a_x n_x c_x, .slice b_x m_x d_x] 24)) #[.bool (x).neg, .slice a_x n_x c_x, .slice b_x m_x d_x] 24
  simp only [World.size_alloc] at h_l_2
  go_wp2_with fail
  clear k_x_0 k_x_1 k_x_2
  generalize ((w.alloc (.cells #[.bool (x).neg, .slice a_x n_x c_x, .slice b_x m_x d_x] 24)).alloc (.cells #[.bool (x).neg, .slice a_x n_x c_x, .slice b_x m_x d_x] 24)) = w2 at *
  have c := right1_any w2 (g_x := (x).neg) h_xn_2 h_xd_2 h_l_2
  rw [show (⟨(x).neg, (x).num, (x).den⟩ : QV) = x from rfl] at c
  rw [RT.out] at c
  refine c.mono ?_
  rintro e w3 ⟨rfl, hb⟩
  clear c
  have B3 := B2.trans (hb.mono B2.size)
  have h_xn_3 := h_xn_2.below hb
  have h_xd_3 := h_xd_2.below hb
  have h_x_3 := h_x_2.later hb
  clear hb B2 h_xn_2 h_xd_2 h_x_2 h_l_2
  go_wp2_with fail
  have c := whole_any w3 n h_n1 l_n
  refine c.mono ?_
  rintro e w4 ⟨a_o, n_o, c_o, b_o, m_o, d_o, rfl, h_on_4, h_od_4, hb⟩
  clear c
  have B4 := B3.trans (hb.mono B3.size)
  have h_xn_4 := h_xn_3.below hb
  have h_xd_4 := h_xd_3.below hb
  have h_x_4 := h_x_3.later hb
  clear hb B3 h_xn_3 h_xd_3 h_x_3
  go_wp2_with fail
  have c := ratFloor_any w4 (g := ((ofC n 1).1).neg) h_on_4 h_od_4
  rw [show (⟨((ofC n 1).1).neg, ((ofC n 1).1).num, ((ofC n 1).1).den⟩ : QV) = (ofC n 1).1 from rfl] at c
  rw [FN.out] at c
  refine c.mono ?_
  rintro e w5 ⟨rfl, hb⟩
  clear c
  have B5 := B4.trans (hb.mono B4.size)
  have h_xn_5 := h_xn_4.below hb
  have h_xd_5 := h_xd_4.below hb
  have h_x_5 := h_x_4.later hb
  clear hb B4 h_xn_4 h_xd_4 h_x_4 h_on_4 h_od_4
  go_wp2_with fail
  have hb := (Below.refl w5.heap.size w5).drew
  have B6 := B5.trans (hb.mono B5.size)
  have h_xn_6 := h_xn_5.below hb
  have h_xd_6 := h_xd_5.below hb
  have h_x_6 := h_x_5.later hb
  clear hb B5 h_xn_5 h_xd_5 h_x_5
  refine wp_region_held_drew (S := (fun w' => w'.cell? ⟨w.heap.size, 0, none⟩ = some (.bool (x).neg) ∧ w'.cell? ⟨w.heap.size, 1, none⟩ = some (.slice a_x n_x c_x) ∧ w'.cell? ⟨w.heap.size, 2, none⟩ = some (.slice b_x m_x d_x) ∧ True)) (by kernel_rfl) ?_ (fun hHeld => ?_)
  · exact ⟨h_x_6.cell 0 _ rfl, h_x_6.cell 1 _ rfl, h_x_6.cell 2 _ rfl, trivial⟩
  generalize w5.drew = w6 at *
  refine wpAnyH_take (i := 0) (oi := ?oir53_0) (v := ?vr53_0) ?hir53_0 (by kernel_rfl) (by kernel_rfl) (by kernel_rfl) ?hqr53_0 ?hyr53_0 (by assumption) ?restr53_0
  case hir53_0 => simp only [List.getElem?_toArray, List.getElem?_cons_succ, List.getElem?_cons_zero]; rfl
  case hqr53_0 => exact fun _ _ _ h => h
  case hyr53_0 => (refine Or.inl ⟨by rfl, ?_⟩; intro w hSw; (try dsimp only at hSw); go_simp; all_goals with_reducible rfl)
  try simp only [Act.put, List.setIfInBounds_toArray, List.set_cons_zero, List.set_cons_succ]
  refine wpAnyH_ready (rs := [1]) (by kernel_rfl) (by simp) ?_
  refine AllReadyH.cons (o := ?or54_1) ?hor54_1 (fun K hK => ?kr54_1) AllReadyH.nil
  case hor54_1 => simp only [List.getElem?_toArray, List.getElem?_cons_succ, List.getElem?_cons_zero]; rfl
  go_simp
  have c := whole_any w6 (-9223372036854775808) (by decide) (by decide)
  refine c.mono ?_
  rintro e w7 ⟨a_o, n_o, c_o, b_o, m_o, d_o, rfl, h_on_7, h_od_7, hb⟩
  clear c
  have B7 := B6.trans (hb.mono B6.size)
  have h_xn_7 := h_xn_6.below hb
  have h_xd_7 := h_xd_6.below hb
  have h_x_7 := h_x_6.later hb
  clear hb B6 h_xn_6 h_xd_6 h_x_6
  go_wp2_with fail
  clear hHeld
  refine hK.out _ _ ?_ (fun hHeld => ?_)
  · exact ⟨h_x_7.cell 0 _ rfl, h_x_7.cell 1 _ rfl, h_x_7.cell 2 _ rfl, trivial⟩
  clear hK K
  try simp only [Act.put, List.setIfInBounds_toArray, List.set_cons_zero, List.set_cons_succ]
  refine wpAnyH_ready (rs := [2]) (by kernel_rfl) (by simp) ?_
  refine AllReadyH.cons (o := ?or55_2) ?hor55_2 (fun K hK => ?kr55_2) AllReadyH.nil
  case hor55_2 => simp only [List.getElem?_toArray, List.getElem?_cons_succ, List.getElem?_cons_zero]; rfl
  go_simp
  have c := ratCmp_any w7 (g1 := (x).neg) (g2 := ((ofC (-9223372036854775808) 1).1).neg) h_xn_7 h_xd_7 h_on_7 h_od_7
  rw [show (⟨(x).neg, (x).num, (x).den⟩ : QV) = x from rfl] at c
  rw [show (⟨((ofC (-9223372036854775808) 1).1).neg, ((ofC (-9223372036854775808) 1).1).num, ((ofC (-9223372036854775808) 1).1).den⟩ : QV) = (ofC (-9223372036854775808) 1).1 from rfl] at c
  rw [F0.out] at c
  refine c.mono ?_
  rintro e w8 ⟨rfl, hb⟩
  clear c
  have B8 := B7.trans (hb.mono B7.size)
  have h_xn_8 := h_xn_7.below hb
  have h_xd_8 := h_xd_7.below hb
  have h_x_8 := h_x_7.later hb
  clear hb B7 h_xn_7 h_xd_7 h_x_7 h_on_7 h_od_7
  go_wp2_with fail
  clear hHeld
  refine hK.out _ _ ?_ (fun hHeld => ?_)
  · exact ⟨h_x_8.cell 0 _ rfl, h_x_8.cell 1 _ rfl, h_x_8.cell 2 _ rfl, trivial⟩
  clear hK K
  try simp only [Act.put, List.setIfInBounds_toArray, List.set_cons_zero, List.set_cons_succ]
  refine wpAnyH_take (i := 3) (oi := ?oir56_3) (v := ?vr56_3) ?hir56_3 (by kernel_rfl) (by kernel_rfl) (by kernel_rfl) ?hqr56_3 ?hyr56_3 (by assumption) ?restr56_3
  case hir56_3 => simp only [List.getElem?_toArray, List.getElem?_cons_succ, List.getElem?_cons_zero]; rfl
  case hqr56_3 => exact fun _ _ _ h => h
  case hyr56_3 => (refine Or.inl ⟨by rfl, ?_⟩; intro w hSw; (try dsimp only at hSw); go_simp; all_goals with_reducible rfl)
  try simp only [Act.put, List.setIfInBounds_toArray, List.set_cons_zero, List.set_cons_succ]
  refine wpAnyH_take (i := 4) (oi := ?oir56_4) (v := ?vr56_4) ?hir56_4 (by kernel_rfl) (by kernel_rfl) (by kernel_rfl) ?hqr56_4 ?hyr56_4 (by assumption) ?restr56_4
  case hir56_4 => simp only [List.getElem?_toArray, List.getElem?_cons_succ, List.getElem?_cons_zero]; rfl
  case hqr56_4 => exact fun _ _ _ h => h
  case hyr56_4 => (refine Or.inl ⟨by rfl, ?_⟩; intro w hSw; (try dsimp only at hSw); go_simp; all_goals with_reducible rfl)
  try simp only [Act.put, List.setIfInBounds_toArray, List.set_cons_zero, List.set_cons_succ]
  refine wpAnyH_take (i := 5) (oi := ?oir56_5) (v := ?vr56_5) ?hir56_5 (by kernel_rfl) (by kernel_rfl) (by kernel_rfl) ?hqr56_5 ?hyr56_5 (by assumption) ?restr56_5
  case hir56_5 => simp only [List.getElem?_toArray, List.getElem?_cons_succ, List.getElem?_cons_zero]; rfl
  case hqr56_5 => exact fun _ _ _ h => h
  case hyr56_5 => (refine Or.inl ⟨by rfl, ?_⟩; intro w hSw; (try dsimp only at hSw); go_simp; all_goals with_reducible rfl)
  try simp only [Act.put, List.setIfInBounds_toArray, List.set_cons_zero, List.set_cons_succ]
  refine wpAnyH_take (i := 6) (oi := ?oir56_6) (v := ?vr56_6) ?hir56_6 (by kernel_rfl) (by kernel_rfl) (by kernel_rfl) ?hqr56_6 ?hyr56_6 (by assumption) ?restr56_6
  case hir56_6 => simp only [List.getElem?_toArray, List.getElem?_cons_succ, List.getElem?_cons_zero]; rfl
  case hqr56_6 => exact fun _ _ _ h => h
  case hyr56_6 => (refine Or.inl ⟨by rfl, ?_⟩; intro w hSw; (try dsimp only at hSw); go_simp; all_goals with_reducible rfl)
  try simp only [Act.put, List.setIfInBounds_toArray, List.set_cons_zero, List.set_cons_succ]
  refine wpAnyH_take (i := 7) (oi := ?oir56_7) (v := ?vr56_7) ?hir56_7 (by kernel_rfl) (by kernel_rfl) (by kernel_rfl) ?hqr56_7 ?hyr56_7 (by assumption) ?restr56_7
  case hir56_7 => simp only [List.getElem?_toArray, List.getElem?_cons_succ, List.getElem?_cons_zero]; rfl
  case hqr56_7 => exact fun _ _ _ h => h
  case hyr56_7 => (refine Or.inl ⟨by rfl, ?_⟩; intro w hSw; (try dsimp only at hSw); go_simp; all_goals with_reducible rfl)
  try simp only [Act.put, List.setIfInBounds_toArray, List.set_cons_zero, List.set_cons_succ]
  refine wpAnyH_done (by kernel_rfl) ?_ _
  clear hHeld
  go_wp2_with fail
  have c := whole_any w8 9223372036854775807 (by decide) (by decide)
  refine c.mono ?_
  rintro e w9 ⟨a_o, n_o, c_o, b_o, m_o, d_o, rfl, h_on_9, h_od_9, hb⟩
  clear c
  have B9 := B8.trans (hb.mono B8.size)
  have h_xn_9 := h_xn_8.below hb
  have h_xd_9 := h_xd_8.below hb
  have h_x_9 := h_x_8.later hb
  clear hb B8 h_xn_8 h_xd_8 h_x_8
  go_wp2_with fail
  have c := whole_any w9 1 (by decide) (by decide)
  refine c.mono ?_
  rintro e w10 ⟨a_q, n_q, c_q, b_q, m_q, d_q, rfl, h_qn_10, h_qd_10, hb⟩
  clear c
  have B10 := B9.trans (hb.mono B9.size)
  have h_xn_10 := h_xn_9.below hb
  have h_xd_10 := h_xd_9.below hb
  have h_x_10 := h_x_9.later hb
  have h_on_10 := h_on_9.below hb
  have h_od_10 := h_od_9.below hb
  clear hb B9 h_xn_9 h_xd_9 h_x_9 h_on_9 h_od_9
  go_wp2_with fail
  have c := ratAdd_any w10 (g1 := ((ofC 9223372036854775807 1).1).neg) (g2 := ((ofC 1 1).1).neg) h_on_10 h_od_10 h_qn_10 h_qd_10
  rw [show (⟨((ofC 9223372036854775807 1).1).neg, ((ofC 9223372036854775807 1).1).num, ((ofC 9223372036854775807 1).1).den⟩ : QV) = (ofC 9223372036854775807 1).1 from rfl] at c
  rw [show (⟨((ofC 1 1).1).neg, ((ofC 1 1).1).num, ((ofC 1 1).1).den⟩ : QV) = (ofC 1 1).1 from rfl] at c
  rw [F1.out] at c
  refine c.mono ?_
  rintro e w11 ⟨a_e, n_e, c_e, b_e, m_e, d_e, rfl, h_en_11, h_ed_11, hb⟩
  clear c
  have B11 := B10.trans (hb.mono B10.size)
  have h_xn_11 := h_xn_10.below hb
  have h_xd_11 := h_xd_10.below hb
  have h_x_11 := h_x_10.later hb
  clear hb B10 h_xn_10 h_xd_10 h_x_10 h_on_10 h_od_10 h_qn_10 h_qd_10
  have hb := below_al w11 (.cells #[.bool (P).neg, .slice a_e n_e c_e, .slice b_e m_e d_e] 24)
  have B12 := B11.trans (hb.mono B11.size)
  have h_xn_12 := h_xn_11.below hb
  have h_xd_12 := h_xd_11.below hb
  have h_x_12 := h_x_11.later hb
  have h_en_12 := h_en_11.below hb
  have h_ed_12 := h_ed_11.below hb
  clear hb B11 h_xn_11 h_xd_11 h_x_11 h_en_11 h_ed_11
  have h_e_12 := Has.new w11 #[.bool (P).neg, .slice a_e n_e c_e, .slice b_e m_e d_e] 24
  have k_x_0 := h_x_12.cell 0 _ rfl
  have k_x_1 := h_x_12.cell 1 _ rfl
  have k_x_2 := h_x_12.cell 2 _ rfl
  have k_e_0 := h_e_12.cell 0 _ rfl
  have k_e_1 := h_e_12.cell 1 _ rfl
  have k_e_2 := h_e_12.cell 2 _ rfl
  go_wp2_with first | refine wpList_store_new rfl 24 _ _ rfl atRat _ _ _ rfl rfl rfl rfl (rat_one _ _ _ _ _ _ _) ?_
  clear k_x_0 k_x_1 k_x_2 k_e_0 k_e_1 k_e_2
  generalize (w11.alloc (.cells #[.bool (P).neg, .slice a_e n_e c_e, .slice b_e m_e d_e] 24)) = w12 at *
  have c := ratCmp_any w12 (g1 := (x).neg) (g2 := (P).neg) h_xn_12 h_xd_12 h_en_12 h_ed_12
  rw [show (⟨(x).neg, (x).num, (x).den⟩ : QV) = x from rfl] at c
  rw [show (⟨(P).neg, (P).num, (P).den⟩ : QV) = P from rfl] at c
  rw [F2.out] at c
  refine c.mono ?_
  rintro e w13 ⟨rfl, hb⟩
  clear c
  have B13 := B12.trans (hb.mono B12.size)
  have h_xn_13 := h_xn_12.below hb
  have h_xd_13 := h_xd_12.below hb
  have h_x_13 := h_x_12.later hb
  have h_en_13 := h_en_12.below hb
  have h_ed_13 := h_ed_12.below hb
  have h_e_13 := h_e_12.later hb
  clear hb B12 h_xn_12 h_xd_12 h_x_12 h_en_12 h_ed_12 h_e_12
  have k_x_0 := h_x_13.cell 0 _ rfl
  have k_x_1 := h_x_13.cell 1 _ rfl
  have k_x_2 := h_x_13.cell 2 _ rfl
  go_wp2_with fail
  clear k_x_0 k_x_1 k_x_2
  have c := ratFloor_any w13 (g := (x).neg) h_xn_13 h_xd_13
  rw [show (⟨(x).neg, (x).num, (x).den⟩ : QV) = x from rfl] at c
  rw [G0.out] at c
  refine c.mono ?_
  rintro e w14 ⟨rfl, hb⟩
  clear c
  have B14 := B13.trans (hb.mono B13.size)
  have h_xn_14 := h_xn_13.below hb
  have h_xd_14 := h_xd_13.below hb
  have h_x_14 := h_x_13.later hb
  have h_en_14 := h_en_13.below hb
  have h_ed_14 := h_ed_13.below hb
  have h_e_14 := h_e_13.later hb
  clear hb B13 h_xn_13 h_xd_13 h_x_13 h_en_13 h_ed_13 h_e_13
  go_wp2_with fail
  have hb := (Below.refl w14.heap.size w14).drew
  have B15 := B14.trans (hb.mono B14.size)
  have h_xn_15 := h_xn_14.below hb
  have h_xd_15 := h_xd_14.below hb
  have h_x_15 := h_x_14.later hb
  have h_en_15 := h_en_14.below hb
  have h_ed_15 := h_ed_14.below hb
  have h_e_15 := h_e_14.later hb
  clear hb B14 h_xn_14 h_xd_14 h_x_14 h_en_14 h_ed_14 h_e_14
  refine wp_region_held_drew (S := (fun w' => w'.cell? ⟨w.heap.size, 0, none⟩ = some (.bool (x).neg) ∧ w'.cell? ⟨w.heap.size, 1, none⟩ = some (.slice a_x n_x c_x) ∧ w'.cell? ⟨w.heap.size, 2, none⟩ = some (.slice b_x m_x d_x) ∧ True)) (by kernel_rfl) ?_ (fun hHeld => ?_)
  · exact ⟨h_x_15.cell 0 _ rfl, h_x_15.cell 1 _ rfl, h_x_15.cell 2 _ rfl, trivial⟩
  generalize w14.drew = w15 at *
  refine wpAnyH_take (i := 0) (oi := ?oir57_0) (v := ?vr57_0) ?hir57_0 (by kernel_rfl) (by kernel_rfl) (by kernel_rfl) ?hqr57_0 ?hyr57_0 (by assumption) ?restr57_0
  case hir57_0 => simp only [List.getElem?_toArray, List.getElem?_cons_succ, List.getElem?_cons_zero]; rfl
  case hqr57_0 => exact fun _ _ _ h => h
  case hyr57_0 => (refine Or.inl ⟨by rfl, ?_⟩; intro w hSw; (try dsimp only at hSw); go_simp; all_goals with_reducible rfl)
  try simp only [Act.put, List.setIfInBounds_toArray, List.set_cons_zero, List.set_cons_succ]
  refine wpAnyH_take (i := 2) (oi := ?oir57_2) (v := ?vr57_2) ?hir57_2 (by kernel_rfl) (by kernel_rfl) (by kernel_rfl) ?hqr57_2 ?hyr57_2 (by assumption) ?restr57_2
  case hir57_2 => simp only [List.getElem?_toArray, List.getElem?_cons_succ, List.getElem?_cons_zero]; rfl
  case hqr57_2 => exact fun _ _ _ h => h
  case hyr57_2 => (refine Or.inl ⟨by rfl, ?_⟩; intro w hSw; (try dsimp only at hSw); go_simp; all_goals with_reducible rfl)
  try simp only [Act.put, List.setIfInBounds_toArray, List.set_cons_zero, List.set_cons_succ]
  refine wpAnyH_ready (rs := [1]) (by kernel_rfl) (by simp) ?_
  refine AllReadyH.cons (o := ?or58_1) ?hor58_1 (fun K hK => ?kr58_1) AllReadyH.nil
  case hor58_1 => simp only [List.getElem?_toArray, List.getElem?_cons_succ, List.getElem?_cons_zero]; rfl
  go_simp
  have c := whole_any w15 k k1 k2
  refine c.mono ?_
  rintro e w16 ⟨a_o, n_o, c_o, b_o, m_o, d_o, rfl, h_on_16, h_od_16, hb⟩
  clear c
  have B16 := B15.trans (hb.mono B15.size)
  have h_xn_16 := h_xn_15.below hb
  have h_xd_16 := h_xd_15.below hb
  have h_x_16 := h_x_15.later hb
  have h_en_16 := h_en_15.below hb
  have h_ed_16 := h_ed_15.below hb
  have h_e_16 := h_e_15.later hb
  clear hb B15 h_xn_15 h_xd_15 h_x_15 h_en_15 h_ed_15 h_e_15
  go_wp2_with fail
  clear hHeld
  refine hK.out _ _ ?_ (fun hHeld => ?_)
  · exact ⟨h_x_16.cell 0 _ rfl, h_x_16.cell 1 _ rfl, h_x_16.cell 2 _ rfl, trivial⟩
  clear hK K
  try simp only [Act.put, List.setIfInBounds_toArray, List.set_cons_zero, List.set_cons_succ]
  refine wpAnyH_ready (rs := [3]) (by kernel_rfl) (by simp) ?_
  refine AllReadyH.cons (o := ?or59_3) ?hor59_3 (fun K hK => ?kr59_3) AllReadyH.nil
  case hor59_3 => simp only [List.getElem?_toArray, List.getElem?_cons_succ, List.getElem?_cons_zero]; rfl
  go_simp
  have c := ratCmp_any w16 (g1 := ((ofC k 1).1).neg) (g2 := (x).neg) h_on_16 h_od_16 h_xn_16 h_xd_16
  rw [show (⟨((ofC k 1).1).neg, ((ofC k 1).1).num, ((ofC k 1).1).den⟩ : QV) = (ofC k 1).1 from rfl] at c
  rw [show (⟨(x).neg, (x).num, (x).den⟩ : QV) = x from rfl] at c
  rw [G1.out] at c
  refine c.mono ?_
  rintro e w17 ⟨rfl, hb⟩
  clear c
  have B17 := B16.trans (hb.mono B16.size)
  have h_xn_17 := h_xn_16.below hb
  have h_xd_17 := h_xd_16.below hb
  have h_x_17 := h_x_16.later hb
  have h_en_17 := h_en_16.below hb
  have h_ed_17 := h_ed_16.below hb
  have h_e_17 := h_e_16.later hb
  clear hb B16 h_xn_16 h_xd_16 h_x_16 h_en_16 h_ed_16 h_e_16 h_on_16 h_od_16
  go_wp2_with fail
  clear hHeld
  refine hK.out _ _ ?_ (fun hHeld => ?_)
  · exact ⟨h_x_17.cell 0 _ rfl, h_x_17.cell 1 _ rfl, h_x_17.cell 2 _ rfl, trivial⟩
  clear hK K
  try simp only [Act.put, List.setIfInBounds_toArray, List.set_cons_zero, List.set_cons_succ]
  refine wpAnyH_take (i := 4) (oi := ?oir60_4) (v := ?vr60_4) ?hir60_4 (by kernel_rfl) (by kernel_rfl) (by kernel_rfl) ?hqr60_4 ?hyr60_4 (by assumption) ?restr60_4
  case hir60_4 => simp only [List.getElem?_toArray, List.getElem?_cons_succ, List.getElem?_cons_zero]; rfl
  case hqr60_4 => exact fun _ _ _ h => h
  case hyr60_4 => (refine Or.inl ⟨by rfl, ?_⟩; intro w hSw; (try dsimp only at hSw); go_simp; all_goals with_reducible rfl)
  try simp only [Act.put, List.setIfInBounds_toArray, List.set_cons_zero, List.set_cons_succ]
  refine wpAnyH_take (i := 5) (oi := ?oir60_5) (v := ?vr60_5) ?hir60_5 (by kernel_rfl) (by kernel_rfl) (by kernel_rfl) ?hqr60_5 ?hyr60_5 (by assumption) ?restr60_5
  case hir60_5 => simp only [List.getElem?_toArray, List.getElem?_cons_succ, List.getElem?_cons_zero]; rfl
  case hqr60_5 => exact fun _ _ _ h => h
  case hyr60_5 => (refine Or.inl ⟨by rfl, ?_⟩; intro w hSw; (try dsimp only at hSw); go_simp; all_goals with_reducible rfl)
  try simp only [Act.put, List.setIfInBounds_toArray, List.set_cons_zero, List.set_cons_succ]
  refine wpAnyH_take (i := 6) (oi := ?oir60_6) (v := ?vr60_6) ?hir60_6 (by kernel_rfl) (by kernel_rfl) (by kernel_rfl) ?hqr60_6 ?hyr60_6 (by assumption) ?restr60_6
  case hir60_6 => simp only [List.getElem?_toArray, List.getElem?_cons_succ, List.getElem?_cons_zero]; rfl
  case hqr60_6 => exact fun _ _ _ h => h
  case hyr60_6 => (refine Or.inl ⟨by rfl, ?_⟩; intro w hSw; (try dsimp only at hSw); go_simp; all_goals with_reducible rfl)
  try simp only [Act.put, List.setIfInBounds_toArray, List.set_cons_zero, List.set_cons_succ]
  refine wpAnyH_take (i := 7) (oi := ?oir60_7) (v := ?vr60_7) ?hir60_7 (by kernel_rfl) (by kernel_rfl) (by kernel_rfl) ?hqr60_7 ?hyr60_7 (by assumption) ?restr60_7
  case hir60_7 => simp only [List.getElem?_toArray, List.getElem?_cons_succ, List.getElem?_cons_zero]; rfl
  case hqr60_7 => exact fun _ _ _ h => h
  case hyr60_7 => (refine Or.inl ⟨by rfl, ?_⟩; intro w hSw; (try dsimp only at hSw); go_simp; all_goals with_reducible rfl)
  try simp only [Act.put, List.setIfInBounds_toArray, List.set_cons_zero, List.set_cons_succ]
  refine wpAnyH_take (i := 8) (oi := ?oir60_8) (v := ?vr60_8) ?hir60_8 (by kernel_rfl) (by kernel_rfl) (by kernel_rfl) ?hqr60_8 ?hyr60_8 (by assumption) ?restr60_8
  case hir60_8 => simp only [List.getElem?_toArray, List.getElem?_cons_succ, List.getElem?_cons_zero]; rfl
  case hqr60_8 => exact fun _ _ _ h => h
  case hyr60_8 => (refine Or.inl ⟨by rfl, ?_⟩; intro w hSw; (try dsimp only at hSw); go_simp; all_goals with_reducible rfl)
  try simp only [Act.put, List.setIfInBounds_toArray, List.set_cons_zero, List.set_cons_succ]
  refine wpAnyH_done (by kernel_rfl) ?_ _
  clear hHeld
  go_wp2_with fail
  have c := whole_any w17 k k1 k2
  refine c.mono ?_
  rintro e w18 ⟨a_o, n_o, c_o, b_o, m_o, d_o, rfl, h_on_18, h_od_18, hb⟩
  clear c
  have B18 := B17.trans (hb.mono B17.size)
  have h_xn_18 := h_xn_17.below hb
  have h_xd_18 := h_xd_17.below hb
  have h_x_18 := h_x_17.later hb
  have h_en_18 := h_en_17.below hb
  have h_ed_18 := h_ed_17.below hb
  have h_e_18 := h_e_17.later hb
  clear hb B17 h_xn_17 h_xd_17 h_x_17 h_en_17 h_ed_17 h_e_17
  go_wp2_with fail
  have c := whole_any w18 1 (by decide) (by decide)
  refine c.mono ?_
  rintro e w19 ⟨a_q, n_q, c_q, b_q, m_q, d_q, rfl, h_qn_19, h_qd_19, hb⟩
  clear c
  have B19 := B18.trans (hb.mono B18.size)
  have h_xn_19 := h_xn_18.below hb
  have h_xd_19 := h_xd_18.below hb
  have h_x_19 := h_x_18.later hb
  have h_en_19 := h_en_18.below hb
  have h_ed_19 := h_ed_18.below hb
  have h_e_19 := h_e_18.later hb
  have h_on_19 := h_on_18.below hb
  have h_od_19 := h_od_18.below hb
  clear hb B18 h_xn_18 h_xd_18 h_x_18 h_en_18 h_ed_18 h_e_18 h_on_18 h_od_18
  go_wp2_with fail
  have c := ratAdd_any w19 (g1 := ((ofC k 1).1).neg) (g2 := ((ofC 1 1).1).neg) h_on_19 h_od_19 h_qn_19 h_qd_19
  rw [show (⟨((ofC k 1).1).neg, ((ofC k 1).1).num, ((ofC k 1).1).den⟩ : QV) = (ofC k 1).1 from rfl] at c
  rw [show (⟨((ofC 1 1).1).neg, ((ofC 1 1).1).num, ((ofC 1 1).1).den⟩ : QV) = (ofC 1 1).1 from rfl] at c
  rw [G2.out] at c
  refine c.mono ?_
  rintro e w20 ⟨a_f, n_f, c_f, b_f, m_f, d_f, rfl, h_fn_20, h_fd_20, hb⟩
  clear c
  have B20 := B19.trans (hb.mono B19.size)
  have h_xn_20 := h_xn_19.below hb
  have h_xd_20 := h_xd_19.below hb
  have h_x_20 := h_x_19.later hb
  have h_en_20 := h_en_19.below hb
  have h_ed_20 := h_ed_19.below hb
  have h_e_20 := h_e_19.later hb
  clear hb B19 h_xn_19 h_xd_19 h_x_19 h_en_19 h_ed_19 h_e_19 h_on_19 h_od_19 h_qn_19 h_qd_19
  have hb := below_al w20 (.cells #[.bool (N).neg, .slice a_f n_f c_f, .slice b_f m_f d_f] 24)
  have B21 := B20.trans (hb.mono B20.size)
  have h_xn_21 := h_xn_20.below hb
  have h_xd_21 := h_xd_20.below hb
  have h_x_21 := h_x_20.later hb
  have h_en_21 := h_en_20.below hb
  have h_ed_21 := h_ed_20.below hb
  have h_e_21 := h_e_20.later hb
  have h_fn_21 := h_fn_20.below hb
  have h_fd_21 := h_fd_20.below hb
  clear hb B20 h_xn_20 h_xd_20 h_x_20 h_en_20 h_ed_20 h_e_20 h_fn_20 h_fd_20
  have h_f_21 := Has.new w20 #[.bool (N).neg, .slice a_f n_f c_f, .slice b_f m_f d_f] 24
  have k_f_0 := h_f_21.cell 0 _ rfl
  have k_f_1 := h_f_21.cell 1 _ rfl
  have k_f_2 := h_f_21.cell 2 _ rfl
  have k_x_0 := h_x_21.cell 0 _ rfl
  have k_x_1 := h_x_21.cell 1 _ rfl
  have k_x_2 := h_x_21.cell 2 _ rfl
  go_wp2_with first | refine wpList_store_new rfl 24 _ _ rfl atRat _ _ _ rfl rfl rfl rfl (rat_one _ _ _ _ _ _ _) ?_
  clear k_f_0 k_f_1 k_f_2 k_x_0 k_x_1 k_x_2
  generalize (w20.alloc (.cells #[.bool (N).neg, .slice a_f n_f c_f, .slice b_f m_f d_f] 24)) = w21 at *
  have c := ratCmp_any w21 (g1 := (N).neg) (g2 := (x).neg) h_fn_21 h_fd_21 h_xn_21 h_xd_21
  rw [show (⟨(N).neg, (N).num, (N).den⟩ : QV) = N from rfl] at c
  rw [show (⟨(x).neg, (x).num, (x).den⟩ : QV) = x from rfl] at c
  rw [G3.out] at c
  refine c.mono ?_
  rintro e w22 ⟨rfl, hb⟩
  clear c
  have B22 := B21.trans (hb.mono B21.size)
  have h_xn_22 := h_xn_21.below hb
  have h_xd_22 := h_xd_21.below hb
  have h_x_22 := h_x_21.later hb
  have h_en_22 := h_en_21.below hb
  have h_ed_22 := h_ed_21.below hb
  have h_e_22 := h_e_21.later hb
  have h_fn_22 := h_fn_21.below hb
  have h_fd_22 := h_fd_21.below hb
  have h_f_22 := h_f_21.later hb
  clear hb B21 h_xn_21 h_xd_21 h_x_21 h_en_21 h_ed_21 h_e_21 h_fn_21 h_fd_21 h_f_21
  go_wp2_with fail
  have c := wakes_any w22
  refine c.mono ?_
  rintro e w23 ⟨rfl, hb⟩
  clear c
  have B23 := B22.trans (hb.mono B22.size)
  have h_xn_23 := h_xn_22.below hb
  have h_xd_23 := h_xd_22.below hb
  have h_x_23 := h_x_22.later hb
  have h_en_23 := h_en_22.below hb
  have h_ed_23 := h_ed_22.below hb
  have h_e_23 := h_e_22.later hb
  have h_fn_23 := h_fn_22.below hb
  have h_fd_23 := h_fd_22.below hb
  have h_f_23 := h_f_22.later hb
  clear hb B22 h_xn_22 h_xd_22 h_x_22 h_en_22 h_ed_22 h_e_22 h_fn_22 h_fd_22 h_f_22
  go_wp2_with fail
  go_ret
  exact ⟨rfl, B23⟩

end Go.Proofs.YtdaajeklnhbhjaaGreatDoor
