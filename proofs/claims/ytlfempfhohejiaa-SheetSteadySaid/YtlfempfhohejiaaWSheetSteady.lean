/- The walk of the law SheetSteady: it returns true and turns nothing that was there. No condition. Printed by gen_shelaws.py. -/
import Derived.Test.YtlfempfhohejiaaSheZ
import Derived.BigQuiet
import Derived.Deep.CutRange
namespace Go.Proofs.Ytlfempfhohejiaa
open Go.RowKit Go.Suf
set_option linter.unusedVariables false
set_option linter.unusedSimpArgs false

set_option maxRecDepth 100000 in
set_option maxHeartbeats 8000000 in
theorem sheetSteady_walk (w : World) (nm : ByteArray) (hnl : nm.size ≤ maxLen) {a_s : Option Addr} {n_s c_s : Nat} {ss : List ByteArray} (h_s : RdS w a_s n_s c_s ss) (hsl : ∀ s ∈ ss, s.size ≤ maxLen) (seats : Int) (hs1 : -9223372036854775808 ≤ seats) (hs2 : seats ≤ 9223372036854775807) (rule : Nat) (hr : rule < 256) (p : PQ) (pw : PW p) {a_x : Option Addr} {n_x c_x : Nat} {xs : List Nat} (h_x : Rd .u8 w a_x n_x c_x xs) {a_d : Option Addr} {n_d c_d : Nat} {ds : List DQ} (h_d : RdD w a_d n_d c_d ds) (bx : Int) (hbx1 : -9223372036854775808 ≤ bx) (hbx2 : bx ≤ 9223372036854775807) :
    Calls Try.prog 6 #[.agg #[.string nm, .slice a_s n_s c_s, .int .i64 seats, .int .u8 ((rule : Nat) : Int)], .agg (polc p), .agg #[.slice a_x n_x c_x], .slice a_d n_d c_d, .int .i64 bx] w fun e w' => e = .returned (.bool true) ∧ Below w.heap.size w w' := by
  have HN := Lib.hid h_s.len
  have hns := h_s.lt
  have HXL := Lib.hid h_x.len
  have HDL := Lib.hid h_d.len
  have hnx := h_x.lt
  have hnd := h_d.lt
  have PWW := Lib.hid pw
  have B0 : Below w.heap.size w w := Below.refl _ _
  have h_s_0 := h_s
  have h_x_0 := h_x
  have h_d_0 := h_d
  go_enter Try.func6, Try.ntmps6
  have hb := below_al w (.cells #[.string nm, .slice a_s n_s c_s, .int .i64 seats, .int .u8 ((rule : Nat) : Int)] 24)
  have B1 := B0.trans (hb.mono B0.size)
  have h_s_1 := h_s_0.below hb
  have h_x_1 := h_x_0.below hb
  have h_d_1 := h_d_0.below hb
  clear hb B0 h_s_0 h_x_0 h_d_0
  have h_c_1 := PRow.new 24 w #[.string nm, .slice a_s n_s c_s, .int .i64 seats, .int .u8 ((rule : Nat) : Int)]
  have hb := below_al (w.alloc (.cells #[.string nm, .slice a_s n_s c_s, .int .i64 seats, .int .u8 ((rule : Nat) : Int)] 24)) (.cells (polc p) 48)
  have B2 := B1.trans (hb.mono B1.size)
  have h_s_2 := h_s_1.below hb
  have h_x_2 := h_x_1.below hb
  have h_d_2 := h_d_1.below hb
  have h_c_2 := h_c_1.later hb
  clear hb B1 h_s_1 h_x_1 h_d_1 h_c_1
  have h_p_2 := PRow.new 48 (w.alloc (.cells #[.string nm, .slice a_s n_s c_s, .int .i64 seats, .int .u8 ((rule : Nat) : Int)] 24)) (polc p)
  simp only [World.size_alloc] at h_p_2
  have hb := below_al ((w.alloc (.cells #[.string nm, .slice a_s n_s c_s, .int .i64 seats, .int .u8 ((rule : Nat) : Int)] 24)).alloc (.cells (polc p) 48)) (.cells #[.slice a_x n_x c_x] 27)
  have B3 := B2.trans (hb.mono B2.size)
  have h_s_3 := h_s_2.below hb
  have h_x_3 := h_x_2.below hb
  have h_d_3 := h_d_2.below hb
  have h_c_3 := h_c_2.later hb
  have h_p_3 := h_p_2.later hb
  clear hb B2 h_s_2 h_x_2 h_d_2 h_c_2 h_p_2
  have h_y_3 := PRow.new 27 ((w.alloc (.cells #[.string nm, .slice a_s n_s c_s, .int .i64 seats, .int .u8 ((rule : Nat) : Int)] 24)).alloc (.cells (polc p) 48)) #[.slice a_x n_x c_x]
  simp only [World.size_alloc] at h_y_3
  go_wp2_with fail
  generalize (((w.alloc (.cells #[.string nm, .slice a_s n_s c_s, .int .i64 seats, .int .u8 ((rule : Nat) : Int)] 24)).alloc (.cells (polc p) 48)).alloc (.cells #[.slice a_x n_x c_x] 27)) = w3 at *
  have c := alive_any w3
  refine c.mono ?_
  rintro e w4 ⟨rfl, hb⟩
  clear c
  have B4 := B3.trans (hb.mono B3.size)
  have h_s_4 := h_s_3.below hb
  have h_x_4 := h_x_3.below hb
  have h_d_4 := h_d_3.below hb
  have h_c_4 := h_c_3.later hb
  have h_p_4 := h_p_3.later hb
  have h_y_4 := h_y_3.later hb
  clear hb B3 h_s_3 h_x_3 h_d_3 h_c_3 h_p_3 h_y_3
  have k_c_0 := h_c_4.cell 0 _ rfl
  have k_c_1 := h_c_4.cell 1 _ rfl
  have k_c_2 := h_c_4.cell 2 _ rfl
  have k_c_3 := h_c_4.cell 3 _ rfl
  go_wp2_with fail
  clear k_c_0 k_c_1 k_c_2 k_c_3
  obtain ⟨gr, hgr⟩ : ∃ gr, greatC nm ss = gr := ⟨_, rfl⟩
  have GR := Lib.hid hgr
  clear hgr
  have c := Great_any w4 nm h_s_4 seats rule hr
  rw [GR.out] at c
  refine c.mono ?_
  rintro e w5 ⟨rfl, hb⟩
  clear c
  have B5 := B4.trans (hb.mono B4.size)
  have h_s_5 := h_s_4.below hb
  have h_x_5 := h_x_4.below hb
  have h_d_5 := h_d_4.below hb
  have h_c_5 := h_c_4.later hb
  have h_p_5 := h_p_4.later hb
  have h_y_5 := h_y_4.later hb
  clear hb B4 h_s_4 h_x_4 h_d_4 h_c_4 h_p_4 h_y_4
  cases gr with
  | true =>
    go_wp2_with fail
    go_ret
    exact ⟨rfl, B5⟩
  | false =>
    by_cases hb1 : 1000 < n_x
    case pos =>
      have hb1d : decide ((n_x : Int) > 1000) = true := decide_eq_true (by omega)
      have k_y_0 := h_y_5.cell 0 _ rfl
      go_wp2_with fail
      clear k_y_0
      go_ret
      exact ⟨rfl, B5⟩
    have hb1d : decide ((n_x : Int) > 1000) = false := decide_eq_false (by omega)
    by_cases hb2 : 1000 < n_d
    case pos =>
      have hb2d : decide ((n_d : Int) > 1000) = true := decide_eq_true (by omega)
      have k_y_0 := h_y_5.cell 0 _ rfl
      go_wp2_with fail
      clear k_y_0
      go_ret
      exact ⟨rfl, B5⟩
    have hb2d : decide ((n_d : Int) > 1000) = false := decide_eq_false (by omega)
    by_cases b0 : bx < 0
    case pos =>
      have d0 : decide (bx < 0) = true := decide_eq_true b0
      have k_y_0 := h_y_5.cell 0 _ rfl
      go_wp2_with fail
      clear k_y_0
      go_ret
      exact ⟨rfl, B5⟩
    have d0 : decide (bx < 0) = false := decide_eq_false b0
    by_cases b1 : bx < (n_x : Int)
    case neg =>
      have d1 : decide (bx ≥ ((n_x : Nat) : Int)) = true := decide_eq_true (by omega)
      have d2 : decide (((n_x : Nat) : Int) ≤ bx) = true := decide_eq_true (by omega)
      have k_y_0 := h_y_5.cell 0 _ rfl
      go_wp2_with fail
      clear k_y_0
      go_ret
      exact ⟨rfl, B5⟩
    have d1 : decide (bx ≥ ((n_x : Nat) : Int)) = false := decide_eq_false (by omega)
    have d2 : decide (((n_x : Nat) : Int) ≤ bx) = false := decide_eq_false (by omega)
    obtain ⟨b, rfl⟩ : ∃ b : Nat, bx = (b : Int) := ⟨bx.toNat, by omega⟩
    have hbn : b < n_x := by omega
    have d3 : decide (n_x ≤ b) = false := decide_eq_false (by omega)
    have d4 : ¬ n_x ≤ b := by omega
    clear hbx1 hbx2 b0 b1
    obtain ⟨⟨⟨kq, mq, oq, dq⟩, er⟩, hrr⟩ : ∃ r, readR nm ss seats rule p xs ds = r := ⟨_, rfl⟩
    have HRR := Lib.hid hrr
    have hkq : kq < 256 := readR_kd hrr
    clear hrr
    have k_c_0 := h_c_5.cell 0 _ rfl
    have k_c_1 := h_c_5.cell 1 _ rfl
    have k_c_2 := h_c_5.cell 2 _ rfl
    have k_c_3 := h_c_5.cell 3 _ rfl
    have k_p_0 := h_p_5.cell 0 _ rfl
    have k_p_1 := h_p_5.cell 1 _ rfl
    have k_p_2 := h_p_5.cell 2 _ rfl
    have k_y_0 := h_y_5.cell 0 _ rfl
    go_wp2_with fail
    clear k_c_0 k_c_1 k_c_2 k_c_3 k_p_0 k_p_1 k_p_2 k_y_0
    have c := Read_any w5 nm h_s_5 seats hs1 hs2 rule hr p PWW.out h_x_5 h_d_5 (by omega) (by omega)
    rw [HRR.out] at c
    refine c.mono ?_
    rintro e w6 ⟨a_a, n_a, c_a, b_a, m_a, d_a, rfl, h_am_6, h_ad_6, hap_a, hb⟩
    clear c
    have B6 := B5.trans (hb.mono B5.size)
    have h_s_6 := h_s_5.below hb
    have h_x_6 := h_x_5.below hb
    have h_d_6 := h_d_5.below hb
    have h_c_6 := h_c_5.later hb
    have h_p_6 := h_p_5.later hb
    have h_y_6 := h_y_5.later hb
    clear hb B5 h_s_5 h_x_5 h_d_5 h_c_5 h_p_5 h_y_5
    replace hap_a := Lib.hid hap_a
    have hb := below_al w6 (.cells #[.int .u8 ((kq : Nat) : Int), .slice a_a n_a c_a, .int .i64 oq, .slice b_a m_a d_a] 51)
    have B7 := B6.trans (hb.mono B6.size)
    have h_s_7 := h_s_6.below hb
    have h_x_7 := h_x_6.below hb
    have h_d_7 := h_d_6.below hb
    have h_c_7 := h_c_6.later hb
    have h_p_7 := h_p_6.later hb
    have h_y_7 := h_y_6.later hb
    have h_am_7 := h_am_6.below hb
    have h_ad_7 := h_ad_6.below hb
    clear hb B6 h_s_6 h_x_6 h_d_6 h_c_6 h_p_6 h_y_6 h_am_6 h_ad_6
    have h_ar_7 := PRow.new 51 w6 #[.int .u8 ((kq : Nat) : Int), .slice a_a n_a c_a, .int .i64 oq, .slice b_a m_a d_a]
    go_upto_region 5 with (first | refine wpList_store_new rfl 51 _ _ rfl atRea _ _ _ rfl rfl rfl rfl (rea_one _ _ _ _ _ _ _ _) ?_)
    generalize (w6.alloc (.cells #[.int .u8 ((kq : Nat) : Int), .slice a_a n_a c_a, .int .i64 oq, .slice b_a m_a d_a] 51)) = w7 at *
    by_cases her : er = 0
    case neg =>
      have e1 : (er == (0 : Int)) = false := by simpa using her
      have e2 : (er != (0 : Int)) = true := by simpa using her
      go_wp2_with fail
      go_ret
      exact ⟨rfl, B7⟩
    subst her
    clear d0 d1 d2
    have HG := Lib.hid (readR_good (nm := nm) (ss := ss) (seats := seats) (rule := rule) (p := p) (xs := xs) (l := ds) (by rw [HRR.out]))
    have HMF := Lib.hid (may_facts HG.out.2.1)
    have O_c := Lib.hid h_c_7
    have O_p := Lib.hid h_p_7
    have O_y := Lib.hid h_y_7
    have O_s := Lib.hid h_s_7
    have O_x := Lib.hid h_x_7
    have O_d := Lib.hid h_d_7
    have O_ar := Lib.hid h_ar_7
    have O_am := Lib.hid h_am_7
    have O_ad := Lib.hid h_ad_7
    have O_B := Lib.hid B7
    have h_bb_7 := Below.refl w7.heap.size w7
    have hmk := World.ownsRow_made (e := 5) (size := 1) (base := w7.heap.size) w7 #[] 0 (Nat.le_refl _) (by decide) rfl
    have hbl := below_al w7 (.cells #[] 5)
    have k_y2 := (h_y_7.later hbl).cell 0 _ rfl
    have k_y_0 := h_y_7.cell 0 _ rfl
    go_wp2_with first | (at_builtin; refine wpList_app rfl _ _ 25 rfl etY w7.heap.size rfl hmk rfl (by simpa using h_x_7.len) (h_x_7.below hbl).sl (by unfold maxLen; omega) (by omega) (by simp) ?_; intro a_o c_o wo_o hown hg hbo; refine Hid.out ?_)
    clear k_y_0
    clear k_y2
    simp only [Nat.zero_add, List.nil_append] at hown ⊢
    have h_o_8 : Ow .u8 5 w7.heap.size wo_o a_o n_x c_o xs := ⟨h_x_7.len, hown, h_x_7.bd⟩
    have hb := hbl.trans hbo
    clear hown hg hbo hbl hmk
    have B8 := B7.trans (hb.mono B7.size)
    have h_s_8 := h_s_7.below hb
    have h_x_8 := h_x_7.below hb
    have h_d_8 := h_d_7.below hb
    have h_c_8 := h_c_7.later hb
    have h_p_8 := h_p_7.later hb
    have h_y_8 := h_y_7.later hb
    have h_am_8 := h_am_7.below hb
    have h_ad_8 := h_ad_7.below hb
    have h_ar_8 := h_ar_7.later hb
    have h_bb_8 := h_bb_7.trans (hb.mono h_bb_7.size)
    clear hb B7 h_s_7 h_x_7 h_d_7 h_c_7 h_p_7 h_y_7 h_am_7 h_ad_7 h_ar_7 h_bb_7
    refine Lib.hid ?_
    obtain ⟨g, rfl, hgb, hgl⟩ := h_o_8.where (by omega)
    have HBB0 := Lib.hid h_bb_8
    have HGB := Lib.hid (show w7.heap.size ≤ g by omega)
    clear hgb hgl
    have hb := below_al wo_o (.cells #[.slice (some ⟨g, 0, none⟩) n_x c_o] 27)
    have B9 := B8.trans (hb.mono B8.size)
    have h_s_9 := h_s_8.below hb
    have h_x_9 := h_x_8.below hb
    have h_d_9 := h_d_8.below hb
    have h_c_9 := h_c_8.later hb
    have h_p_9 := h_p_8.later hb
    have h_y_9 := h_y_8.later hb
    have h_am_9 := h_am_8.below hb
    have h_ad_9 := h_ad_8.below hb
    have h_ar_9 := h_ar_8.later hb
    have h_bb_9 := h_bb_8.trans (hb.mono h_bb_8.size)
    have h_o_9 := h_o_8.below hb
    clear hb B8 h_s_8 h_x_8 h_d_8 h_c_8 h_p_8 h_y_8 h_am_8 h_ad_8 h_ar_8 h_bb_8 h_o_8
    have h_t_9 := (PRow.new 27 wo_o #[.slice (some ⟨g, 0, none⟩) n_x c_o]).base HBB0.out
    go_upto_region 8 with (first | refine wpList_store_new rfl 27 _ _ rfl atShe _ _ _ rfl rfl rfl rfl (she_one _ _ _) ?_)
    generalize (wo_o.alloc (.cells #[.slice (some ⟨g, 0, none⟩) n_x c_o] 27)) = w9 at *
    have HEB := Lib.hid h_bb_9.size
    have h_eb_9 := Below.refl w9.heap.size w9
    have hmk := owD_made w9
    have hbl := below_al w9 (.cells #[] 58)
    have hrd := h_d_9.below hbl
    go_wp2_with (at_builtin; refine wpList_appD rfl _ _ rfl w9.heap.size rfl hmk rfl hrd (by omega) hbl.size ?_; intro a_e c_e wo_e hown hg hbo; refine Hid.out ?_)
    simp only [Nat.zero_add, List.nil_append] at hown ⊢
    have hb := hbl.trans hbo
    clear hg hbo hbl hmk hrd
    have B10 := B9.trans (hb.mono B9.size)
    have h_s_10 := h_s_9.below hb
    have h_x_10 := h_x_9.below hb
    have h_d_10 := h_d_9.below hb
    have h_c_10 := h_c_9.later hb
    have h_p_10 := h_p_9.later hb
    have h_y_10 := h_y_9.later hb
    have h_am_10 := h_am_9.below hb
    have h_ad_10 := h_ad_9.below hb
    have h_ar_10 := h_ar_9.later hb
    have h_bb_10 := h_bb_9.trans (hb.mono h_bb_9.size)
    have h_o_10 := h_o_9.below hb
    have h_t_10 := h_t_9.later hb
    have h_eb_10 := h_eb_9.trans (hb.mono h_eb_9.size)
    clear hb B9 h_s_9 h_x_9 h_d_9 h_c_9 h_p_9 h_y_9 h_am_9 h_ad_9 h_ar_9 h_bb_9 h_o_9 h_t_9 h_eb_9
    have h_e_10 := hown
    clear hown
    refine Lib.hid ?_
    obtain ⟨b8, o8, rfl, kx, hbx⟩ := h_x_10.cell b hbn
    obtain ⟨x, hx⟩ : ∃ x, nth xs b = x := ⟨_, rfl⟩
    rw [hx] at kx hbx
    replace hbx : x < 256 := hbx
    have HX := Lib.hid hx
    clear hx
    have ky := h_y_10.cell 0 _ rfl
    have kp0 := h_p_10.cell 0 _ rfl
    have kp1 := h_p_10.cell 1 _ rfl
    go_upto_region 15 with fail
    by_cases c1 : p.high ≤ x
    case pos =>
      have d5 : decide (p.high ≤ x) = true := decide_eq_true c1
      have HC1 := Lib.hid c1
      clear c1
      have hb := (Below.refl wo_e.heap.size wo_e).drew
      replace ky := cell_below hb ky
      replace kx := cell_below hb kx
      replace kp0 := cell_below hb kp0
      replace kp1 := cell_below hb kp1
      have B11 := B10.trans (hb.mono B10.size)
      have h_s_11 := h_s_10.below hb
      have h_x_11 := h_x_10.below hb
      have h_d_11 := h_d_10.below hb
      have h_c_11 := h_c_10.later hb
      have h_p_11 := h_p_10.later hb
      have h_y_11 := h_y_10.later hb
      have h_am_11 := h_am_10.below hb
      have h_ad_11 := h_ad_10.below hb
      have h_ar_11 := h_ar_10.later hb
      have h_bb_11 := h_bb_10.trans (hb.mono h_bb_10.size)
      have h_o_11 := h_o_10.below hb
      have h_t_11 := h_t_10.later hb
      have h_eb_11 := h_eb_10.trans (hb.mono h_eb_10.size)
      have h_e_11 := h_e_10.below hb
      clear hb B10 h_s_10 h_x_10 h_d_10 h_c_10 h_p_10 h_y_10 h_am_10 h_ad_10 h_ar_10 h_bb_10 h_o_10 h_t_10 h_eb_10 h_e_10
      refine wp_region_held_drew (S := (fun w' => w'.cell? ⟨w.heap.size + 1 + 1, 0, none⟩ = some (.slice (some ⟨b8, o8, none⟩) n_x c_x) ∧ w'.cell? ⟨b8, o8 + b, none⟩ = some (.int .u8 ((x : Nat) : Int)) ∧ w'.cell? ⟨w.heap.size + 1, 0, none⟩ = some (.int .u8 ((p.low : Nat) : Int)) ∧ w'.cell? ⟨w.heap.size + 1, 1, none⟩ = some (.int .u8 ((p.high : Nat) : Int)) ∧ True)) (by kernel_rfl) ?_ (fun hHeld => ?_)
      · exact ⟨ky, kx, kp0, kp1, trivial⟩
      generalize wo_e.drew = w11 at *
      refine wpAnyH_take (i := 0) (oi := ?oir1_0) (v := ?vr1_0) ?hir1_0 (by kernel_rfl) (by kernel_rfl) (by kernel_rfl) ?hqr1_0 ?hyr1_0 (by assumption) ?restr1_0
      case hir1_0 => simp only [List.getElem?_toArray, List.getElem?_cons_succ, List.getElem?_cons_zero]; rfl
      case hqr1_0 => exact fun _ _ _ h => h
      case hyr1_0 => (refine Or.inl ⟨by rfl, ?_⟩; intro w hSw; (try dsimp only at hSw); go_simp; all_goals with_reducible rfl)
      try simp only [Act.put, List.setIfInBounds_toArray, List.set_cons_zero, List.set_cons_succ]
      refine wpAnyH_take (i := 1) (oi := ?oir1_1) (v := ?vr1_1) ?hir1_1 (by kernel_rfl) (by kernel_rfl) (by kernel_rfl) ?hqr1_1 ?hyr1_1 (by assumption) ?restr1_1
      case hir1_1 => simp only [List.getElem?_toArray, List.getElem?_cons_succ, List.getElem?_cons_zero]; rfl
      case hqr1_1 => exact fun _ _ _ h => h
      case hyr1_1 => (refine Or.inl ⟨by rfl, ?_⟩; intro w hSw; (try dsimp only at hSw); go_simp; all_goals with_reducible rfl)
      try simp only [Act.put, List.setIfInBounds_toArray, List.set_cons_zero, List.set_cons_succ]
      refine wpAnyH_take (i := 2) (oi := ?oir1_2) (v := ?vr1_2) ?hir1_2 (by kernel_rfl) (by kernel_rfl) (by kernel_rfl) ?hqr1_2 ?hyr1_2 (by assumption) ?restr1_2
      case hir1_2 => simp only [List.getElem?_toArray, List.getElem?_cons_succ, List.getElem?_cons_zero]; rfl
      case hqr1_2 => exact fun _ _ _ h => h
      case hyr1_2 => (refine Or.inl ⟨by rfl, ?_⟩; intro w hSw; (try dsimp only at hSw); go_simp; all_goals with_reducible rfl)
      try simp only [Act.put, List.setIfInBounds_toArray, List.set_cons_zero, List.set_cons_succ]
      refine wpAnyH_take (i := 3) (oi := ?oir1_3) (v := ?vr1_3) ?hir1_3 (by kernel_rfl) (by kernel_rfl) (by kernel_rfl) ?hqr1_3 ?hyr1_3 (by assumption) ?restr1_3
      case hir1_3 => simp only [List.getElem?_toArray, List.getElem?_cons_succ, List.getElem?_cons_zero]; rfl
      case hqr1_3 => exact fun _ _ _ h => h
      case hyr1_3 => (refine Or.inl ⟨by rfl, ?_⟩; intro w hSw; (try dsimp only at hSw); go_simp; all_goals with_reducible rfl)
      try simp only [Act.put, List.setIfInBounds_toArray, List.set_cons_zero, List.set_cons_succ]
      refine wpAnyH_take (i := 4) (oi := ?oir1_4) (v := ?vr1_4) ?hir1_4 (by kernel_rfl) (by kernel_rfl) (by kernel_rfl) ?hqr1_4 ?hyr1_4 (by assumption) ?restr1_4
      case hir1_4 => simp only [List.getElem?_toArray, List.getElem?_cons_succ, List.getElem?_cons_zero]; rfl
      case hqr1_4 => exact fun _ _ _ h => h
      case hyr1_4 => (refine Or.inl ⟨by rfl, ?_⟩; intro w hSw; (try dsimp only at hSw); go_simp; all_goals with_reducible rfl)
      try simp only [Act.put, List.setIfInBounds_toArray, List.set_cons_zero, List.set_cons_succ]
      refine wpAnyH_take (i := 5) (oi := ?oir1_5) (v := ?vr1_5) ?hir1_5 (by kernel_rfl) (by kernel_rfl) (by kernel_rfl) ?hqr1_5 ?hyr1_5 (by assumption) ?restr1_5
      case hir1_5 => simp only [List.getElem?_toArray, List.getElem?_cons_succ, List.getElem?_cons_zero]; rfl
      case hqr1_5 => exact fun _ _ _ h => h
      case hyr1_5 => (refine Or.inl ⟨by rfl, ?_⟩; intro w hSw; (try dsimp only at hSw); go_simp; all_goals with_reducible rfl)
      try simp only [Act.put, List.setIfInBounds_toArray, List.set_cons_zero, List.set_cons_succ]
      refine wpAnyH_take (i := 6) (oi := ?oir1_6) (v := ?vr1_6) ?hir1_6 (by kernel_rfl) (by kernel_rfl) (by kernel_rfl) ?hqr1_6 ?hyr1_6 (by assumption) ?restr1_6
      case hir1_6 => simp only [List.getElem?_toArray, List.getElem?_cons_succ, List.getElem?_cons_zero]; rfl
      case hqr1_6 => exact fun _ _ _ h => h
      case hyr1_6 => (refine Or.inl ⟨by rfl, ?_⟩; intro w hSw; (try dsimp only at hSw); go_simp; all_goals with_reducible rfl)
      try simp only [Act.put, List.setIfInBounds_toArray, List.set_cons_zero, List.set_cons_succ]
      refine wpAnyH_take (i := 7) (oi := ?oir1_7) (v := ?vr1_7) ?hir1_7 (by kernel_rfl) (by kernel_rfl) (by kernel_rfl) ?hqr1_7 ?hyr1_7 (by assumption) ?restr1_7
      case hir1_7 => simp only [List.getElem?_toArray, List.getElem?_cons_succ, List.getElem?_cons_zero]; rfl
      case hqr1_7 => exact fun _ _ _ h => h
      case hyr1_7 => (refine Or.inl ⟨by rfl, ?_⟩; intro w hSw; (try dsimp only at hSw); go_simp; all_goals with_reducible rfl)
      try simp only [Act.put, List.setIfInBounds_toArray, List.set_cons_zero, List.set_cons_succ]
      refine wpAnyH_take (i := 8) (oi := ?oir1_8) (v := ?vr1_8) ?hir1_8 (by kernel_rfl) (by kernel_rfl) (by kernel_rfl) ?hqr1_8 ?hyr1_8 (by assumption) ?restr1_8
      case hir1_8 => simp only [List.getElem?_toArray, List.getElem?_cons_succ, List.getElem?_cons_zero]; rfl
      case hqr1_8 => exact fun _ _ _ h => h
      case hyr1_8 => (refine Or.inl ⟨by rfl, ?_⟩; intro w hSw; (try dsimp only at hSw); go_simp; all_goals with_reducible rfl)
      try simp only [Act.put, List.setIfInBounds_toArray, List.set_cons_zero, List.set_cons_succ]
      refine wpAnyH_done (by kernel_rfl) ?_ _
      clear hHeld ky kx kp0 kp1
      clear d5
      obtain ⟨-, ocs, hoc⟩ := ow_blk h_o_11
      have htg := blk_ne h_t_11.row hoc (by decide)
      have n_bb := h_bb_11.setCell (p := ⟨g, b, none⟩) HGB.out (.int .u8 100)
      have n_t := h_t_11.other (p := ⟨g, b, none⟩) htg HGB.out (.int .u8 100)
      have n_e := h_e_11.setHi hoc (by decide) (.int .u8 100) (i := b)
      have n_o : Ow .u8 5 _ (w11.setCell ⟨g, b, none⟩ (.int .u8 100)) (some ⟨g, 0, none⟩) n_x c_o (xs.set b 100) := h_o_11.set b 100 (by show 100 < 256; decide)
      have kt := h_t_11.cell 0 _ rfl
      have ko := h_o_11.at b hbn
      have fo := h_o_11.free b
      clear hoc htg
      go_upto_region 19 with fail
      clear kt ko fo
      clear h_s_11 h_x_11 h_d_11 h_c_11 h_p_11 h_y_11 h_am_11 h_ad_11 h_ar_11 h_bb_11 h_o_11 h_t_11 h_e_11 B11
      generalize w11.setCell ⟨g, b, none⟩ (.int .u8 100) = ws at *
      have h_c_12 := O_c.out.later n_bb
      have h_p_12 := O_p.out.later n_bb
      have h_y_12 := O_y.out.later n_bb
      have h_ar_12 := O_ar.out.later n_bb
      have h_s_12 := O_s.out.below n_bb
      have h_x_12 := O_x.out.below n_bb
      have h_d_12 := O_d.out.below n_bb
      have h_am_12 := O_am.out.below n_bb
      have h_ad_12 := O_ad.out.below n_bb
      have h_bb_12 := n_bb
      have h_t_12 := n_t
      have h_e_12 := n_e
      have h_o_12 := n_o
      have B12 := O_B.out.trans (n_bb.mono O_B.out.size)
      clear n_bb n_t n_e n_o
      have HR2 := Lib.hid (show readR nm ss seats rule p (xs.set b 100) ds = (⟨kq, mq, oq, dq⟩, 0) by
        have h1 := HC1.out
        have h2 := HMF.out
        rw [readR_steady (by rw [HRR.out]) (by rw [HXL.out]; exact hbn) (Nat.le_refl _) (by rw [HX.out]; unfold doubtB; rw [decide_eq_false (show ¬ x < p.high by omega), Bool.and_false]) (by unfold doubtB; rw [decide_eq_false (show ¬ 100 < p.high by omega), Bool.and_false]) (by rw [HX.out, decide_eq_true h1, decide_eq_true (show p.high ≤ 100 by omega)])]
        exact HRR.out)
      have k_c_0 := h_c_12.cell 0 _ rfl
      have k_c_1 := h_c_12.cell 1 _ rfl
      have k_c_2 := h_c_12.cell 2 _ rfl
      have k_c_3 := h_c_12.cell 3 _ rfl
      have k_p_0 := h_p_12.cell 0 _ rfl
      have k_p_1 := h_p_12.cell 1 _ rfl
      have k_p_2 := h_p_12.cell 2 _ rfl
      have k_t_0 := h_t_12.cell 0 _ rfl
      go_wp2_with fail
      clear k_c_0 k_c_1 k_c_2 k_c_3 k_p_0 k_p_1 k_p_2 k_t_0
      have c := Read_any ws nm h_s_12 seats hs1 hs2 rule hr p PWW.out h_o_12.rd h_e_12.rd (by omega) (by omega)
      rw [HR2.out] at c
      refine c.mono ?_
      rintro e w13 ⟨a_b, n_b, c_b, b_b, m_b, d_b, rfl, h_bm_13, h_bd_13, hap_b, hb⟩
      clear c
      have B13 := B12.trans (hb.mono B12.size)
      have h_s_13 := h_s_12.below hb
      have h_x_13 := h_x_12.below hb
      have h_d_13 := h_d_12.below hb
      have h_c_13 := h_c_12.later hb
      have h_p_13 := h_p_12.later hb
      have h_y_13 := h_y_12.later hb
      have h_am_13 := h_am_12.below hb
      have h_ad_13 := h_ad_12.below hb
      have h_ar_13 := h_ar_12.later hb
      have h_bb_13 := h_bb_12.trans (hb.mono h_bb_12.size)
      have h_o_13 := h_o_12.below hb
      have h_t_13 := h_t_12.later hb
      have h_e_13 := h_e_12.below hb
      clear hb B12 h_s_12 h_x_12 h_d_12 h_c_12 h_p_12 h_y_12 h_am_12 h_ad_12 h_ar_12 h_bb_12 h_o_12 h_t_12 h_e_12
      replace hap_b := Lib.hid hap_b
      have hb := below_al w13 (.cells #[.int .u8 ((kq : Nat) : Int), .slice a_b n_b c_b, .int .i64 oq, .slice b_b m_b d_b] 51)
      have B14 := B13.trans (hb.mono B13.size)
      have h_s_14 := h_s_13.below hb
      have h_x_14 := h_x_13.below hb
      have h_d_14 := h_d_13.below hb
      have h_c_14 := h_c_13.later hb
      have h_p_14 := h_p_13.later hb
      have h_y_14 := h_y_13.later hb
      have h_am_14 := h_am_13.below hb
      have h_ad_14 := h_ad_13.below hb
      have h_ar_14 := h_ar_13.later hb
      have h_bb_14 := h_bb_13.trans (hb.mono h_bb_13.size)
      have h_o_14 := h_o_13.below hb
      have h_t_14 := h_t_13.later hb
      have h_e_14 := h_e_13.below hb
      have h_bm_14 := h_bm_13.below hb
      have h_bd_14 := h_bd_13.below hb
      clear hb B13 h_s_13 h_x_13 h_d_13 h_c_13 h_p_13 h_y_13 h_am_13 h_ad_13 h_ar_13 h_bb_13 h_o_13 h_t_13 h_e_13 h_bm_13 h_bd_13
      have h_br_14 := PRow.new 51 w13 #[.int .u8 ((kq : Nat) : Int), .slice a_b n_b c_b, .int .i64 oq, .slice b_b m_b d_b]
      have hla : dq.length = m_a := h_ad_14.len
      have hlb : dq.length = m_b := h_bd_14.len
      obtain rfl : m_b = m_a := by omega
      have hmb : m_b ≤ 1000 := by rw [← hla, (readR_may HRR.out).2.2.2.2.2.2]; exact Nat.le_trans (dbtL_le _ _ _ _) (by rw [HXL.out]; omega)
      clear hla hlb
      have hw1 : IntKind.i64.wrap (((m_b : Nat) : Int) + ((n_d : Nat) : Int)) = ((m_b : Nat) : Int) + ((n_d : Nat) : Int) := wrap_in (by omega) (by omega)
      have hw2 : IntKind.i64.wrap (((m_b : Nat) : Int) + ((n_d : Nat) : Int) - ((n_d : Nat) : Int)) = ((m_b : Nat) : Int) := (congrArg IntKind.i64.wrap (by omega)).trans (wrap_in (z := ((m_b : Nat) : Int)) (by omega) (by omega))
      have e3 : (oq == oq) = true := by simp
      have k_ar_0 := h_ar_14.cell 0 _ rfl
      have k_ar_1 := h_ar_14.cell 1 _ rfl
      have k_ar_2 := h_ar_14.cell 2 _ rfl
      have k_ar_3 := h_ar_14.cell 3 _ rfl
      have k_br_0 := h_br_14.cell 0 _ rfl
      have k_br_1 := h_br_14.cell 1 _ rfl
      have k_br_2 := h_br_14.cell 2 _ rfl
      have k_br_3 := h_br_14.cell 3 _ rfl
      go_wp2_with first | refine wpList_store_new rfl 51 _ _ rfl atRea _ _ _ rfl rfl rfl rfl (rea_one _ _ _ _ _ _ _ _) ?_
      clear k_ar_0 k_ar_1 k_ar_2 k_ar_3 k_br_0 k_br_1 k_br_2 k_br_3
      generalize (w13.alloc (.cells #[.int .u8 ((kq : Nat) : Int), .slice a_b n_b c_b, .int .i64 oq, .slice b_b m_b d_b] 51)) = w14 at *
      have c := ballSame_any w14 kq hkq kq hkq (h_am_14.rd oneI) (h_bm_14.rd oneI)
      rw [show (decide (kq = kq) && decide (mq = mq)) = true by simp] at c
      refine c.mono ?_
      rintro e w15 ⟨rfl, hb⟩
      clear c
      have B15 := B14.trans (hb.mono B14.size)
      have h_s_15 := h_s_14.below hb
      have h_x_15 := h_x_14.below hb
      have h_d_15 := h_d_14.below hb
      have h_c_15 := h_c_14.later hb
      have h_p_15 := h_p_14.later hb
      have h_y_15 := h_y_14.later hb
      have h_am_15 := h_am_14.below hb
      have h_ad_15 := h_ad_14.below hb
      have h_ar_15 := h_ar_14.later hb
      have h_bb_15 := h_bb_14.trans (hb.mono h_bb_14.size)
      have h_o_15 := h_o_14.below hb
      have h_t_15 := h_t_14.later hb
      have h_e_15 := h_e_14.below hb
      have h_bm_15 := h_bm_14.below hb
      have h_bd_15 := h_bd_14.below hb
      have h_br_15 := h_br_14.later hb
      clear hb B14 h_s_14 h_x_14 h_d_14 h_c_14 h_p_14 h_y_14 h_am_14 h_ad_14 h_ar_14 h_bb_14 h_o_14 h_t_14 h_e_14 h_bm_14 h_bd_14 h_br_14
      have k_ar_0 := h_ar_15.cell 0 _ rfl
      have k_ar_1 := h_ar_15.cell 1 _ rfl
      have k_ar_2 := h_ar_15.cell 2 _ rfl
      have k_ar_3 := h_ar_15.cell 3 _ rfl
      have k_br_0 := h_br_15.cell 0 _ rfl
      have k_br_1 := h_br_15.cell 1 _ rfl
      have k_br_2 := h_br_15.cell 2 _ rfl
      have k_br_3 := h_br_15.cell 3 _ rfl
      go_wp2_with fail
      clear k_ar_0 k_ar_1 k_ar_2 k_ar_3 k_br_0 k_br_1 k_br_2 k_br_3
      go_ret
      exact ⟨rfl, B15⟩
    have d5 : decide (p.high ≤ x) = false := decide_eq_false c1
    have HC1 := Lib.hid c1
    clear c1
    have hb := (Below.refl wo_e.heap.size wo_e).drew
    replace ky := cell_below hb ky
    replace kx := cell_below hb kx
    replace kp0 := cell_below hb kp0
    replace kp1 := cell_below hb kp1
    have B11 := B10.trans (hb.mono B10.size)
    have h_s_11 := h_s_10.below hb
    have h_x_11 := h_x_10.below hb
    have h_d_11 := h_d_10.below hb
    have h_c_11 := h_c_10.later hb
    have h_p_11 := h_p_10.later hb
    have h_y_11 := h_y_10.later hb
    have h_am_11 := h_am_10.below hb
    have h_ad_11 := h_ad_10.below hb
    have h_ar_11 := h_ar_10.later hb
    have h_bb_11 := h_bb_10.trans (hb.mono h_bb_10.size)
    have h_o_11 := h_o_10.below hb
    have h_t_11 := h_t_10.later hb
    have h_eb_11 := h_eb_10.trans (hb.mono h_eb_10.size)
    have h_e_11 := h_e_10.below hb
    clear hb B10 h_s_10 h_x_10 h_d_10 h_c_10 h_p_10 h_y_10 h_am_10 h_ad_10 h_ar_10 h_bb_10 h_o_10 h_t_10 h_eb_10 h_e_10
    refine wp_region_held_drew (S := (fun w' => w'.cell? ⟨w.heap.size + 1 + 1, 0, none⟩ = some (.slice (some ⟨b8, o8, none⟩) n_x c_x) ∧ w'.cell? ⟨b8, o8 + b, none⟩ = some (.int .u8 ((x : Nat) : Int)) ∧ w'.cell? ⟨w.heap.size + 1, 0, none⟩ = some (.int .u8 ((p.low : Nat) : Int)) ∧ w'.cell? ⟨w.heap.size + 1, 1, none⟩ = some (.int .u8 ((p.high : Nat) : Int)) ∧ True)) (by kernel_rfl) ?_ (fun hHeld => ?_)
    · exact ⟨ky, kx, kp0, kp1, trivial⟩
    generalize wo_e.drew = w11 at *
    refine wpAnyH_take (i := 0) (oi := ?oir2_0) (v := ?vr2_0) ?hir2_0 (by kernel_rfl) (by kernel_rfl) (by kernel_rfl) ?hqr2_0 ?hyr2_0 (by assumption) ?restr2_0
    case hir2_0 => simp only [List.getElem?_toArray, List.getElem?_cons_succ, List.getElem?_cons_zero]; rfl
    case hqr2_0 => exact fun _ _ _ h => h
    case hyr2_0 => (refine Or.inl ⟨by rfl, ?_⟩; intro w hSw; (try dsimp only at hSw); go_simp; all_goals with_reducible rfl)
    try simp only [Act.put, List.setIfInBounds_toArray, List.set_cons_zero, List.set_cons_succ]
    refine wpAnyH_take (i := 1) (oi := ?oir2_1) (v := ?vr2_1) ?hir2_1 (by kernel_rfl) (by kernel_rfl) (by kernel_rfl) ?hqr2_1 ?hyr2_1 (by assumption) ?restr2_1
    case hir2_1 => simp only [List.getElem?_toArray, List.getElem?_cons_succ, List.getElem?_cons_zero]; rfl
    case hqr2_1 => exact fun _ _ _ h => h
    case hyr2_1 => (refine Or.inl ⟨by rfl, ?_⟩; intro w hSw; (try dsimp only at hSw); go_simp; all_goals with_reducible rfl)
    try simp only [Act.put, List.setIfInBounds_toArray, List.set_cons_zero, List.set_cons_succ]
    refine wpAnyH_take (i := 2) (oi := ?oir2_2) (v := ?vr2_2) ?hir2_2 (by kernel_rfl) (by kernel_rfl) (by kernel_rfl) ?hqr2_2 ?hyr2_2 (by assumption) ?restr2_2
    case hir2_2 => simp only [List.getElem?_toArray, List.getElem?_cons_succ, List.getElem?_cons_zero]; rfl
    case hqr2_2 => exact fun _ _ _ h => h
    case hyr2_2 => (refine Or.inl ⟨by rfl, ?_⟩; intro w hSw; (try dsimp only at hSw); go_simp; all_goals with_reducible rfl)
    try simp only [Act.put, List.setIfInBounds_toArray, List.set_cons_zero, List.set_cons_succ]
    refine wpAnyH_take (i := 3) (oi := ?oir2_3) (v := ?vr2_3) ?hir2_3 (by kernel_rfl) (by kernel_rfl) (by kernel_rfl) ?hqr2_3 ?hyr2_3 (by assumption) ?restr2_3
    case hir2_3 => simp only [List.getElem?_toArray, List.getElem?_cons_succ, List.getElem?_cons_zero]; rfl
    case hqr2_3 => exact fun _ _ _ h => h
    case hyr2_3 => (refine Or.inl ⟨by rfl, ?_⟩; intro w hSw; (try dsimp only at hSw); go_simp; all_goals with_reducible rfl)
    try simp only [Act.put, List.setIfInBounds_toArray, List.set_cons_zero, List.set_cons_succ]
    refine wpAnyH_take (i := 4) (oi := ?oir2_4) (v := ?vr2_4) ?hir2_4 (by kernel_rfl) (by kernel_rfl) (by kernel_rfl) ?hqr2_4 ?hyr2_4 (by assumption) ?restr2_4
    case hir2_4 => simp only [List.getElem?_toArray, List.getElem?_cons_succ, List.getElem?_cons_zero]; rfl
    case hqr2_4 => exact fun _ _ _ h => h
    case hyr2_4 => (refine Or.inl ⟨by rfl, ?_⟩; intro w hSw; (try dsimp only at hSw); go_simp; all_goals with_reducible rfl)
    try simp only [Act.put, List.setIfInBounds_toArray, List.set_cons_zero, List.set_cons_succ]
    refine wpAnyH_take (i := 5) (oi := ?oir2_5) (v := ?vr2_5) ?hir2_5 (by kernel_rfl) (by kernel_rfl) (by kernel_rfl) ?hqr2_5 ?hyr2_5 (by assumption) ?restr2_5
    case hir2_5 => simp only [List.getElem?_toArray, List.getElem?_cons_succ, List.getElem?_cons_zero]; rfl
    case hqr2_5 => exact fun _ _ _ h => h
    case hyr2_5 => (refine Or.inl ⟨by rfl, ?_⟩; intro w hSw; (try dsimp only at hSw); go_simp; all_goals with_reducible rfl)
    try simp only [Act.put, List.setIfInBounds_toArray, List.set_cons_zero, List.set_cons_succ]
    refine wpAnyH_take (i := 6) (oi := ?oir2_6) (v := ?vr2_6) ?hir2_6 (by kernel_rfl) (by kernel_rfl) (by kernel_rfl) ?hqr2_6 ?hyr2_6 (by assumption) ?restr2_6
    case hir2_6 => simp only [List.getElem?_toArray, List.getElem?_cons_succ, List.getElem?_cons_zero]; rfl
    case hqr2_6 => exact fun _ _ _ h => h
    case hyr2_6 => (refine Or.inl ⟨by rfl, ?_⟩; intro w hSw; (try dsimp only at hSw); go_simp; all_goals with_reducible rfl)
    try simp only [Act.put, List.setIfInBounds_toArray, List.set_cons_zero, List.set_cons_succ]
    refine wpAnyH_take (i := 7) (oi := ?oir2_7) (v := ?vr2_7) ?hir2_7 (by kernel_rfl) (by kernel_rfl) (by kernel_rfl) ?hqr2_7 ?hyr2_7 (by assumption) ?restr2_7
    case hir2_7 => simp only [List.getElem?_toArray, List.getElem?_cons_succ, List.getElem?_cons_zero]; rfl
    case hqr2_7 => exact fun _ _ _ h => h
    case hyr2_7 => (refine Or.inl ⟨by rfl, ?_⟩; intro w hSw; (try dsimp only at hSw); go_simp; all_goals with_reducible rfl)
    try simp only [Act.put, List.setIfInBounds_toArray, List.set_cons_zero, List.set_cons_succ]
    refine wpAnyH_take (i := 8) (oi := ?oir2_8) (v := ?vr2_8) ?hir2_8 (by kernel_rfl) (by kernel_rfl) (by kernel_rfl) ?hqr2_8 ?hyr2_8 (by assumption) ?restr2_8
    case hir2_8 => simp only [List.getElem?_toArray, List.getElem?_cons_succ, List.getElem?_cons_zero]; rfl
    case hqr2_8 => exact fun _ _ _ h => h
    case hyr2_8 => (refine Or.inl ⟨by rfl, ?_⟩; intro w hSw; (try dsimp only at hSw); go_simp; all_goals with_reducible rfl)
    try simp only [Act.put, List.setIfInBounds_toArray, List.set_cons_zero, List.set_cons_succ]
    refine wpAnyH_done (by kernel_rfl) ?_ _
    clear hHeld ky kx kp0 kp1
    clear d5
    go_upto_region 17 with fail
    by_cases c2 : x < p.low
    case pos =>
      have d6 : decide (x < p.low) = true := decide_eq_true c2
      have HC2 := Lib.hid c2
      clear c2
      obtain ⟨b8', o8', e9, kx, -⟩ := h_x_11.cell b hbn
      simp only [Option.some.injEq, Addr.mk.injEq, and_true] at e9
      obtain ⟨rfl, rfl⟩ := e9
      rw [HX.out] at kx
      have ky := h_y_11.cell 0 _ rfl
      have kp0 := h_p_11.cell 0 _ rfl
      have kp1 := h_p_11.cell 1 _ rfl
      have hb := (Below.refl w11.heap.size w11).drew
      replace ky := cell_below hb ky
      replace kx := cell_below hb kx
      replace kp0 := cell_below hb kp0
      replace kp1 := cell_below hb kp1
      have B12 := B11.trans (hb.mono B11.size)
      have h_s_12 := h_s_11.below hb
      have h_x_12 := h_x_11.below hb
      have h_d_12 := h_d_11.below hb
      have h_c_12 := h_c_11.later hb
      have h_p_12 := h_p_11.later hb
      have h_y_12 := h_y_11.later hb
      have h_am_12 := h_am_11.below hb
      have h_ad_12 := h_ad_11.below hb
      have h_ar_12 := h_ar_11.later hb
      have h_bb_12 := h_bb_11.trans (hb.mono h_bb_11.size)
      have h_o_12 := h_o_11.below hb
      have h_t_12 := h_t_11.later hb
      have h_eb_12 := h_eb_11.trans (hb.mono h_eb_11.size)
      have h_e_12 := h_e_11.below hb
      clear hb B11 h_s_11 h_x_11 h_d_11 h_c_11 h_p_11 h_y_11 h_am_11 h_ad_11 h_ar_11 h_bb_11 h_o_11 h_t_11 h_eb_11 h_e_11
      refine wp_region_held_drew (S := (fun w' => w'.cell? ⟨w.heap.size + 1 + 1, 0, none⟩ = some (.slice (some ⟨b8, o8, none⟩) n_x c_x) ∧ w'.cell? ⟨b8, o8 + b, none⟩ = some (.int .u8 ((x : Nat) : Int)) ∧ w'.cell? ⟨w.heap.size + 1, 0, none⟩ = some (.int .u8 ((p.low : Nat) : Int)) ∧ w'.cell? ⟨w.heap.size + 1, 1, none⟩ = some (.int .u8 ((p.high : Nat) : Int)) ∧ True)) (by kernel_rfl) ?_ (fun hHeld => ?_)
      · exact ⟨ky, kx, kp0, kp1, trivial⟩
      generalize w11.drew = w12 at *
      refine wpAnyH_take (i := 0) (oi := ?oir3_0) (v := ?vr3_0) ?hir3_0 (by kernel_rfl) (by kernel_rfl) (by kernel_rfl) ?hqr3_0 ?hyr3_0 (by assumption) ?restr3_0
      case hir3_0 => simp only [List.getElem?_toArray, List.getElem?_cons_succ, List.getElem?_cons_zero]; rfl
      case hqr3_0 => exact fun _ _ _ h => h
      case hyr3_0 => (refine Or.inl ⟨by rfl, ?_⟩; intro w hSw; (try dsimp only at hSw); go_simp; all_goals with_reducible rfl)
      try simp only [Act.put, List.setIfInBounds_toArray, List.set_cons_zero, List.set_cons_succ]
      refine wpAnyH_take (i := 1) (oi := ?oir3_1) (v := ?vr3_1) ?hir3_1 (by kernel_rfl) (by kernel_rfl) (by kernel_rfl) ?hqr3_1 ?hyr3_1 (by assumption) ?restr3_1
      case hir3_1 => simp only [List.getElem?_toArray, List.getElem?_cons_succ, List.getElem?_cons_zero]; rfl
      case hqr3_1 => exact fun _ _ _ h => h
      case hyr3_1 => (refine Or.inl ⟨by rfl, ?_⟩; intro w hSw; (try dsimp only at hSw); go_simp; all_goals with_reducible rfl)
      try simp only [Act.put, List.setIfInBounds_toArray, List.set_cons_zero, List.set_cons_succ]
      refine wpAnyH_take (i := 2) (oi := ?oir3_2) (v := ?vr3_2) ?hir3_2 (by kernel_rfl) (by kernel_rfl) (by kernel_rfl) ?hqr3_2 ?hyr3_2 (by assumption) ?restr3_2
      case hir3_2 => simp only [List.getElem?_toArray, List.getElem?_cons_succ, List.getElem?_cons_zero]; rfl
      case hqr3_2 => exact fun _ _ _ h => h
      case hyr3_2 => (refine Or.inl ⟨by rfl, ?_⟩; intro w hSw; (try dsimp only at hSw); go_simp; all_goals with_reducible rfl)
      try simp only [Act.put, List.setIfInBounds_toArray, List.set_cons_zero, List.set_cons_succ]
      refine wpAnyH_take (i := 3) (oi := ?oir3_3) (v := ?vr3_3) ?hir3_3 (by kernel_rfl) (by kernel_rfl) (by kernel_rfl) ?hqr3_3 ?hyr3_3 (by assumption) ?restr3_3
      case hir3_3 => simp only [List.getElem?_toArray, List.getElem?_cons_succ, List.getElem?_cons_zero]; rfl
      case hqr3_3 => exact fun _ _ _ h => h
      case hyr3_3 => (refine Or.inl ⟨by rfl, ?_⟩; intro w hSw; (try dsimp only at hSw); go_simp; all_goals with_reducible rfl)
      try simp only [Act.put, List.setIfInBounds_toArray, List.set_cons_zero, List.set_cons_succ]
      refine wpAnyH_take (i := 4) (oi := ?oir3_4) (v := ?vr3_4) ?hir3_4 (by kernel_rfl) (by kernel_rfl) (by kernel_rfl) ?hqr3_4 ?hyr3_4 (by assumption) ?restr3_4
      case hir3_4 => simp only [List.getElem?_toArray, List.getElem?_cons_succ, List.getElem?_cons_zero]; rfl
      case hqr3_4 => exact fun _ _ _ h => h
      case hyr3_4 => (refine Or.inl ⟨by rfl, ?_⟩; intro w hSw; (try dsimp only at hSw); go_simp; all_goals with_reducible rfl)
      try simp only [Act.put, List.setIfInBounds_toArray, List.set_cons_zero, List.set_cons_succ]
      refine wpAnyH_take (i := 5) (oi := ?oir3_5) (v := ?vr3_5) ?hir3_5 (by kernel_rfl) (by kernel_rfl) (by kernel_rfl) ?hqr3_5 ?hyr3_5 (by assumption) ?restr3_5
      case hir3_5 => simp only [List.getElem?_toArray, List.getElem?_cons_succ, List.getElem?_cons_zero]; rfl
      case hqr3_5 => exact fun _ _ _ h => h
      case hyr3_5 => (refine Or.inl ⟨by rfl, ?_⟩; intro w hSw; (try dsimp only at hSw); go_simp; all_goals with_reducible rfl)
      try simp only [Act.put, List.setIfInBounds_toArray, List.set_cons_zero, List.set_cons_succ]
      refine wpAnyH_take (i := 6) (oi := ?oir3_6) (v := ?vr3_6) ?hir3_6 (by kernel_rfl) (by kernel_rfl) (by kernel_rfl) ?hqr3_6 ?hyr3_6 (by assumption) ?restr3_6
      case hir3_6 => simp only [List.getElem?_toArray, List.getElem?_cons_succ, List.getElem?_cons_zero]; rfl
      case hqr3_6 => exact fun _ _ _ h => h
      case hyr3_6 => (refine Or.inl ⟨by rfl, ?_⟩; intro w hSw; (try dsimp only at hSw); go_simp; all_goals with_reducible rfl)
      try simp only [Act.put, List.setIfInBounds_toArray, List.set_cons_zero, List.set_cons_succ]
      refine wpAnyH_take (i := 7) (oi := ?oir3_7) (v := ?vr3_7) ?hir3_7 (by kernel_rfl) (by kernel_rfl) (by kernel_rfl) ?hqr3_7 ?hyr3_7 (by assumption) ?restr3_7
      case hir3_7 => simp only [List.getElem?_toArray, List.getElem?_cons_succ, List.getElem?_cons_zero]; rfl
      case hqr3_7 => exact fun _ _ _ h => h
      case hyr3_7 => (refine Or.inl ⟨by rfl, ?_⟩; intro w hSw; (try dsimp only at hSw); go_simp; all_goals with_reducible rfl)
      try simp only [Act.put, List.setIfInBounds_toArray, List.set_cons_zero, List.set_cons_succ]
      refine wpAnyH_take (i := 8) (oi := ?oir3_8) (v := ?vr3_8) ?hir3_8 (by kernel_rfl) (by kernel_rfl) (by kernel_rfl) ?hqr3_8 ?hyr3_8 (by assumption) ?restr3_8
      case hir3_8 => simp only [List.getElem?_toArray, List.getElem?_cons_succ, List.getElem?_cons_zero]; rfl
      case hqr3_8 => exact fun _ _ _ h => h
      case hyr3_8 => (refine Or.inl ⟨by rfl, ?_⟩; intro w hSw; (try dsimp only at hSw); go_simp; all_goals with_reducible rfl)
      try simp only [Act.put, List.setIfInBounds_toArray, List.set_cons_zero, List.set_cons_succ]
      refine wpAnyH_done (by kernel_rfl) ?_ _
      clear hHeld ky kx kp0 kp1
      clear d6
      obtain ⟨-, ocs, hoc⟩ := ow_blk h_o_12
      have htg := blk_ne h_t_12.row hoc (by decide)
      have n_bb := h_bb_12.setCell (p := ⟨g, b, none⟩) HGB.out (.int .u8 0)
      have n_t := h_t_12.other (p := ⟨g, b, none⟩) htg HGB.out (.int .u8 0)
      have n_e := h_e_12.setHi hoc (by decide) (.int .u8 0) (i := b)
      have n_o : Ow .u8 5 _ (w12.setCell ⟨g, b, none⟩ (.int .u8 0)) (some ⟨g, 0, none⟩) n_x c_o (xs.set b 0) := h_o_12.set b 0 (by show 0 < 256; decide)
      have kt := h_t_12.cell 0 _ rfl
      have ko := h_o_12.at b hbn
      have fo := h_o_12.free b
      clear hoc htg
      go_upto_region 19 with fail
      clear kt ko fo
      clear h_s_12 h_x_12 h_d_12 h_c_12 h_p_12 h_y_12 h_am_12 h_ad_12 h_ar_12 h_bb_12 h_o_12 h_t_12 h_e_12 B12
      generalize w12.setCell ⟨g, b, none⟩ (.int .u8 0) = ws at *
      have h_c_13 := O_c.out.later n_bb
      have h_p_13 := O_p.out.later n_bb
      have h_y_13 := O_y.out.later n_bb
      have h_ar_13 := O_ar.out.later n_bb
      have h_s_13 := O_s.out.below n_bb
      have h_x_13 := O_x.out.below n_bb
      have h_d_13 := O_d.out.below n_bb
      have h_am_13 := O_am.out.below n_bb
      have h_ad_13 := O_ad.out.below n_bb
      have h_bb_13 := n_bb
      have h_t_13 := n_t
      have h_e_13 := n_e
      have h_o_13 := n_o
      have B13 := O_B.out.trans (n_bb.mono O_B.out.size)
      clear n_bb n_t n_e n_o
      have HR2 := Lib.hid (show readR nm ss seats rule p (xs.set b 0) ds = (⟨kq, mq, oq, dq⟩, 0) by
        have h1 := HC1.out
        have h2 := HMF.out
        have h3 := HC2.out
        rw [readR_steady (by rw [HRR.out]) (by rw [HXL.out]; exact hbn) (Nat.zero_le _) (by rw [HX.out]; unfold doubtB; rw [decide_eq_false (show ¬ p.low ≤ x by omega), Bool.false_and]) (by unfold doubtB; rw [decide_eq_false (show ¬ p.low ≤ 0 by omega), Bool.false_and]) (by rw [HX.out, decide_eq_false h1, decide_eq_false (show ¬ p.high ≤ 0 by omega)])]
        exact HRR.out)
      have k_c_0 := h_c_13.cell 0 _ rfl
      have k_c_1 := h_c_13.cell 1 _ rfl
      have k_c_2 := h_c_13.cell 2 _ rfl
      have k_c_3 := h_c_13.cell 3 _ rfl
      have k_p_0 := h_p_13.cell 0 _ rfl
      have k_p_1 := h_p_13.cell 1 _ rfl
      have k_p_2 := h_p_13.cell 2 _ rfl
      have k_t_0 := h_t_13.cell 0 _ rfl
      go_wp2_with fail
      clear k_c_0 k_c_1 k_c_2 k_c_3 k_p_0 k_p_1 k_p_2 k_t_0
      have c := Read_any ws nm h_s_13 seats hs1 hs2 rule hr p PWW.out h_o_13.rd h_e_13.rd (by omega) (by omega)
      rw [HR2.out] at c
      refine c.mono ?_
      rintro e w14 ⟨a_b, n_b, c_b, b_b, m_b, d_b, rfl, h_bm_14, h_bd_14, hap_b, hb⟩
      clear c
      have B14 := B13.trans (hb.mono B13.size)
      have h_s_14 := h_s_13.below hb
      have h_x_14 := h_x_13.below hb
      have h_d_14 := h_d_13.below hb
      have h_c_14 := h_c_13.later hb
      have h_p_14 := h_p_13.later hb
      have h_y_14 := h_y_13.later hb
      have h_am_14 := h_am_13.below hb
      have h_ad_14 := h_ad_13.below hb
      have h_ar_14 := h_ar_13.later hb
      have h_bb_14 := h_bb_13.trans (hb.mono h_bb_13.size)
      have h_o_14 := h_o_13.below hb
      have h_t_14 := h_t_13.later hb
      have h_e_14 := h_e_13.below hb
      clear hb B13 h_s_13 h_x_13 h_d_13 h_c_13 h_p_13 h_y_13 h_am_13 h_ad_13 h_ar_13 h_bb_13 h_o_13 h_t_13 h_e_13
      replace hap_b := Lib.hid hap_b
      have hb := below_al w14 (.cells #[.int .u8 ((kq : Nat) : Int), .slice a_b n_b c_b, .int .i64 oq, .slice b_b m_b d_b] 51)
      have B15 := B14.trans (hb.mono B14.size)
      have h_s_15 := h_s_14.below hb
      have h_x_15 := h_x_14.below hb
      have h_d_15 := h_d_14.below hb
      have h_c_15 := h_c_14.later hb
      have h_p_15 := h_p_14.later hb
      have h_y_15 := h_y_14.later hb
      have h_am_15 := h_am_14.below hb
      have h_ad_15 := h_ad_14.below hb
      have h_ar_15 := h_ar_14.later hb
      have h_bb_15 := h_bb_14.trans (hb.mono h_bb_14.size)
      have h_o_15 := h_o_14.below hb
      have h_t_15 := h_t_14.later hb
      have h_e_15 := h_e_14.below hb
      have h_bm_15 := h_bm_14.below hb
      have h_bd_15 := h_bd_14.below hb
      clear hb B14 h_s_14 h_x_14 h_d_14 h_c_14 h_p_14 h_y_14 h_am_14 h_ad_14 h_ar_14 h_bb_14 h_o_14 h_t_14 h_e_14 h_bm_14 h_bd_14
      have h_br_15 := PRow.new 51 w14 #[.int .u8 ((kq : Nat) : Int), .slice a_b n_b c_b, .int .i64 oq, .slice b_b m_b d_b]
      have hla : dq.length = m_a := h_ad_15.len
      have hlb : dq.length = m_b := h_bd_15.len
      obtain rfl : m_b = m_a := by omega
      have hmb : m_b ≤ 1000 := by rw [← hla, (readR_may HRR.out).2.2.2.2.2.2]; exact Nat.le_trans (dbtL_le _ _ _ _) (by rw [HXL.out]; omega)
      clear hla hlb
      have hw1 : IntKind.i64.wrap (((m_b : Nat) : Int) + ((n_d : Nat) : Int)) = ((m_b : Nat) : Int) + ((n_d : Nat) : Int) := wrap_in (by omega) (by omega)
      have hw2 : IntKind.i64.wrap (((m_b : Nat) : Int) + ((n_d : Nat) : Int) - ((n_d : Nat) : Int)) = ((m_b : Nat) : Int) := (congrArg IntKind.i64.wrap (by omega)).trans (wrap_in (z := ((m_b : Nat) : Int)) (by omega) (by omega))
      have e3 : (oq == oq) = true := by simp
      have k_ar_0 := h_ar_15.cell 0 _ rfl
      have k_ar_1 := h_ar_15.cell 1 _ rfl
      have k_ar_2 := h_ar_15.cell 2 _ rfl
      have k_ar_3 := h_ar_15.cell 3 _ rfl
      have k_br_0 := h_br_15.cell 0 _ rfl
      have k_br_1 := h_br_15.cell 1 _ rfl
      have k_br_2 := h_br_15.cell 2 _ rfl
      have k_br_3 := h_br_15.cell 3 _ rfl
      go_wp2_with first | refine wpList_store_new rfl 51 _ _ rfl atRea _ _ _ rfl rfl rfl rfl (rea_one _ _ _ _ _ _ _ _) ?_
      clear k_ar_0 k_ar_1 k_ar_2 k_ar_3 k_br_0 k_br_1 k_br_2 k_br_3
      generalize (w14.alloc (.cells #[.int .u8 ((kq : Nat) : Int), .slice a_b n_b c_b, .int .i64 oq, .slice b_b m_b d_b] 51)) = w15 at *
      have c := ballSame_any w15 kq hkq kq hkq (h_am_15.rd oneI) (h_bm_15.rd oneI)
      rw [show (decide (kq = kq) && decide (mq = mq)) = true by simp] at c
      refine c.mono ?_
      rintro e w16 ⟨rfl, hb⟩
      clear c
      have B16 := B15.trans (hb.mono B15.size)
      have h_s_16 := h_s_15.below hb
      have h_x_16 := h_x_15.below hb
      have h_d_16 := h_d_15.below hb
      have h_c_16 := h_c_15.later hb
      have h_p_16 := h_p_15.later hb
      have h_y_16 := h_y_15.later hb
      have h_am_16 := h_am_15.below hb
      have h_ad_16 := h_ad_15.below hb
      have h_ar_16 := h_ar_15.later hb
      have h_bb_16 := h_bb_15.trans (hb.mono h_bb_15.size)
      have h_o_16 := h_o_15.below hb
      have h_t_16 := h_t_15.later hb
      have h_e_16 := h_e_15.below hb
      have h_bm_16 := h_bm_15.below hb
      have h_bd_16 := h_bd_15.below hb
      have h_br_16 := h_br_15.later hb
      clear hb B15 h_s_15 h_x_15 h_d_15 h_c_15 h_p_15 h_y_15 h_am_15 h_ad_15 h_ar_15 h_bb_15 h_o_15 h_t_15 h_e_15 h_bm_15 h_bd_15 h_br_15
      have k_ar_0 := h_ar_16.cell 0 _ rfl
      have k_ar_1 := h_ar_16.cell 1 _ rfl
      have k_ar_2 := h_ar_16.cell 2 _ rfl
      have k_ar_3 := h_ar_16.cell 3 _ rfl
      have k_br_0 := h_br_16.cell 0 _ rfl
      have k_br_1 := h_br_16.cell 1 _ rfl
      have k_br_2 := h_br_16.cell 2 _ rfl
      have k_br_3 := h_br_16.cell 3 _ rfl
      go_wp2_with fail
      clear k_ar_0 k_ar_1 k_ar_2 k_ar_3 k_br_0 k_br_1 k_br_2 k_br_3
      go_ret
      exact ⟨rfl, B16⟩
    case neg =>
      have d6 : decide (x < p.low) = false := decide_eq_false c2
      have HC2 := Lib.hid c2
      clear c2
      obtain ⟨b8', o8', e9, kx, -⟩ := h_x_11.cell b hbn
      simp only [Option.some.injEq, Addr.mk.injEq, and_true] at e9
      obtain ⟨rfl, rfl⟩ := e9
      rw [HX.out] at kx
      have ky := h_y_11.cell 0 _ rfl
      have kp0 := h_p_11.cell 0 _ rfl
      have kp1 := h_p_11.cell 1 _ rfl
      have hb := (Below.refl w11.heap.size w11).drew
      replace ky := cell_below hb ky
      replace kx := cell_below hb kx
      replace kp0 := cell_below hb kp0
      replace kp1 := cell_below hb kp1
      have B12 := B11.trans (hb.mono B11.size)
      have h_s_12 := h_s_11.below hb
      have h_x_12 := h_x_11.below hb
      have h_d_12 := h_d_11.below hb
      have h_c_12 := h_c_11.later hb
      have h_p_12 := h_p_11.later hb
      have h_y_12 := h_y_11.later hb
      have h_am_12 := h_am_11.below hb
      have h_ad_12 := h_ad_11.below hb
      have h_ar_12 := h_ar_11.later hb
      have h_bb_12 := h_bb_11.trans (hb.mono h_bb_11.size)
      have h_o_12 := h_o_11.below hb
      have h_t_12 := h_t_11.later hb
      have h_eb_12 := h_eb_11.trans (hb.mono h_eb_11.size)
      have h_e_12 := h_e_11.below hb
      clear hb B11 h_s_11 h_x_11 h_d_11 h_c_11 h_p_11 h_y_11 h_am_11 h_ad_11 h_ar_11 h_bb_11 h_o_11 h_t_11 h_eb_11 h_e_11
      refine wp_region_held_drew (S := (fun w' => w'.cell? ⟨w.heap.size + 1 + 1, 0, none⟩ = some (.slice (some ⟨b8, o8, none⟩) n_x c_x) ∧ w'.cell? ⟨b8, o8 + b, none⟩ = some (.int .u8 ((x : Nat) : Int)) ∧ w'.cell? ⟨w.heap.size + 1, 0, none⟩ = some (.int .u8 ((p.low : Nat) : Int)) ∧ w'.cell? ⟨w.heap.size + 1, 1, none⟩ = some (.int .u8 ((p.high : Nat) : Int)) ∧ True)) (by kernel_rfl) ?_ (fun hHeld => ?_)
      · exact ⟨ky, kx, kp0, kp1, trivial⟩
      generalize w11.drew = w12 at *
      refine wpAnyH_take (i := 0) (oi := ?oir4_0) (v := ?vr4_0) ?hir4_0 (by kernel_rfl) (by kernel_rfl) (by kernel_rfl) ?hqr4_0 ?hyr4_0 (by assumption) ?restr4_0
      case hir4_0 => simp only [List.getElem?_toArray, List.getElem?_cons_succ, List.getElem?_cons_zero]; rfl
      case hqr4_0 => exact fun _ _ _ h => h
      case hyr4_0 => (refine Or.inl ⟨by rfl, ?_⟩; intro w hSw; (try dsimp only at hSw); go_simp; all_goals with_reducible rfl)
      try simp only [Act.put, List.setIfInBounds_toArray, List.set_cons_zero, List.set_cons_succ]
      refine wpAnyH_take (i := 1) (oi := ?oir4_1) (v := ?vr4_1) ?hir4_1 (by kernel_rfl) (by kernel_rfl) (by kernel_rfl) ?hqr4_1 ?hyr4_1 (by assumption) ?restr4_1
      case hir4_1 => simp only [List.getElem?_toArray, List.getElem?_cons_succ, List.getElem?_cons_zero]; rfl
      case hqr4_1 => exact fun _ _ _ h => h
      case hyr4_1 => (refine Or.inl ⟨by rfl, ?_⟩; intro w hSw; (try dsimp only at hSw); go_simp; all_goals with_reducible rfl)
      try simp only [Act.put, List.setIfInBounds_toArray, List.set_cons_zero, List.set_cons_succ]
      refine wpAnyH_take (i := 2) (oi := ?oir4_2) (v := ?vr4_2) ?hir4_2 (by kernel_rfl) (by kernel_rfl) (by kernel_rfl) ?hqr4_2 ?hyr4_2 (by assumption) ?restr4_2
      case hir4_2 => simp only [List.getElem?_toArray, List.getElem?_cons_succ, List.getElem?_cons_zero]; rfl
      case hqr4_2 => exact fun _ _ _ h => h
      case hyr4_2 => (refine Or.inl ⟨by rfl, ?_⟩; intro w hSw; (try dsimp only at hSw); go_simp; all_goals with_reducible rfl)
      try simp only [Act.put, List.setIfInBounds_toArray, List.set_cons_zero, List.set_cons_succ]
      refine wpAnyH_take (i := 3) (oi := ?oir4_3) (v := ?vr4_3) ?hir4_3 (by kernel_rfl) (by kernel_rfl) (by kernel_rfl) ?hqr4_3 ?hyr4_3 (by assumption) ?restr4_3
      case hir4_3 => simp only [List.getElem?_toArray, List.getElem?_cons_succ, List.getElem?_cons_zero]; rfl
      case hqr4_3 => exact fun _ _ _ h => h
      case hyr4_3 => (refine Or.inl ⟨by rfl, ?_⟩; intro w hSw; (try dsimp only at hSw); go_simp; all_goals with_reducible rfl)
      try simp only [Act.put, List.setIfInBounds_toArray, List.set_cons_zero, List.set_cons_succ]
      refine wpAnyH_take (i := 4) (oi := ?oir4_4) (v := ?vr4_4) ?hir4_4 (by kernel_rfl) (by kernel_rfl) (by kernel_rfl) ?hqr4_4 ?hyr4_4 (by assumption) ?restr4_4
      case hir4_4 => simp only [List.getElem?_toArray, List.getElem?_cons_succ, List.getElem?_cons_zero]; rfl
      case hqr4_4 => exact fun _ _ _ h => h
      case hyr4_4 => (refine Or.inl ⟨by rfl, ?_⟩; intro w hSw; (try dsimp only at hSw); go_simp; all_goals with_reducible rfl)
      try simp only [Act.put, List.setIfInBounds_toArray, List.set_cons_zero, List.set_cons_succ]
      refine wpAnyH_take (i := 5) (oi := ?oir4_5) (v := ?vr4_5) ?hir4_5 (by kernel_rfl) (by kernel_rfl) (by kernel_rfl) ?hqr4_5 ?hyr4_5 (by assumption) ?restr4_5
      case hir4_5 => simp only [List.getElem?_toArray, List.getElem?_cons_succ, List.getElem?_cons_zero]; rfl
      case hqr4_5 => exact fun _ _ _ h => h
      case hyr4_5 => (refine Or.inl ⟨by rfl, ?_⟩; intro w hSw; (try dsimp only at hSw); go_simp; all_goals with_reducible rfl)
      try simp only [Act.put, List.setIfInBounds_toArray, List.set_cons_zero, List.set_cons_succ]
      refine wpAnyH_take (i := 6) (oi := ?oir4_6) (v := ?vr4_6) ?hir4_6 (by kernel_rfl) (by kernel_rfl) (by kernel_rfl) ?hqr4_6 ?hyr4_6 (by assumption) ?restr4_6
      case hir4_6 => simp only [List.getElem?_toArray, List.getElem?_cons_succ, List.getElem?_cons_zero]; rfl
      case hqr4_6 => exact fun _ _ _ h => h
      case hyr4_6 => (refine Or.inl ⟨by rfl, ?_⟩; intro w hSw; (try dsimp only at hSw); go_simp; all_goals with_reducible rfl)
      try simp only [Act.put, List.setIfInBounds_toArray, List.set_cons_zero, List.set_cons_succ]
      refine wpAnyH_take (i := 7) (oi := ?oir4_7) (v := ?vr4_7) ?hir4_7 (by kernel_rfl) (by kernel_rfl) (by kernel_rfl) ?hqr4_7 ?hyr4_7 (by assumption) ?restr4_7
      case hir4_7 => simp only [List.getElem?_toArray, List.getElem?_cons_succ, List.getElem?_cons_zero]; rfl
      case hqr4_7 => exact fun _ _ _ h => h
      case hyr4_7 => (refine Or.inl ⟨by rfl, ?_⟩; intro w hSw; (try dsimp only at hSw); go_simp; all_goals with_reducible rfl)
      try simp only [Act.put, List.setIfInBounds_toArray, List.set_cons_zero, List.set_cons_succ]
      refine wpAnyH_take (i := 8) (oi := ?oir4_8) (v := ?vr4_8) ?hir4_8 (by kernel_rfl) (by kernel_rfl) (by kernel_rfl) ?hqr4_8 ?hyr4_8 (by assumption) ?restr4_8
      case hir4_8 => simp only [List.getElem?_toArray, List.getElem?_cons_succ, List.getElem?_cons_zero]; rfl
      case hqr4_8 => exact fun _ _ _ h => h
      case hyr4_8 => (refine Or.inl ⟨by rfl, ?_⟩; intro w hSw; (try dsimp only at hSw); go_simp; all_goals with_reducible rfl)
      try simp only [Act.put, List.setIfInBounds_toArray, List.set_cons_zero, List.set_cons_succ]
      refine wpAnyH_done (by kernel_rfl) ?_ _
      clear hHeld ky kx kp0 kp1
      clear d6
      go_wp2_with fail
      go_loopw [16] (fun jv wr => ∃ i : Nat, i ≤ n_d ∧ jv = .int .i64 (i : Nat) ∧ w12 = wr ∧ Hid (∀ m, m < i → ¬ (dth ds m).bx = (b : Int))) (fun jv _ => n_d - (intOf jv).toNat)
      case atStart => exact ⟨0, Nat.zero_le _, rfl, rfl, Lib.hid fun m hm => absurd hm (by omega)⟩
      case round =>
        rename World => wr
        obtain ⟨i, hi, rfl, rfl, hS⟩ := hrel
        by_cases hlt : i < n_d
        case pos =>
          obtain ⟨bd, od, rfl, hcc⟩ := h_d_12.addr (by omega)
          obtain ⟨kd0, -⟩ := hcc i hlt
          clear hcc
          obtain ⟨v, hv⟩ : ∃ v, (dth ds i).bx = v := ⟨_, rfl⟩
          rw [hv] at kd0
          have HV := Lib.hid hv
          clear hv
          by_cases e : v = (b : Int)
          case pos =>
            subst e
            have e1 : (((b : Nat) : Int) == ((b : Nat) : Int)) = true := by simp
            go_wp2_with fail
            go_ret
            exact ⟨rfl, B12⟩
          case neg =>
            have e1 : (v == ((b : Nat) : Int)) = false := by simpa using e
            have HE := Lib.hid e
            clear e
            go_wp2_with fail
            go_roundw
            case rel => exact ⟨i + 1, by omega, by go_num, trivial, Lib.hid fun m hm => by
                          by_cases hmi : m < i
                          · exact hS.out m hmi
                          · obtain rfl : m = i := by omega
                            rw [HV.out]; exact HE.out⟩
            case measure => simp [intOf]; omega
        case neg =>
          obtain rfl : n_d = i := by omega
          have HND := Lib.hid (show ∀ d ∈ ds, ¬ d.bx = ((b : Nat) : Int) from fun d hd => by
            obtain ⟨m, hm, rfl⟩ := dth_in hd
            exact hS.out m (by rw [← HDL.out]; exact hm))
          obtain ⟨⟨⟨k2, m2, o2, dq2⟩, er2⟩, hr2⟩ : ∃ r, readR nm ss seats rule p xs (ds ++ [⟨((b : Nat) : Int), false⟩]) = r := ⟨_, rfl⟩
          obtain ⟨f1, f2, f3, f4, f5, f6⟩ := readR_decide (nm := nm) (ss := ss) (seats := seats) (rule := rule) (p := p) (xs := xs) (l := ds) (k := b) (by rw [HRR.out]) (by rw [HXL.out]; exact hbn) (by rw [HX.out]; unfold doubtB; rw [decide_eq_true (show p.low ≤ x by have := HC2.out; omega), decide_eq_true (show x < p.high by have := HC1.out; omega)]; rfl) HND.out
          rw [hr2, HRR.out] at f2 f3 f4 f5
          rw [hr2] at f1
          simp only at f1 f2 f3 f4 f5
          subst f1
          obtain rfl : kq = k2 := f2.symm
          obtain rfl : mq = m2 := f3.symm
          obtain rfl : oq = o2 := f4.symm
          clear f2 f3 f4
          rw [HDL.out, HXL.out] at f6
          have HR2 := Lib.hid hr2
          have HLEN := Lib.hid f5
          clear hr2 f5
          have hal := below_al w12 (.cells #[.int .i64 ((b : Nat) : Int), .bool false] 58)
          have hoa := h_e_12.below hal
          have hr1 := rdD_one w12 ⟨((b : Nat) : Int), false⟩ ⟨by show -9223372036854775808 ≤ ((b : Nat) : Int); omega, by show ((b : Nat) : Int) ≤ 9223372036854775807; omega⟩
          have hsz := h_bb_12.size
          have hse := h_eb_12.size
          go_wp2_with (at_builtin; refine wpList_appD rfl _ _ rfl w9.heap.size rfl hoa rfl hr1 (by omega) (by rw [World.size_alloc]; omega) ?_; intro a_f c_f wf hown hg hbn; refine Hid.out ?_)
          have n_bb := h_bb_12.trans ((hal.mono hsz).trans (hbn.mono HEB.out))
          have n_t := (h_t_12.later hal).grownS (by decide) hoa.own hg (hbn.mono HEB.out)
          have n_o : Ow .u8 5 _ wf (some ⟨g, 0, none⟩) n_x c_o xs := ow_grownS (h_o_12.below hal) hoa.own (by decide) hg
          clear hg hbn hal hoa hr1 hsz hse
          clear h_s_12 h_x_12 h_d_12 h_c_12 h_p_12 h_y_12 h_am_12 h_ad_12 h_ar_12 h_bb_12 h_o_12 h_t_12 h_eb_12 h_e_12 B12
          have h_c_13 := O_c.out.later n_bb
          have h_p_13 := O_p.out.later n_bb
          have h_y_13 := O_y.out.later n_bb
          have h_ar_13 := O_ar.out.later n_bb
          have h_s_13 := O_s.out.below n_bb
          have h_x_13 := O_x.out.below n_bb
          have h_d_13 := O_d.out.below n_bb
          have h_am_13 := O_am.out.below n_bb
          have h_ad_13 := O_ad.out.below n_bb
          have h_bb_13 := n_bb
          have h_t_13 := n_t
          have h_o_13 := n_o
          have h_e_13 := hown
          have B13 := O_B.out.trans (n_bb.mono O_B.out.size)
          clear n_bb n_t n_o hown
          refine Lib.hid ?_
          have k_c_0 := h_c_13.cell 0 _ rfl
          have k_c_1 := h_c_13.cell 1 _ rfl
          have k_c_2 := h_c_13.cell 2 _ rfl
          have k_c_3 := h_c_13.cell 3 _ rfl
          have k_p_0 := h_p_13.cell 0 _ rfl
          have k_p_1 := h_p_13.cell 1 _ rfl
          have k_p_2 := h_p_13.cell 2 _ rfl
          have k_t_0 := h_t_13.cell 0 _ rfl
          go_wp2_with fail
          clear k_c_0 k_c_1 k_c_2 k_c_3 k_p_0 k_p_1 k_p_2 k_t_0
          have c := Read_any wf nm h_s_13 seats hs1 hs2 rule hr p PWW.out h_o_13.rd h_e_13.rd (by omega) (by omega)
          rw [HR2.out] at c
          refine c.mono ?_
          rintro e w14 ⟨a_b, n_b, c_b, b_b, m_b, d_b, rfl, h_bm_14, h_bd_14, hap_b, hb⟩
          clear c
          have B14 := B13.trans (hb.mono B13.size)
          have h_s_14 := h_s_13.below hb
          have h_x_14 := h_x_13.below hb
          have h_d_14 := h_d_13.below hb
          have h_c_14 := h_c_13.later hb
          have h_p_14 := h_p_13.later hb
          have h_y_14 := h_y_13.later hb
          have h_am_14 := h_am_13.below hb
          have h_ad_14 := h_ad_13.below hb
          have h_ar_14 := h_ar_13.later hb
          have h_bb_14 := h_bb_13.trans (hb.mono h_bb_13.size)
          have h_o_14 := h_o_13.below hb
          have h_t_14 := h_t_13.later hb
          have h_e_14 := h_e_13.below hb
          clear hb B13 h_s_13 h_x_13 h_d_13 h_c_13 h_p_13 h_y_13 h_am_13 h_ad_13 h_ar_13 h_bb_13 h_o_13 h_t_13 h_e_13
          replace hap_b := Lib.hid hap_b
          have hb := below_al w14 (.cells #[.int .u8 ((kq : Nat) : Int), .slice a_b n_b c_b, .int .i64 oq, .slice b_b m_b d_b] 51)
          have B15 := B14.trans (hb.mono B14.size)
          have h_s_15 := h_s_14.below hb
          have h_x_15 := h_x_14.below hb
          have h_d_15 := h_d_14.below hb
          have h_c_15 := h_c_14.later hb
          have h_p_15 := h_p_14.later hb
          have h_y_15 := h_y_14.later hb
          have h_am_15 := h_am_14.below hb
          have h_ad_15 := h_ad_14.below hb
          have h_ar_15 := h_ar_14.later hb
          have h_bb_15 := h_bb_14.trans (hb.mono h_bb_14.size)
          have h_o_15 := h_o_14.below hb
          have h_t_15 := h_t_14.later hb
          have h_e_15 := h_e_14.below hb
          have h_bm_15 := h_bm_14.below hb
          have h_bd_15 := h_bd_14.below hb
          clear hb B14 h_s_14 h_x_14 h_d_14 h_c_14 h_p_14 h_y_14 h_am_14 h_ad_14 h_ar_14 h_bb_14 h_o_14 h_t_14 h_e_14 h_bm_14 h_bd_14
          have h_br_15 := PRow.new 51 w14 #[.int .u8 ((kq : Nat) : Int), .slice a_b n_b c_b, .int .i64 oq, .slice b_b m_b d_b]
          have hla : dq.length = m_a := h_ad_15.len
          have hlb : dq2.length = m_b := h_bd_15.len
          obtain rfl : m_a = m_b + 1 := by have := HLEN.out; omega
          have hmb : m_b + 1 ≤ 1000 := by rw [← hla, (readR_may HRR.out).2.2.2.2.2.2]; exact Nat.le_trans (dbtL_le _ _ _ _) (by rw [HXL.out]; omega)
          clear hla hlb
          have hw1 : IntKind.i64.wrap (((m_b : Nat) : Int) + ((n_d + 1 : Nat) : Int)) = ((m_b : Nat) : Int) + ((n_d + 1 : Nat) : Int) := wrap_in (by omega) (by omega)
          have hw1b : IntKind.i64.wrap (((m_b : Nat) : Int) + (((n_d : Nat) : Int) + 1)) = ((m_b : Nat) : Int) + (((n_d : Nat) : Int) + 1) := wrap_in (by omega) (by omega)
          have hw2 : IntKind.i64.wrap (((m_b : Nat) : Int) + ((n_d + 1 : Nat) : Int) - ((n_d : Nat) : Int)) = ((m_b : Nat) : Int) + 1 := (congrArg IntKind.i64.wrap (by omega)).trans (wrap_in (z := ((m_b : Nat) : Int) + 1) (by omega) (by omega))
          have hw2b : IntKind.i64.wrap (((m_b : Nat) : Int) + (((n_d : Nat) : Int) + 1) - ((n_d : Nat) : Int)) = ((m_b : Nat) : Int) + 1 := (congrArg IntKind.i64.wrap (by omega)).trans (wrap_in (z := ((m_b : Nat) : Int) + 1) (by omega) (by omega))
          have e3 : (oq == oq) = true := by simp
          have k_ar_0 := h_ar_15.cell 0 _ rfl
          have k_ar_1 := h_ar_15.cell 1 _ rfl
          have k_ar_2 := h_ar_15.cell 2 _ rfl
          have k_ar_3 := h_ar_15.cell 3 _ rfl
          have k_br_0 := h_br_15.cell 0 _ rfl
          have k_br_1 := h_br_15.cell 1 _ rfl
          have k_br_2 := h_br_15.cell 2 _ rfl
          have k_br_3 := h_br_15.cell 3 _ rfl
          go_wp2_with first | refine wpList_store_new rfl 51 _ _ rfl atRea _ _ _ rfl rfl rfl rfl (rea_one _ _ _ _ _ _ _ _) ?_
          clear k_ar_0 k_ar_1 k_ar_2 k_ar_3 k_br_0 k_br_1 k_br_2 k_br_3
          generalize (w14.alloc (.cells #[.int .u8 ((kq : Nat) : Int), .slice a_b n_b c_b, .int .i64 oq, .slice b_b m_b d_b] 51)) = w15 at *
          have c := ballSame_any w15 kq hkq kq hkq (h_am_15.rd oneI) (h_bm_15.rd oneI)
          rw [show (decide (kq = kq) && decide (mq = mq)) = true by simp] at c
          refine c.mono ?_
          rintro e w16 ⟨rfl, hb⟩
          clear c
          have B16 := B15.trans (hb.mono B15.size)
          have h_s_16 := h_s_15.below hb
          have h_x_16 := h_x_15.below hb
          have h_d_16 := h_d_15.below hb
          have h_c_16 := h_c_15.later hb
          have h_p_16 := h_p_15.later hb
          have h_y_16 := h_y_15.later hb
          have h_am_16 := h_am_15.below hb
          have h_ad_16 := h_ad_15.below hb
          have h_ar_16 := h_ar_15.later hb
          have h_bb_16 := h_bb_15.trans (hb.mono h_bb_15.size)
          have h_o_16 := h_o_15.below hb
          have h_t_16 := h_t_15.later hb
          have h_e_16 := h_e_15.below hb
          have h_bm_16 := h_bm_15.below hb
          have h_bd_16 := h_bd_15.below hb
          have h_br_16 := h_br_15.later hb
          clear hb B15 h_s_15 h_x_15 h_d_15 h_c_15 h_p_15 h_y_15 h_am_15 h_ad_15 h_ar_15 h_bb_15 h_o_15 h_t_15 h_e_15 h_bm_15 h_bd_15 h_br_15
          have k_ar_0 := h_ar_16.cell 0 _ rfl
          have k_ar_1 := h_ar_16.cell 1 _ rfl
          have k_ar_2 := h_ar_16.cell 2 _ rfl
          have k_ar_3 := h_ar_16.cell 3 _ rfl
          have k_br_0 := h_br_16.cell 0 _ rfl
          have k_br_1 := h_br_16.cell 1 _ rfl
          have k_br_2 := h_br_16.cell 2 _ rfl
          have k_br_3 := h_br_16.cell 3 _ rfl
          go_wp2_with fail
          clear k_ar_0 k_ar_1 k_ar_2 k_ar_3 k_br_0 k_br_1 k_br_2 k_br_3
          go_ret
          exact ⟨rfl, B16⟩

end Go.Proofs.Ytlfempfhohejiaa
