/- The walk of the law SheetReads: it returns true and turns nothing that was there. No condition. Printed by gen_shelaws.py. -/
import Derived.Test.YtlfempfhohejiaaSheZ
import Derived.Laws.StructEq
import Derived.BigQuiet
import Derived.Deep.CutRange
namespace Go.Proofs.Ytlfempfhohejiaa
open Go.RowKit Go.Suf
set_option linter.unusedVariables false
set_option linter.unusedSimpArgs false

set_option maxRecDepth 100000 in
set_option maxHeartbeats 8000000 in
theorem sheetReads_walk (w : World) (nm : ByteArray) (hnl : nm.size ≤ maxLen) {a_s : Option Addr} {n_s c_s : Nat} {ss : List ByteArray} (h_s : RdS w a_s n_s c_s ss) (hsl : ∀ s ∈ ss, s.size ≤ maxLen) (seats : Int) (hs1 : -9223372036854775808 ≤ seats) (hs2 : seats ≤ 9223372036854775807) (rule : Nat) (hr : rule < 256) (p : PQ) (pw : PW p) {a_x : Option Addr} {n_x c_x : Nat} {xs : List Nat} (h_x : Rd .u8 w a_x n_x c_x xs) {a_d : Option Addr} {n_d c_d : Nat} {ds : List DQ} (h_d : RdD w a_d n_d c_d ds) :
    Calls Try.prog 5 #[.agg #[.string nm, .slice a_s n_s c_s, .int .i64 seats, .int .u8 ((rule : Nat) : Int)], .agg (polc p), .agg #[.slice a_x n_x c_x], .slice a_d n_d c_d] w fun e w' => e = .returned (.bool true) ∧ Below w.heap.size w w' := by
  have HN := Lib.hid h_s.len
  have hns := h_s.lt
  have HXL := Lib.hid h_x.len
  have HDL := Lib.hid h_d.len
  have hnx := h_x.lt
  have hnd := h_d.lt
  have PWW := Lib.hid pw
  have B0 : Below w.heap.size w w := Below.refl _ _
  have h_s_0 := h_s
  have h_x_0 := h_x
  have h_d_0 := h_d
  go_enter Try.func5, Try.ntmps5
  have hb := below_al w (.cells #[.string nm, .slice a_s n_s c_s, .int .i64 seats, .int .u8 ((rule : Nat) : Int)] 24)
  have B1 := B0.trans (hb.mono B0.size)
  have h_s_1 := h_s_0.below hb
  have h_x_1 := h_x_0.below hb
  have h_d_1 := h_d_0.below hb
  clear hb B0 h_s_0 h_x_0 h_d_0
  have h_c_1 := PRow.new 24 w #[.string nm, .slice a_s n_s c_s, .int .i64 seats, .int .u8 ((rule : Nat) : Int)]
  have hb := below_al (w.alloc (.cells #[.string nm, .slice a_s n_s c_s, .int .i64 seats, .int .u8 ((rule : Nat) : Int)] 24)) (.cells (polc p) 48)
  have B2 := B1.trans (hb.mono B1.size)
  have h_s_2 := h_s_1.below hb
  have h_x_2 := h_x_1.below hb
  have h_d_2 := h_d_1.below hb
  have h_c_2 := h_c_1.later hb
  clear hb B1 h_s_1 h_x_1 h_d_1 h_c_1
  have h_p_2 := PRow.new 48 (w.alloc (.cells #[.string nm, .slice a_s n_s c_s, .int .i64 seats, .int .u8 ((rule : Nat) : Int)] 24)) (polc p)
  simp only [World.size_alloc] at h_p_2
  have hb := below_al ((w.alloc (.cells #[.string nm, .slice a_s n_s c_s, .int .i64 seats, .int .u8 ((rule : Nat) : Int)] 24)).alloc (.cells (polc p) 48)) (.cells #[.slice a_x n_x c_x] 27)
  have B3 := B2.trans (hb.mono B2.size)
  have h_s_3 := h_s_2.below hb
  have h_x_3 := h_x_2.below hb
  have h_d_3 := h_d_2.below hb
  have h_c_3 := h_c_2.later hb
  have h_p_3 := h_p_2.later hb
  clear hb B2 h_s_2 h_x_2 h_d_2 h_c_2 h_p_2
  have h_y_3 := PRow.new 27 ((w.alloc (.cells #[.string nm, .slice a_s n_s c_s, .int .i64 seats, .int .u8 ((rule : Nat) : Int)] 24)).alloc (.cells (polc p) 48)) #[.slice a_x n_x c_x]
  simp only [World.size_alloc] at h_y_3
  have k_c_0 := h_c_3.cell 0 _ rfl
  have k_c_1 := h_c_3.cell 1 _ rfl
  have k_c_2 := h_c_3.cell 2 _ rfl
  have k_c_3 := h_c_3.cell 3 _ rfl
  go_wp2_with fail
  clear k_c_0 k_c_1 k_c_2 k_c_3
  generalize (((w.alloc (.cells #[.string nm, .slice a_s n_s c_s, .int .i64 seats, .int .u8 ((rule : Nat) : Int)] 24)).alloc (.cells (polc p) 48)).alloc (.cells #[.slice a_x n_x c_x] 27)) = w3 at *
  obtain ⟨gr, hgr⟩ : ∃ gr, greatC nm ss = gr := ⟨_, rfl⟩
  have GR := Lib.hid hgr
  clear hgr
  have c := Great_any w3 nm h_s_3 seats rule hr
  rw [GR.out] at c
  refine c.mono ?_
  rintro e w4 ⟨rfl, hb⟩
  clear c
  have B4 := B3.trans (hb.mono B3.size)
  have h_s_4 := h_s_3.below hb
  have h_x_4 := h_x_3.below hb
  have h_d_4 := h_d_3.below hb
  have h_c_4 := h_c_3.later hb
  have h_p_4 := h_p_3.later hb
  have h_y_4 := h_y_3.later hb
  clear hb B3 h_s_3 h_x_3 h_d_3 h_c_3 h_p_3 h_y_3
  cases gr with
  | true =>
    go_wp2_with fail
    go_ret
    exact ⟨rfl, B4⟩
  | false =>
    by_cases hb1 : 1000 < n_x
    case pos =>
      have hb1d : decide ((n_x : Int) > 1000) = true := decide_eq_true (by omega)
      have k_y_0 := h_y_4.cell 0 _ rfl
      go_wp2_with fail
      clear k_y_0
      go_ret
      exact ⟨rfl, B4⟩
    have hb1d : decide ((n_x : Int) > 1000) = false := decide_eq_false (by omega)
    by_cases hb2 : 1000 < n_d
    case pos =>
      have hb2d : decide ((n_d : Int) > 1000) = true := decide_eq_true (by omega)
      have k_y_0 := h_y_4.cell 0 _ rfl
      go_wp2_with fail
      clear k_y_0
      go_ret
      exact ⟨rfl, B4⟩
    have hb2d : decide ((n_d : Int) > 1000) = false := decide_eq_false (by omega)
    obtain ⟨⟨⟨kq, mq, oq, dq⟩, er⟩, hrr⟩ : ∃ r, readR nm ss seats rule p xs ds = r := ⟨_, rfl⟩
    have HRR := Lib.hid hrr
    have hkq : kq < 256 := readR_kd hrr
    clear hrr
    have hmk := World.ownsRow_made (e := 5) (size := 1) (base := w4.heap.size) w4 #[] 0 (Nat.le_refl _) (by decide) rfl
    have hbl := below_al w4 (.cells #[] 5)
    have k_y2 := (h_y_4.later hbl).cell 0 _ rfl
    have k_y_0 := h_y_4.cell 0 _ rfl
    go_wp2_with first | (at_builtin; refine wpList_app rfl _ _ 25 rfl etY w4.heap.size rfl hmk rfl (by simpa using h_x_4.len) (h_x_4.below hbl).sl (by unfold maxLen; omega) (by omega) (by simp) ?_; intro a_o c_o wo_o hown hg hbo; refine Hid.out ?_)
    clear k_y_0
    clear k_y2
    simp only [Nat.zero_add, List.nil_append] at hown ⊢
    have h_o_5 : Ow .u8 5 w4.heap.size wo_o a_o n_x c_o xs := ⟨h_x_4.len, hown, h_x_4.bd⟩
    have hb := hbl.trans hbo
    clear hown hg hbo hbl hmk
    have B5 := B4.trans (hb.mono B4.size)
    have h_s_5 := h_s_4.below hb
    have h_x_5 := h_x_4.below hb
    have h_d_5 := h_d_4.below hb
    have h_c_5 := h_c_4.later hb
    have h_p_5 := h_p_4.later hb
    have h_y_5 := h_y_4.later hb
    clear hb B4 h_s_4 h_x_4 h_d_4 h_c_4 h_p_4 h_y_4
    refine Lib.hid ?_
    have hb := below_al wo_o (.cells #[.slice a_o n_x c_o] 27)
    have B6 := B5.trans (hb.mono B5.size)
    have h_s_6 := h_s_5.below hb
    have h_x_6 := h_x_5.below hb
    have h_d_6 := h_d_5.below hb
    have h_c_6 := h_c_5.later hb
    have h_p_6 := h_p_5.later hb
    have h_y_6 := h_y_5.later hb
    have h_o_6 := h_o_5.below hb
    clear hb B5 h_s_5 h_x_5 h_d_5 h_c_5 h_p_5 h_y_5 h_o_5
    have h_t_6 := PRow.new 27 wo_o #[.slice a_o n_x c_o]
    go_upto_region 4 with (first | refine wpList_store_new rfl 27 _ _ rfl atShe _ _ _ rfl rfl rfl rfl (she_one _ _ _) ?_)
    generalize (wo_o.alloc (.cells #[.slice a_o n_x c_o] 27)) = w6 at *
    have hmk := owD_made w6
    have hbl := below_al w6 (.cells #[] 58)
    have hrd := h_d_6.below hbl
    go_wp2_with (at_builtin; refine wpList_appD rfl _ _ rfl w6.heap.size rfl hmk rfl hrd (by omega) hbl.size ?_; intro a_e c_e wo_e hown hg hbo; refine Hid.out ?_)
    simp only [Nat.zero_add, List.nil_append] at hown ⊢
    have hb := hbl.trans hbo
    clear hg hbo hbl hmk hrd
    have B7 := B6.trans (hb.mono B6.size)
    have h_s_7 := h_s_6.below hb
    have h_x_7 := h_x_6.below hb
    have h_d_7 := h_d_6.below hb
    have h_c_7 := h_c_6.later hb
    have h_p_7 := h_p_6.later hb
    have h_y_7 := h_y_6.later hb
    have h_o_7 := h_o_6.below hb
    have h_t_7 := h_t_6.later hb
    clear hb B6 h_s_6 h_x_6 h_d_6 h_c_6 h_p_6 h_y_6 h_o_6 h_t_6
    have h_e_7 := hown
    clear hown
    refine Lib.hid ?_
    have k_c_0 := h_c_7.cell 0 _ rfl
    have k_c_1 := h_c_7.cell 1 _ rfl
    have k_c_2 := h_c_7.cell 2 _ rfl
    have k_c_3 := h_c_7.cell 3 _ rfl
    have k_p_0 := h_p_7.cell 0 _ rfl
    have k_p_1 := h_p_7.cell 1 _ rfl
    have k_p_2 := h_p_7.cell 2 _ rfl
    have k_t_0 := h_t_7.cell 0 _ rfl
    go_wp2_with fail
    clear k_c_0 k_c_1 k_c_2 k_c_3 k_p_0 k_p_1 k_p_2 k_t_0
    have O_y := Lib.hid h_y_7
    have O_t := Lib.hid h_t_7
    have O_x := Lib.hid h_x_7
    have O_d := Lib.hid h_d_7
    have O_o := Lib.hid h_o_7
    have O_e := Lib.hid h_e_7
    have O_B := Lib.hid B7
    have h_bb_7 := Below.refl wo_e.heap.size wo_e
    have c := Read_any wo_e nm h_s_7 seats hs1 hs2 rule hr p PWW.out h_o_7.rd h_e_7.rd (by omega) (by omega)
    rw [HRR.out] at c
    refine c.mono ?_
    rintro e w8 ⟨a_a, n_a, c_a, b_a, m_a, d_a, rfl, h_am_8, h_ad_8, hap_a, hb⟩
    clear c
    have B8 := B7.trans (hb.mono B7.size)
    have h_s_8 := h_s_7.below hb
    have h_x_8 := h_x_7.below hb
    have h_d_8 := h_d_7.below hb
    have h_c_8 := h_c_7.later hb
    have h_p_8 := h_p_7.later hb
    have h_y_8 := h_y_7.later hb
    have h_o_8 := h_o_7.below hb
    have h_t_8 := h_t_7.later hb
    have h_e_8 := h_e_7.below hb
    have h_bb_8 := h_bb_7.trans (hb.mono h_bb_7.size)
    clear hb B7 h_s_7 h_x_7 h_d_7 h_c_7 h_p_7 h_y_7 h_o_7 h_t_7 h_e_7 h_bb_7
    replace hap_a := Lib.hid hap_a
    have HB_a := Lib.hid h_bb_8
    have hb := below_al w8 (.cells #[.int .u8 ((kq : Nat) : Int), .slice a_a n_a c_a, .int .i64 oq, .slice b_a m_a d_a] 51)
    have B9 := B8.trans (hb.mono B8.size)
    have h_s_9 := h_s_8.below hb
    have h_x_9 := h_x_8.below hb
    have h_d_9 := h_d_8.below hb
    have h_c_9 := h_c_8.later hb
    have h_p_9 := h_p_8.later hb
    have h_y_9 := h_y_8.later hb
    have h_o_9 := h_o_8.below hb
    have h_t_9 := h_t_8.later hb
    have h_e_9 := h_e_8.below hb
    have h_bb_9 := h_bb_8.trans (hb.mono h_bb_8.size)
    have h_am_9 := h_am_8.below hb
    have h_ad_9 := h_ad_8.below hb
    clear hb B8 h_s_8 h_x_8 h_d_8 h_c_8 h_p_8 h_y_8 h_o_8 h_t_8 h_e_8 h_bb_8 h_am_8 h_ad_8
    have h_ar_9 := (PRow.new 51 w8 #[.int .u8 ((kq : Nat) : Int), .slice a_a n_a c_a, .int .i64 oq, .slice b_a m_a d_a]).base HB_a.out
    have k_c_0 := h_c_9.cell 0 _ rfl
    have k_c_1 := h_c_9.cell 1 _ rfl
    have k_c_2 := h_c_9.cell 2 _ rfl
    have k_c_3 := h_c_9.cell 3 _ rfl
    have k_p_0 := h_p_9.cell 0 _ rfl
    have k_p_1 := h_p_9.cell 1 _ rfl
    have k_p_2 := h_p_9.cell 2 _ rfl
    have k_y_0 := h_y_9.cell 0 _ rfl
    go_wp2_with first | refine wpList_store_new rfl 51 _ _ rfl atRea _ _ _ rfl rfl rfl rfl (rea_one _ _ _ _ _ _ _ _) ?_
    clear k_c_0 k_c_1 k_c_2 k_c_3 k_p_0 k_p_1 k_p_2 k_y_0
    generalize (w8.alloc (.cells #[.int .u8 ((kq : Nat) : Int), .slice a_a n_a c_a, .int .i64 oq, .slice b_a m_a d_a] 51)) = w9 at *
    have HDL6 := Lib.hid (fun (q : Addr) (e : b_a = some q) => h_ad_9.lt q e)
    have c := refRead_any w9 nm h_s_9 seats hs1 hs2 rule hr p PWW.out h_x_9 h_d_9 (by omega) (by omega)
    rw [HRR.out] at c
    refine c.mono ?_
    rintro e w10 ⟨a_b, n_b, c_b, b_b, m_b, d_b, rfl, h_bm_10, h_bd_10, hb⟩
    clear c
    have B10 := B9.trans (hb.mono B9.size)
    have h_s_10 := h_s_9.below hb
    have h_x_10 := h_x_9.below hb
    have h_d_10 := h_d_9.below hb
    have h_c_10 := h_c_9.later hb
    have h_p_10 := h_p_9.later hb
    have h_y_10 := h_y_9.later hb
    have h_o_10 := h_o_9.below hb
    have h_t_10 := h_t_9.later hb
    have h_e_10 := h_e_9.below hb
    have h_bb_10 := h_bb_9.trans (hb.mono h_bb_9.size)
    have h_am_10 := h_am_9.below hb
    have h_ad_10 := h_ad_9.below hb
    have h_ar_10 := h_ar_9.later hb
    clear hb B9 h_s_9 h_x_9 h_d_9 h_c_9 h_p_9 h_y_9 h_o_9 h_t_9 h_e_9 h_bb_9 h_am_9 h_ad_9 h_ar_9
    have HB_b := Lib.hid h_bb_10
    have hb := below_al w10 (.cells #[.int .u8 ((kq : Nat) : Int), .slice a_b n_b c_b, .int .i64 oq, .slice b_b m_b d_b] 51)
    have B11 := B10.trans (hb.mono B10.size)
    have h_s_11 := h_s_10.below hb
    have h_x_11 := h_x_10.below hb
    have h_d_11 := h_d_10.below hb
    have h_c_11 := h_c_10.later hb
    have h_p_11 := h_p_10.later hb
    have h_y_11 := h_y_10.later hb
    have h_o_11 := h_o_10.below hb
    have h_t_11 := h_t_10.later hb
    have h_e_11 := h_e_10.below hb
    have h_bb_11 := h_bb_10.trans (hb.mono h_bb_10.size)
    have h_am_11 := h_am_10.below hb
    have h_ad_11 := h_ad_10.below hb
    have h_ar_11 := h_ar_10.later hb
    have h_bm_11 := h_bm_10.below hb
    have h_bd_11 := h_bd_10.below hb
    clear hb B10 h_s_10 h_x_10 h_d_10 h_c_10 h_p_10 h_y_10 h_o_10 h_t_10 h_e_10 h_bb_10 h_am_10 h_ad_10 h_ar_10 h_bm_10 h_bd_10
    have h_br_11 := (PRow.new 51 w10 #[.int .u8 ((kq : Nat) : Int), .slice a_b n_b c_b, .int .i64 oq, .slice b_b m_b d_b]).base HB_b.out
    have e0 : (er == er) = true := by simp
    have k_ar_0 := h_ar_11.cell 0 _ rfl
    have k_ar_1 := h_ar_11.cell 1 _ rfl
    have k_ar_2 := h_ar_11.cell 2 _ rfl
    have k_ar_3 := h_ar_11.cell 3 _ rfl
    have k_br_0 := h_br_11.cell 0 _ rfl
    have k_br_1 := h_br_11.cell 1 _ rfl
    have k_br_2 := h_br_11.cell 2 _ rfl
    have k_br_3 := h_br_11.cell 3 _ rfl
    go_wp2_with first | refine wpList_store_new rfl 51 _ _ rfl atRea _ _ _ rfl rfl rfl rfl (rea_one _ _ _ _ _ _ _ _) ?_
    clear k_ar_0 k_ar_1 k_ar_2 k_ar_3 k_br_0 k_br_1 k_br_2 k_br_3
    generalize (w10.alloc (.cells #[.int .u8 ((kq : Nat) : Int), .slice a_b n_b c_b, .int .i64 oq, .slice b_b m_b d_b] 51)) = w11 at *
    have c := readSame_any w11 kq hkq kq hkq (h_am_11.rd oneI) (h_bm_11.rd oneI) oq oq (h_ad_11.rd oneI) (h_bd_11.rd oneI)
    rw [same_true] at c
    refine c.mono ?_
    rintro e w12 ⟨rfl, hb⟩
    clear c
    have B12 := B11.trans (hb.mono B11.size)
    have h_s_12 := h_s_11.below hb
    have h_x_12 := h_x_11.below hb
    have h_d_12 := h_d_11.below hb
    have h_c_12 := h_c_11.later hb
    have h_p_12 := h_p_11.later hb
    have h_y_12 := h_y_11.later hb
    have h_o_12 := h_o_11.below hb
    have h_t_12 := h_t_11.later hb
    have h_e_12 := h_e_11.below hb
    have h_bb_12 := h_bb_11.trans (hb.mono h_bb_11.size)
    have h_am_12 := h_am_11.below hb
    have h_ad_12 := h_ad_11.below hb
    have h_ar_12 := h_ar_11.later hb
    have h_bm_12 := h_bm_11.below hb
    have h_bd_12 := h_bd_11.below hb
    have h_br_12 := h_br_11.later hb
    clear hb B11 h_s_11 h_x_11 h_d_11 h_c_11 h_p_11 h_y_11 h_o_11 h_t_11 h_e_11 h_bb_11 h_am_11 h_ad_11 h_ar_11 h_bm_11 h_bd_11 h_br_11
    go_wp2_with fail
    clear e0
    go_loopw [16] (fun jv wr => ∃ (i : Nat) (dl : List Int), i ≤ m_a ∧ jv = .int .i64 (i : Nat) ∧ Below wo_e.heap.size wo_e wr ∧ PRow 51 wo_e wr w8.heap.size #[.int .u8 ((kq : Nat) : Int), .slice a_a n_a c_a, .int .i64 oq, .slice b_a m_a d_a] ∧ PRow 51 wo_e wr w10.heap.size #[.int .u8 ((kq : Nat) : Int), .slice a_b n_b c_b, .int .i64 oq, .slice b_b m_b d_b] ∧ OwI wo_e.heap.size wr a_a n_a c_a mq ∧ OwI w9.heap.size wr a_b n_b c_b mq ∧ OwI wo_e.heap.size wr b_a m_a d_a dl) (fun jv _ => m_a - (intOf jv).toNat)
    case atStart => exact ⟨0, dq, Nat.zero_le _, rfl, h_bb_12, h_ar_12, h_br_12, h_am_12, h_bm_12, h_ad_12⟩
    clear h_s_12 h_x_12 h_d_12 h_c_12 h_p_12 h_y_12 h_o_12 h_t_12 h_e_12 h_bb_12 h_am_12 h_ad_12 h_ar_12 h_bm_12 h_bd_12 h_br_12 B12
    case round =>
      rename World => wr
      obtain ⟨i, dl, hi, rfl, BB, PA, PB, OA, OB, OD⟩ := hrel
      by_cases hlt : i < m_a
      case pos =>
        have hma := (OD.rd oneI).lt
        obtain ⟨gd, rfl, hge, hgl⟩ := OD.where (by omega)
        have kar := PA.cell 3 _ rfl
        have kd := OD.at 0 i hlt
        have fd := OD.free i
        obtain ⟨-, dcs, hdc⟩ := owI_blk OD
        have n1 := blk_ne PA.row hdc (by decide)
        have n2 := blk_ne PB.row hdc (by decide)
        have h6 : gd < w9.heap.size := HDL6.out _ rfl
        have BB2 := BB.setCell (p := ⟨gd, i, none⟩) hge (.int .i64 (-7))
        have PA2 := PA.other (p := ⟨gd, i, none⟩) n1 hge (.int .i64 (-7))
        have PB2 := PB.other (p := ⟨gd, i, none⟩) n2 hge (.int .i64 (-7))
        have OA2 := OA.alone (g := gd) i (.int .i64 (-7)) (fun q e => hap_a.out q ⟨gd, 0, none⟩ e rfl)
        have OB2 := OB.alone (g := gd) i (.int .i64 (-7)) (fun q e => by have h1 := OB.ge q e; omega)
        have OD2 := OD.set i (v := -7) (by unfold okI; omega)
        clear hdc n1 n2 h6 hge hgl BB PA PB OA OB OD
        go_wp2_with fail
        go_roundw
        case rel => exact ⟨i + 1, _, by omega, by go_num, BB2, PA2, PB2, OA2, OB2, OD2⟩
        case measure => simp [intOf]; omega
      case neg =>
        obtain rfl : m_a = i := by omega
        have B300 := O_B.out.trans (BB.mono O_B.out.size)
        have h_y_300 := O_y.out.later BB
        have h_t_300 := O_t.out.later BB
        have h_x_300 := O_x.out.below BB
        have h_d_300 := O_d.out.below BB
        have h_o_300 := O_o.out.below BB
        have h_e_300 := O_e.out.below BB
        have h_ar_300 := PA
        have h_br_300 := PB
        have h_am_300 := OA
        have h_bm_300 := OB
        clear BB PA PB OA OB OD
        have k_ar_0 := h_ar_300.cell 0 _ rfl
        have k_ar_1 := h_ar_300.cell 1 _ rfl
        have k_ar_2 := h_ar_300.cell 2 _ rfl
        have k_ar_3 := h_ar_300.cell 3 _ rfl
        have k_br_0 := h_br_300.cell 0 _ rfl
        have k_br_1 := h_br_300.cell 1 _ rfl
        have k_br_2 := h_br_300.cell 2 _ rfl
        have k_br_3 := h_br_300.cell 3 _ rfl
        go_wp2_with fail
        clear k_ar_0 k_ar_1 k_ar_2 k_ar_3 k_br_0 k_br_1 k_br_2 k_br_3
        have c := ballSame_any wr kq hkq kq hkq (h_am_300.rd oneI) (h_bm_300.rd oneI)
        rw [show (decide (kq = kq) && decide (mq = mq)) = true by simp] at c
        refine c.mono ?_
        rintro e w301 ⟨rfl, hb⟩
        clear c
        have B301 := B300.trans (hb.mono B300.size)
        have h_y_301 := h_y_300.later hb
        have h_t_301 := h_t_300.later hb
        have h_x_301 := h_x_300.below hb
        have h_d_301 := h_d_300.below hb
        have h_o_301 := h_o_300.below hb
        have h_e_301 := h_e_300.below hb
        have h_ar_301 := h_ar_300.later hb
        have h_br_301 := h_br_300.later hb
        have h_am_301 := h_am_300.below hb
        have h_bm_301 := h_bm_300.below hb
        clear hb B300 h_y_300 h_t_300 h_x_300 h_d_300 h_o_300 h_e_300 h_ar_300 h_br_300 h_am_300 h_bm_300
        go_wp2_with fail
        have H_y := Lib.hid h_y_301
        have H_t := Lib.hid h_t_301
        have H_x := Lib.hid h_x_301
        have H_d := Lib.hid h_d_301
        have H_o := Lib.hid h_o_301
        have H_e := Lib.hid h_e_301
        have H_B := Lib.hid B301
        clear h_y_301 h_t_301 h_x_301 h_d_301 h_o_301 h_e_301 h_ar_301 h_br_301 h_am_301 h_bm_301 B301
        go_loopw [15, 17] (fun s15 jv wz => ∃ k : Nat, k ≤ n_d ∧ jv = .int .i64 (k : Nat) ∧ s15 = .bool true ∧ Below w301.heap.size w301 wz) (fun _ jv _ => n_d - (intOf jv).toNat)
        case atStart => exact ⟨0, Nat.zero_le _, rfl, rfl, Below.refl _ _⟩
        case round =>
          rename World => wz
          obtain ⟨k, hk, rfl, rfl, BT⟩ := hrel
          by_cases hlt : k < n_d
          case pos =>
            have h_bt_600 := BT
            obtain ⟨bd, od, rfl, hcc⟩ := (H_d.out.below BT).addr (by omega)
            obtain ⟨be, oe, rfl, hce⟩ := (H_e.out.below BT).rd.addr (by omega)
            obtain ⟨kd0, kd1⟩ := hcc k hlt
            obtain ⟨ke0, ke1⟩ := hce k hlt
            obtain ⟨v, hv⟩ : ∃ v, (dth ds k).bx = v := ⟨_, rfl⟩
            obtain ⟨y, hy⟩ : ∃ y, (dth ds k).yes = y := ⟨_, rfl⟩
            rw [hv] at kd0 ke0
            rw [hy] at kd1 ke1
            have B600 := H_B.out.trans (BT.mono H_B.out.size)
            clear hcc hce hv hy BT
            go_upto_region 16 with fail
            have hb := (Below.refl wz.heap.size wz).drew
            replace kd0 := cell_below hb kd0
            replace kd1 := cell_below hb kd1
            replace ke0 := cell_below hb ke0
            replace ke1 := cell_below hb ke1
            have B601 := B600.trans (hb.mono B600.size)
            have h_bt_601 := h_bt_600.trans (hb.mono h_bt_600.size)
            clear hb B600 h_bt_600
            refine wp_region_held_drew (S := (fun w' => w'.cell? ⟨bd, od + k * 2, none⟩ = some (.int .i64 v) ∧ w'.cell? ⟨bd, od + k * 2 + 1, none⟩ = some (.bool y) ∧ w'.cell? ⟨be, oe + k * 2, none⟩ = some (.int .i64 v) ∧ w'.cell? ⟨be, oe + k * 2 + 1, none⟩ = some (.bool y) ∧ True)) (by kernel_rfl) ?_ (fun hHeld => ?_)
            · exact ⟨kd0, kd1, ke0, ke1, trivial⟩
            generalize wz.drew = w601 at *
            refine wpAnyH_take (i := 0) (oi := ?oir1_0) (v := ?vr1_0) ?hir1_0 (by kernel_rfl) (by kernel_rfl) (by kernel_rfl) ?hqr1_0 ?hyr1_0 (by assumption) ?restr1_0
            case hir1_0 => simp only [List.getElem?_toArray, List.getElem?_cons_succ, List.getElem?_cons_zero]; rfl
            case hqr1_0 => exact fun _ _ _ h => h
            case hyr1_0 => (refine Or.inl ⟨by rfl, ?_⟩; intro w hSw; (try dsimp only at hSw); go_simp; all_goals with_reducible rfl)
            try simp only [Act.put, List.setIfInBounds_toArray, List.set_cons_zero, List.set_cons_succ]
            refine wpAnyH_take (i := 1) (oi := ?oir1_1) (v := ?vr1_1) ?hir1_1 (by kernel_rfl) (by kernel_rfl) (by kernel_rfl) ?hqr1_1 ?hyr1_1 (by assumption) ?restr1_1
            case hir1_1 => simp only [List.getElem?_toArray, List.getElem?_cons_succ, List.getElem?_cons_zero]; rfl
            case hqr1_1 => exact fun _ _ _ h => h
            case hyr1_1 => (refine Or.inl ⟨by rfl, ?_⟩; intro w hSw; (try dsimp only at hSw); go_simp; all_goals with_reducible rfl)
            try simp only [Act.put, List.setIfInBounds_toArray, List.set_cons_zero, List.set_cons_succ]
            refine wpAnyH_take (i := 2) (oi := ?oir1_2) (v := ?vr1_2) ?hir1_2 (by kernel_rfl) (by kernel_rfl) (by kernel_rfl) ?hqr1_2 ?hyr1_2 (by assumption) ?restr1_2
            case hir1_2 => simp only [List.getElem?_toArray, List.getElem?_cons_succ, List.getElem?_cons_zero]; rfl
            case hqr1_2 => exact fun _ _ _ h => h
            case hyr1_2 => (refine Or.inl ⟨by rfl, ?_⟩; intro w hSw; (try dsimp only at hSw); go_simp; all_goals with_reducible rfl)
            try simp only [Act.put, List.setIfInBounds_toArray, List.set_cons_zero, List.set_cons_succ]
            refine wpAnyH_take (i := 3) (oi := ?oir1_3) (v := ?vr1_3) ?hir1_3 (by kernel_rfl) (by kernel_rfl) (by kernel_rfl) ?hqr1_3 ?hyr1_3 (by assumption) ?restr1_3
            case hir1_3 => simp only [List.getElem?_toArray, List.getElem?_cons_succ, List.getElem?_cons_zero]; rfl
            case hqr1_3 => exact fun _ _ _ h => h
            case hyr1_3 => (refine Or.inl ⟨by rfl, ?_⟩; intro w hSw; (try dsimp only at hSw); go_simp; all_goals with_reducible rfl)
            try simp only [Act.put, List.setIfInBounds_toArray, List.set_cons_zero, List.set_cons_succ]
            refine wpAnyH_take (i := 4) (oi := ?oir1_4) (v := ?vr1_4) ?hir1_4 (by kernel_rfl) (by kernel_rfl) (by kernel_rfl) ?hqr1_4 ?hyr1_4 (by assumption) ?restr1_4
            case hir1_4 => simp only [List.getElem?_toArray, List.getElem?_cons_succ, List.getElem?_cons_zero]; rfl
            case hqr1_4 => exact fun _ _ _ h => h
            case hyr1_4 => (refine Or.inl ⟨by rfl, ?_⟩; intro w hSw; (try dsimp only at hSw); go_simp; all_goals with_reducible rfl)
            try simp only [Act.put, List.setIfInBounds_toArray, List.set_cons_zero, List.set_cons_succ]
            refine wpAnyH_take (i := 5) (oi := ?oir1_5) (v := ?vr1_5) ?hir1_5 (by kernel_rfl) (by kernel_rfl) (by kernel_rfl) ?hqr1_5 ?hyr1_5 (by assumption) ?restr1_5
            case hir1_5 => simp only [List.getElem?_toArray, List.getElem?_cons_succ, List.getElem?_cons_zero]; rfl
            case hqr1_5 => exact fun _ _ _ h => h
            case hyr1_5 => (refine Or.inl ⟨by rfl, ?_⟩; intro w hSw; (try dsimp only at hSw); go_simp; all_goals with_reducible rfl)
            try simp only [Act.put, List.setIfInBounds_toArray, List.set_cons_zero, List.set_cons_succ]
            refine wpAnyH_take (i := 6) (oi := ?oir1_6) (v := ?vr1_6) ?hir1_6 (by kernel_rfl) (by kernel_rfl) (by kernel_rfl) ?hqr1_6 ?hyr1_6 (by assumption) ?restr1_6
            case hir1_6 => simp only [List.getElem?_toArray, List.getElem?_cons_succ, List.getElem?_cons_zero]; rfl
            case hqr1_6 => exact fun _ _ _ h => h
            case hyr1_6 => (refine Or.inl ⟨by rfl, ?_⟩; intro w hSw; (try dsimp only at hSw); go_simp; all_goals with_reducible rfl)
            try simp only [Act.put, List.setIfInBounds_toArray, List.set_cons_zero, List.set_cons_succ]
            refine wpAnyH_take (i := 7) (oi := ?oir1_7) (v := ?vr1_7) ?hir1_7 (by kernel_rfl) (by kernel_rfl) (by kernel_rfl) ?hqr1_7 ?hyr1_7 (by assumption) ?restr1_7
            case hir1_7 => simp only [List.getElem?_toArray, List.getElem?_cons_succ, List.getElem?_cons_zero]; rfl
            case hqr1_7 => exact fun _ _ _ h => h
            case hyr1_7 => (refine Or.inl ⟨by rfl, ?_⟩; intro w hSw; (try dsimp only at hSw); go_simp; all_goals with_reducible rfl)
            try simp only [Act.put, List.setIfInBounds_toArray, List.set_cons_zero, List.set_cons_succ]
            refine wpAnyH_take (i := 8) (oi := ?oir1_8) (v := ?vr1_8) ?hir1_8 (by kernel_rfl) (by kernel_rfl) (by kernel_rfl) ?hqr1_8 ?hyr1_8 (by assumption) ?restr1_8
            case hir1_8 => simp only [List.getElem?_toArray, List.getElem?_cons_succ, List.getElem?_cons_zero]; rfl
            case hqr1_8 => exact fun _ _ _ h => h
            case hyr1_8 => (refine Or.inl ⟨by rfl, ?_⟩; intro w hSw; (try dsimp only at hSw); go_simp; all_goals with_reducible rfl)
            try simp only [Act.put, List.setIfInBounds_toArray, List.set_cons_zero, List.set_cons_succ]
            refine wpAnyH_take (i := 9) (oi := ?oir1_9) (v := ?vr1_9) ?hir1_9 (by kernel_rfl) (by kernel_rfl) (by kernel_rfl) ?hqr1_9 ?hyr1_9 (by assumption) ?restr1_9
            case hir1_9 => simp only [List.getElem?_toArray, List.getElem?_cons_succ, List.getElem?_cons_zero]; rfl
            case hqr1_9 => exact fun _ _ _ h => h
            case hyr1_9 => (refine Or.inl ⟨by rfl, ?_⟩; intro w hSw; (try dsimp only at hSw); go_simp; all_goals with_reducible rfl)
            try simp only [Act.put, List.setIfInBounds_toArray, List.set_cons_zero, List.set_cons_succ]
            refine wpAnyH_take (i := 10) (oi := ?oir1_10) (v := ?vr1_10) ?hir1_10 (by kernel_rfl) (by kernel_rfl) (by kernel_rfl) ?hqr1_10 ?hyr1_10 (by assumption) ?restr1_10
            case hir1_10 => simp only [List.getElem?_toArray, List.getElem?_cons_succ, List.getElem?_cons_zero]; rfl
            case hqr1_10 => exact fun _ _ _ h => h
            case hyr1_10 => (refine Or.inl ⟨by rfl, ?_⟩; intro w hSw; (try dsimp only at hSw); go_simp; all_goals with_reducible rfl)
            try simp only [Act.put, List.setIfInBounds_toArray, List.set_cons_zero, List.set_cons_succ]
            refine wpAnyH_take (i := 11) (oi := ?oir1_11) (v := ?vr1_11) ?hir1_11 (by kernel_rfl) (by kernel_rfl) (by kernel_rfl) ?hqr1_11 ?hyr1_11 (by assumption) ?restr1_11
            case hir1_11 => simp only [List.getElem?_toArray, List.getElem?_cons_succ, List.getElem?_cons_zero]; rfl
            case hqr1_11 => exact fun _ _ _ h => h
            case hyr1_11 => (refine Or.inl ⟨by rfl, ?_⟩; intro w hSw; (try dsimp only at hSw); go_simp; all_goals with_reducible rfl)
            try simp only [Act.put, List.setIfInBounds_toArray, List.set_cons_zero, List.set_cons_succ]
            refine wpAnyH_take (i := 12) (oi := ?oir1_12) (v := ?vr1_12) ?hir1_12 (by kernel_rfl) (by kernel_rfl) (by kernel_rfl) ?hqr1_12 ?hyr1_12 (by assumption) ?restr1_12
            case hir1_12 => simp only [List.getElem?_toArray, List.getElem?_cons_succ, List.getElem?_cons_zero]; rfl
            case hqr1_12 => exact fun _ _ _ h => h
            case hyr1_12 => (refine Or.inl ⟨by rfl, ?_⟩; intro w hSw; (try dsimp only at hSw); go_simp; all_goals with_reducible rfl)
            try simp only [Act.put, List.setIfInBounds_toArray, List.set_cons_zero, List.set_cons_succ]
            refine wpAnyH_done (by kernel_rfl) ?_ _
            clear hHeld kd0 kd1 ke0 ke1
            go_wp2_with fail
            go_roundw
            case rel => exact ⟨k + 1, by omega, by go_num, rfl, h_bt_601⟩
            case measure => simp [intOf]; omega
          case neg =>
            obtain rfl : n_d = k := by omega
            have B600 := H_B.out.trans (BT.mono H_B.out.size)
            have h_y_600 := H_y.out.later BT
            have h_t_600 := H_t.out.later BT
            have h_x_600 := H_x.out.below BT
            have h_o_600 := H_o.out.below BT
            clear BT
            have cv_o := convY h_o_600.rd
            have cv_x := convY h_x_600
            have k_t_0 := h_t_600.cell 0 _ rfl
            have k_y_0 := h_y_600.cell 0 _ rfl
            go_wp2_with fail
            clear k_t_0 k_y_0
            go_ret
            exact ⟨rfl, B600⟩

end Go.Proofs.Ytlfempfhohejiaa
