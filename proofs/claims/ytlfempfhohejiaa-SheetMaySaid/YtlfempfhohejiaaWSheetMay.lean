/- The walk of the law SheetMay: it returns true and turns nothing that was there. No condition. Printed by gen_shelaws.py. -/
import Derived.Test.YtlfempfhohejiaaSheY
import Derived.BigQuiet
import Derived.Deep.CutRange
namespace Go.Proofs.Ytlfempfhohejiaa
open Go.RowKit Go.Suf
set_option linter.unusedVariables false
set_option linter.unusedSimpArgs false

set_option maxRecDepth 100000 in
set_option maxHeartbeats 8000000 in
theorem sheetMay_walk (w : World) (nm : ByteArray) (hnl : nm.size ≤ maxLen) {a_s : Option Addr} {n_s c_s : Nat} {ss : List ByteArray} (h_s : RdS w a_s n_s c_s ss) (hsl : ∀ s ∈ ss, s.size ≤ maxLen) (seats : Int) (hs1 : -9223372036854775808 ≤ seats) (hs2 : seats ≤ 9223372036854775807) (rule : Nat) (hr : rule < 256) (p : PQ) (pw : PW p) {a_x : Option Addr} {n_x c_x : Nat} {xs : List Nat} (h_x : Rd .u8 w a_x n_x c_x xs) {a_d : Option Addr} {n_d c_d : Nat} {ds : List DQ} (h_d : RdD w a_d n_d c_d ds) :
    Calls Try.prog 8 #[.agg #[.string nm, .slice a_s n_s c_s, .int .i64 seats, .int .u8 ((rule : Nat) : Int)], .agg (polc p), .agg #[.slice a_x n_x c_x], .slice a_d n_d c_d] w fun e w' => e = .returned (.bool true) ∧ Below w.heap.size w w' := by
  have HN := Lib.hid h_s.len
  have hns := h_s.lt
  have HXL := Lib.hid h_x.len
  have HDL := Lib.hid h_d.len
  have hnx := h_x.lt
  have hnd := h_d.lt
  have PWW := Lib.hid pw
  have B0 : Below w.heap.size w w := Below.refl _ _
  have h_s_0 := h_s
  have h_x_0 := h_x
  have h_d_0 := h_d
  go_enter Try.func8, Try.ntmps8
  have hb := below_al w (.cells #[.string nm, .slice a_s n_s c_s, .int .i64 seats, .int .u8 ((rule : Nat) : Int)] 24)
  have B1 := B0.trans (hb.mono B0.size)
  have h_s_1 := h_s_0.below hb
  have h_x_1 := h_x_0.below hb
  have h_d_1 := h_d_0.below hb
  clear hb B0 h_s_0 h_x_0 h_d_0
  have h_c_1 := PRow.new 24 w #[.string nm, .slice a_s n_s c_s, .int .i64 seats, .int .u8 ((rule : Nat) : Int)]
  have hb := below_al (w.alloc (.cells #[.string nm, .slice a_s n_s c_s, .int .i64 seats, .int .u8 ((rule : Nat) : Int)] 24)) (.cells (polc p) 48)
  have B2 := B1.trans (hb.mono B1.size)
  have h_s_2 := h_s_1.below hb
  have h_x_2 := h_x_1.below hb
  have h_d_2 := h_d_1.below hb
  have h_c_2 := h_c_1.later hb
  clear hb B1 h_s_1 h_x_1 h_d_1 h_c_1
  have h_p_2 := PRow.new 48 (w.alloc (.cells #[.string nm, .slice a_s n_s c_s, .int .i64 seats, .int .u8 ((rule : Nat) : Int)] 24)) (polc p)
  simp only [World.size_alloc] at h_p_2
  have hb := below_al ((w.alloc (.cells #[.string nm, .slice a_s n_s c_s, .int .i64 seats, .int .u8 ((rule : Nat) : Int)] 24)).alloc (.cells (polc p) 48)) (.cells #[.slice a_x n_x c_x] 27)
  have B3 := B2.trans (hb.mono B2.size)
  have h_s_3 := h_s_2.below hb
  have h_x_3 := h_x_2.below hb
  have h_d_3 := h_d_2.below hb
  have h_c_3 := h_c_2.later hb
  have h_p_3 := h_p_2.later hb
  clear hb B2 h_s_2 h_x_2 h_d_2 h_c_2 h_p_2
  have h_y_3 := PRow.new 27 ((w.alloc (.cells #[.string nm, .slice a_s n_s c_s, .int .i64 seats, .int .u8 ((rule : Nat) : Int)] 24)).alloc (.cells (polc p) 48)) #[.slice a_x n_x c_x]
  simp only [World.size_alloc] at h_y_3
  go_wp2_with fail
  generalize (((w.alloc (.cells #[.string nm, .slice a_s n_s c_s, .int .i64 seats, .int .u8 ((rule : Nat) : Int)] 24)).alloc (.cells (polc p) 48)).alloc (.cells #[.slice a_x n_x c_x] 27)) = w3 at *
  have c := alive_any w3
  refine c.mono ?_
  rintro e w4 ⟨rfl, hb⟩
  clear c
  have B4 := B3.trans (hb.mono B3.size)
  have h_s_4 := h_s_3.below hb
  have h_x_4 := h_x_3.below hb
  have h_d_4 := h_d_3.below hb
  have h_c_4 := h_c_3.later hb
  have h_p_4 := h_p_3.later hb
  have h_y_4 := h_y_3.later hb
  clear hb B3 h_s_3 h_x_3 h_d_3 h_c_3 h_p_3 h_y_3
  have k_c_0 := h_c_4.cell 0 _ rfl
  have k_c_1 := h_c_4.cell 1 _ rfl
  have k_c_2 := h_c_4.cell 2 _ rfl
  have k_c_3 := h_c_4.cell 3 _ rfl
  go_wp2_with fail
  clear k_c_0 k_c_1 k_c_2 k_c_3
  obtain ⟨gr, hgr⟩ : ∃ gr, greatC nm ss = gr := ⟨_, rfl⟩
  have GR := Lib.hid hgr
  clear hgr
  have c := Great_any w4 nm h_s_4 seats rule hr
  rw [GR.out] at c
  refine c.mono ?_
  rintro e w5 ⟨rfl, hb⟩
  clear c
  have B5 := B4.trans (hb.mono B4.size)
  have h_s_5 := h_s_4.below hb
  have h_x_5 := h_x_4.below hb
  have h_d_5 := h_d_4.below hb
  have h_c_5 := h_c_4.later hb
  have h_p_5 := h_p_4.later hb
  have h_y_5 := h_y_4.later hb
  clear hb B4 h_s_4 h_x_4 h_d_4 h_c_4 h_p_4 h_y_4
  cases gr with
  | true =>
    go_wp2_with fail
    go_ret
    exact ⟨rfl, B5⟩
  | false =>
    by_cases hb1 : 1000 < n_x
    case pos =>
      have hb1d : decide ((n_x : Int) > 1000) = true := decide_eq_true (by omega)
      have k_y_0 := h_y_5.cell 0 _ rfl
      go_wp2_with fail
      clear k_y_0
      go_ret
      exact ⟨rfl, B5⟩
    have hb1d : decide ((n_x : Int) > 1000) = false := decide_eq_false (by omega)
    by_cases hb2 : 1000 < n_d
    case pos =>
      have hb2d : decide ((n_d : Int) > 1000) = true := decide_eq_true (by omega)
      have k_y_0 := h_y_5.cell 0 _ rfl
      go_wp2_with fail
      clear k_y_0
      go_ret
      exact ⟨rfl, B5⟩
    have hb2d : decide ((n_d : Int) > 1000) = false := decide_eq_false (by omega)
    obtain ⟨⟨⟨kq, mq, oq, dq⟩, er⟩, hrr⟩ : ∃ r, readR nm ss seats rule p xs ds = r := ⟨_, rfl⟩
    have HRR := Lib.hid hrr
    have hkq : kq < 256 := readR_kd hrr
    clear hrr
    have k_c_0 := h_c_5.cell 0 _ rfl
    have k_c_1 := h_c_5.cell 1 _ rfl
    have k_c_2 := h_c_5.cell 2 _ rfl
    have k_c_3 := h_c_5.cell 3 _ rfl
    have k_p_0 := h_p_5.cell 0 _ rfl
    have k_p_1 := h_p_5.cell 1 _ rfl
    have k_p_2 := h_p_5.cell 2 _ rfl
    have k_y_0 := h_y_5.cell 0 _ rfl
    go_wp2_with fail
    clear k_c_0 k_c_1 k_c_2 k_c_3 k_p_0 k_p_1 k_p_2 k_y_0
    have c := Read_any w5 nm h_s_5 seats hs1 hs2 rule hr p PWW.out h_x_5 h_d_5 (by omega) (by omega)
    rw [HRR.out] at c
    refine c.mono ?_
    rintro e w6 ⟨a_a, n_a, c_a, b_a, m_a, d_a, rfl, h_am_6, h_ad_6, hap_a, hb⟩
    clear c
    have B6 := B5.trans (hb.mono B5.size)
    have h_s_6 := h_s_5.below hb
    have h_x_6 := h_x_5.below hb
    have h_d_6 := h_d_5.below hb
    have h_c_6 := h_c_5.later hb
    have h_p_6 := h_p_5.later hb
    have h_y_6 := h_y_5.later hb
    clear hb B5 h_s_5 h_x_5 h_d_5 h_c_5 h_p_5 h_y_5
    replace hap_a := Lib.hid hap_a
    have hb := below_al w6 (.cells #[.int .u8 ((kq : Nat) : Int), .slice a_a n_a c_a, .int .i64 oq, .slice b_a m_a d_a] 51)
    have B7 := B6.trans (hb.mono B6.size)
    have h_s_7 := h_s_6.below hb
    have h_x_7 := h_x_6.below hb
    have h_d_7 := h_d_6.below hb
    have h_c_7 := h_c_6.later hb
    have h_p_7 := h_p_6.later hb
    have h_y_7 := h_y_6.later hb
    have h_am_7 := h_am_6.below hb
    have h_ad_7 := h_ad_6.below hb
    clear hb B6 h_s_6 h_x_6 h_d_6 h_c_6 h_p_6 h_y_6 h_am_6 h_ad_6
    have h_ar_7 := PRow.new 51 w6 #[.int .u8 ((kq : Nat) : Int), .slice a_a n_a c_a, .int .i64 oq, .slice b_a m_a d_a]
    have e0 : (er == er) = true := by simp
    clear e0
    go_upto_region 5 with (first | refine wpList_store_new rfl 51 _ _ rfl atRea _ _ _ rfl rfl rfl rfl (rea_one _ _ _ _ _ _ _ _) ?_)
    generalize (w6.alloc (.cells #[.int .u8 ((kq : Nat) : Int), .slice a_a n_a c_a, .int .i64 oq, .slice b_a m_a d_a] 51)) = w7 at *
    by_cases her : er = 0
    case neg =>
      have e1 : (er == (0 : Int)) = false := by simpa using her
      have e2 : (er != (0 : Int)) = true := by simpa using her
      obtain ⟨rfl, rfl, rfl, rfl⟩ := readR_zero HRR.out her
      have k_ar_0 := h_ar_7.cell 0 _ rfl
      have k_ar_1 := h_ar_7.cell 1 _ rfl
      have k_ar_2 := h_ar_7.cell 2 _ rfl
      have k_ar_3 := h_ar_7.cell 3 _ rfl
      go_wp2_with fail
      clear k_ar_0 k_ar_1 k_ar_2 k_ar_3
      have c := readSame_any w7 0 (by decide) 0 (by decide) (h_am_7.rd oneI) (RdG.nil encI okI w7) 0 0 (h_ad_7.rd oneI) (RdG.nil encI okI w7)
      rw [same_true] at c
      refine c.mono ?_
      rintro e w8 ⟨rfl, hb⟩
      clear c
      have B8 := B7.trans (hb.mono B7.size)
      have h_s_8 := h_s_7.below hb
      have h_x_8 := h_x_7.below hb
      have h_d_8 := h_d_7.below hb
      have h_c_8 := h_c_7.later hb
      have h_p_8 := h_p_7.later hb
      have h_y_8 := h_y_7.later hb
      have h_am_8 := h_am_7.below hb
      have h_ad_8 := h_ad_7.below hb
      have h_ar_8 := h_ar_7.later hb
      clear hb B7 h_s_7 h_x_7 h_d_7 h_c_7 h_p_7 h_y_7 h_am_7 h_ad_7 h_ar_7
      go_wp2_with fail
      go_ret
      exact ⟨rfl, B8⟩
    subst her
    obtain ⟨⟨g3, g2, g1⟩, hk0, hki, hfi, hov, hln, hdq⟩ := readR_may HRR.out
    rw [HN.out] at g2 g1 hfi hln
    have HQ3 := Lib.hid g3
    have HK := Lib.hid hk0.symm
    have HFI := Lib.hid hfi
    have HKI := Lib.hid hki
    have HDQ := Lib.hid hdq
    have hna : mq.length = n_a := h_am_7.len
    rw [hna] at hln
    clear hna
    have HLN := Lib.hid hln
    have HOV := Lib.hid hov
    clear g3 hk0 hki hfi hov hln hdq
    have k_c_0 := h_c_7.cell 0 _ rfl
    have k_c_1 := h_c_7.cell 1 _ rfl
    have k_c_2 := h_c_7.cell 2 _ rfl
    have k_c_3 := h_c_7.cell 3 _ rfl
    go_wp2_with fail
    clear k_c_0 k_c_1 k_c_2 k_c_3
    have c := Kind_any w7 rule hr
    rw [show kindC rule = (kq, 0) by unfold kindC; rw [HQ3.out, HK.out]; rfl] at c
    refine c.mono ?_
    rintro e w8 ⟨rfl, hb⟩
    clear c
    have B8 := B7.trans (hb.mono B7.size)
    have h_s_8 := h_s_7.below hb
    have h_x_8 := h_x_7.below hb
    have h_d_8 := h_d_7.below hb
    have h_c_8 := h_c_7.later hb
    have h_p_8 := h_p_7.later hb
    have h_y_8 := h_y_7.later hb
    have h_am_8 := h_am_7.below hb
    have h_ad_8 := h_ad_7.below hb
    have h_ar_8 := h_ar_7.later hb
    clear hb B7 h_s_7 h_x_7 h_d_7 h_c_7 h_p_7 h_y_7 h_am_7 h_ad_7 h_ar_7
    have k_c_0 := h_c_8.cell 0 _ rfl
    have k_c_1 := h_c_8.cell 1 _ rfl
    have k_c_2 := h_c_8.cell 2 _ rfl
    have k_c_3 := h_c_8.cell 3 _ rfl
    go_wp2_with fail
    clear k_c_0 k_c_1 k_c_2 k_c_3
    obtain ⟨mo, hmo⟩ : ∃ mo, marksN rule (n_s : Nat) = mo := ⟨_, rfl⟩
    have HMO := Lib.hid hmo
    have hmo1 : 1 ≤ mo ∧ mo ≤ 10 := by rw [← hmo]; unfold marksN; split <;> omega
    clear hmo
    have c := Most_any w8 rule hr ((n_s : Nat) : Int) (by omega) (by omega)
    rw [show mostC rule ((n_s : Nat) : Int) = (mo, 0) by unfold mostC; rw [if_pos ⟨HQ3.out, by omega, by omega⟩, HMO.out]] at c
    refine c.mono ?_
    rintro e w9 ⟨rfl, hb⟩
    clear c
    have B9 := B8.trans (hb.mono B8.size)
    have h_s_9 := h_s_8.below hb
    have h_x_9 := h_x_8.below hb
    have h_d_9 := h_d_8.below hb
    have h_c_9 := h_c_8.later hb
    have h_p_9 := h_p_8.later hb
    have h_y_9 := h_y_8.later hb
    have h_am_9 := h_am_8.below hb
    have h_ad_9 := h_ad_8.below hb
    have h_ar_9 := h_ar_8.later hb
    clear hb B8 h_s_8 h_x_8 h_d_8 h_c_8 h_p_8 h_y_8 h_am_8 h_ad_8 h_ar_8
    go_upto_region 9 with fail
    go_cut [110] from 68 to 109 (fun s110 wx => s110 = Value.bool false ∧ Below w9.heap.size w9 wx)
    case first =>
      have hov : decide (oq < 0) = false := decide_eq_false (by have := HOV.out; omega)
      have hbc : ballC kq mq ((n_s : Nat) : Int) = 0 := by unfold ballC; rw [if_pos ⟨by omega, by omega⟩, HFI.out]; rfl
      have HBC := Lib.hid hbc
      clear hbc
      have hl := HLN.out
      rw [HMO.out] at hl
      rcases HKI.out with rfl | rfl | rfl
      case inl =>
        rw [if_neg (by decide)] at hl
        have hm1 : max mo 0 = mo := by omega
        have hm2 : decide (((n_a : Nat) : Int) > mo) = false := decide_eq_false (by omega)
        have hm3 : decide (mo < ((n_a : Nat) : Int)) = false := decide_eq_false (by omega)
        have HL := Lib.hid hl
        clear hl
        have k_c_0 := h_c_9.cell 0 _ rfl
        have k_c_1 := h_c_9.cell 1 _ rfl
        have k_c_2 := h_c_9.cell 2 _ rfl
        have k_c_3 := h_c_9.cell 3 _ rfl
        have k_ar_0 := h_ar_9.cell 0 _ rfl
        have k_ar_1 := h_ar_9.cell 1 _ rfl
        have k_ar_2 := h_ar_9.cell 2 _ rfl
        have k_ar_3 := h_ar_9.cell 3 _ rfl
        go_wp2_with fail
        clear k_c_0 k_c_1 k_c_2 k_c_3 k_ar_0 k_ar_1 k_ar_2 k_ar_3
        have c := ballCheck_any w9 1 (by decide) (h_am_9.rd oneI) ((n_s : Nat) : Int)
        rw [HBC.out] at c
        refine c.mono ?_
        rintro e w10 ⟨rfl, hb⟩
        have HBQ := Lib.hid hb
        clear c
        have B10 := B9.trans (hb.mono B9.size)
        have h_s_10 := h_s_9.below hb
        have h_x_10 := h_x_9.below hb
        have h_d_10 := h_d_9.below hb
        have h_c_10 := h_c_9.later hb
        have h_p_10 := h_p_9.later hb
        have h_y_10 := h_y_9.later hb
        have h_am_10 := h_am_9.below hb
        have h_ad_10 := h_ad_9.below hb
        have h_ar_10 := h_ar_9.later hb
        clear hb B9 h_s_9 h_x_9 h_d_9 h_c_9 h_p_9 h_y_9 h_am_9 h_ad_9 h_ar_9
        have k_c_0 := h_c_10.cell 0 _ rfl
        have k_c_1 := h_c_10.cell 1 _ rfl
        have k_c_2 := h_c_10.cell 2 _ rfl
        have k_c_3 := h_c_10.cell 3 _ rfl
        have k_ar_0 := h_ar_10.cell 0 _ rfl
        have k_ar_1 := h_ar_10.cell 1 _ rfl
        have k_ar_2 := h_ar_10.cell 2 _ rfl
        have k_ar_3 := h_ar_10.cell 3 _ rfl
        go_wp2_with fail
        clear k_c_0 k_c_1 k_c_2 k_c_3 k_ar_0 k_ar_1 k_ar_2 k_ar_3
        go_meet
        exact ⟨rfl, HBQ.out⟩
      case inr.inl =>
        rw [if_neg (by decide)] at hl
        have hm1 : max mo 0 = mo := by omega
        have hm2 : decide (((n_a : Nat) : Int) > mo) = false := decide_eq_false (by omega)
        have hm3 : decide (mo < ((n_a : Nat) : Int)) = false := decide_eq_false (by omega)
        have HL := Lib.hid hl
        clear hl
        have k_c_0 := h_c_9.cell 0 _ rfl
        have k_c_1 := h_c_9.cell 1 _ rfl
        have k_c_2 := h_c_9.cell 2 _ rfl
        have k_c_3 := h_c_9.cell 3 _ rfl
        have k_ar_0 := h_ar_9.cell 0 _ rfl
        have k_ar_1 := h_ar_9.cell 1 _ rfl
        have k_ar_2 := h_ar_9.cell 2 _ rfl
        have k_ar_3 := h_ar_9.cell 3 _ rfl
        go_wp2_with fail
        clear k_c_0 k_c_1 k_c_2 k_c_3 k_ar_0 k_ar_1 k_ar_2 k_ar_3
        have c := ballCheck_any w9 2 (by decide) (h_am_9.rd oneI) ((n_s : Nat) : Int)
        rw [HBC.out] at c
        refine c.mono ?_
        rintro e w10 ⟨rfl, hb⟩
        have HBQ := Lib.hid hb
        clear c
        have B10 := B9.trans (hb.mono B9.size)
        have h_s_10 := h_s_9.below hb
        have h_x_10 := h_x_9.below hb
        have h_d_10 := h_d_9.below hb
        have h_c_10 := h_c_9.later hb
        have h_p_10 := h_p_9.later hb
        have h_y_10 := h_y_9.later hb
        have h_am_10 := h_am_9.below hb
        have h_ad_10 := h_ad_9.below hb
        have h_ar_10 := h_ar_9.later hb
        clear hb B9 h_s_9 h_x_9 h_d_9 h_c_9 h_p_9 h_y_9 h_am_9 h_ad_9 h_ar_9
        have k_c_0 := h_c_10.cell 0 _ rfl
        have k_c_1 := h_c_10.cell 1 _ rfl
        have k_c_2 := h_c_10.cell 2 _ rfl
        have k_c_3 := h_c_10.cell 3 _ rfl
        have k_ar_0 := h_ar_10.cell 0 _ rfl
        have k_ar_1 := h_ar_10.cell 1 _ rfl
        have k_ar_2 := h_ar_10.cell 2 _ rfl
        have k_ar_3 := h_ar_10.cell 3 _ rfl
        go_wp2_with fail
        clear k_c_0 k_c_1 k_c_2 k_c_3 k_ar_0 k_ar_1 k_ar_2 k_ar_3
        go_meet
        exact ⟨rfl, HBQ.out⟩
      case inr.inr =>
        rw [if_pos rfl] at hl
        have hml : mo ≤ ((n_s : Nat) : Int) := by rw [← HMO.out]; exact marks_le (by omega)
        have hm4 : IntKind.i64.wrap ((n_s : Nat) : Int) = ((n_s : Nat) : Int) := wrap_in (by omega) (by omega)
        have HML := Lib.hid hml
        clear hml
        have HL := Lib.hid hl
        clear hl
        have k_c_0 := h_c_9.cell 0 _ rfl
        have k_c_1 := h_c_9.cell 1 _ rfl
        have k_c_2 := h_c_9.cell 2 _ rfl
        have k_c_3 := h_c_9.cell 3 _ rfl
        have k_ar_0 := h_ar_9.cell 0 _ rfl
        have k_ar_1 := h_ar_9.cell 1 _ rfl
        have k_ar_2 := h_ar_9.cell 2 _ rfl
        have k_ar_3 := h_ar_9.cell 3 _ rfl
        go_wp2_with fail
        clear k_c_0 k_c_1 k_c_2 k_c_3 k_ar_0 k_ar_1 k_ar_2 k_ar_3
        have c := ballCheck_any w9 3 (by decide) (h_am_9.rd oneI) ((n_s : Nat) : Int)
        rw [HBC.out] at c
        refine c.mono ?_
        rintro e w10 ⟨rfl, hb⟩
        have HBQ := Lib.hid hb
        clear c
        have B10 := B9.trans (hb.mono B9.size)
        have h_s_10 := h_s_9.below hb
        have h_x_10 := h_x_9.below hb
        have h_d_10 := h_d_9.below hb
        have h_c_10 := h_c_9.later hb
        have h_p_10 := h_p_9.later hb
        have h_y_10 := h_y_9.later hb
        have h_am_10 := h_am_9.below hb
        have h_ad_10 := h_ad_9.below hb
        have h_ar_10 := h_ar_9.later hb
        clear hb B9 h_s_9 h_x_9 h_d_9 h_c_9 h_p_9 h_y_9 h_am_9 h_ad_9 h_ar_9
        have k_c_0 := h_c_10.cell 0 _ rfl
        have k_c_1 := h_c_10.cell 1 _ rfl
        have k_c_2 := h_c_10.cell 2 _ rfl
        have k_c_3 := h_c_10.cell 3 _ rfl
        have k_ar_0 := h_ar_10.cell 0 _ rfl
        have k_ar_1 := h_ar_10.cell 1 _ rfl
        have k_ar_2 := h_ar_10.cell 2 _ rfl
        have k_ar_3 := h_ar_10.cell 3 _ rfl
        go_wp2_with fail
        clear k_c_0 k_c_1 k_c_2 k_c_3 k_ar_0 k_ar_1 k_ar_2 k_ar_3
        all_goals first | (exfalso; have h1 := HL.out; have h2 := HML.out; omega) | (go_meet; exact ⟨congrArg Value.bool (decide_eq_false (by have h1 := HL.out; have h2 := HML.out; omega)), HBQ.out⟩)
    case rest =>
    obtain ⟨rfl, hb⟩ := hcut
    have B10 := B9.trans (hb.mono B9.size)
    have h_s_10 := h_s_9.below hb
    have h_x_10 := h_x_9.below hb
    have h_d_10 := h_d_9.below hb
    have h_c_10 := h_c_9.later hb
    have h_p_10 := h_p_9.later hb
    have h_y_10 := h_y_9.later hb
    have h_am_10 := h_am_9.below hb
    have h_ad_10 := h_ad_9.below hb
    have h_ar_10 := h_ar_9.later hb
    clear hb B9 h_s_9 h_x_9 h_d_9 h_c_9 h_p_9 h_y_9 h_am_9 h_ad_9 h_ar_9
    obtain ⟨w10, hw⟩ : ∃ w, w = wc := ⟨_, rfl⟩
    subst hw
    have k_ar_0 := h_ar_10.cell 0 _ rfl
    have k_ar_1 := h_ar_10.cell 1 _ rfl
    have k_ar_2 := h_ar_10.cell 2 _ rfl
    have k_ar_3 := h_ar_10.cell 3 _ rfl
    go_wp2_with fail
    clear k_ar_0 k_ar_1 k_ar_2 k_ar_3
    have H_p := Lib.hid h_p_10
    have H_y := Lib.hid h_y_10
    have H_x := Lib.hid h_x_10
    have H_ar := Lib.hid h_ar_10
    have H_ad := Lib.hid h_ad_10
    have H_B := Lib.hid B10
    go_loopw [16] (fun jv wr => ∃ i : Nat, i ≤ m_a ∧ jv = .int .i64 (i : Nat) ∧ Below w10.heap.size w10 wr) (fun jv _ => m_a - (intOf jv).toNat)
    case atStart => exact ⟨0, Nat.zero_le _, rfl, Below.refl _ _⟩
    case round =>
      rename World => wr
      obtain ⟨i, hi, rfl, BT⟩ := hrel
      have B300 := H_B.out.trans (BT.mono H_B.out.size)
      have h_p_300 := H_p.out.later BT
      have h_y_300 := H_y.out.later BT
      have h_x_300 := H_x.out.below BT
      have h_ar_300 := H_ar.out.later BT
      have h_ad_300 := H_ad.out.below BT
      have h_bt_300 := BT
      by_cases hlt : i < m_a
      case neg =>
        obtain rfl : m_a = i := by omega
        clear BT
        have k_ar_0 := h_ar_300.cell 0 _ rfl
        have k_ar_1 := h_ar_300.cell 1 _ rfl
        have k_ar_2 := h_ar_300.cell 2 _ rfl
        have k_ar_3 := h_ar_300.cell 3 _ rfl
        go_wp2_with fail
        clear k_ar_0 k_ar_1 k_ar_2 k_ar_3
        go_ret
        exact ⟨rfl, B300⟩
      case pos =>
        obtain ⟨at_, ha1, ha2, ha3, ha4⟩ := doubt_may p xs ds (i := i) (by rw [← HDQ.out, h_ad_300.len]; exact hlt)
        rw [← HDQ.out] at ha1 ha4
        rw [HXL.out] at ha2
        obtain ⟨b9, o9, rfl, hcc⟩ := (h_ad_300.rd oneI).addrI (by omega)
        have kd := hcc i hlt
        rw [ha1] at kd
        have HA1 := Lib.hid ha1
        have HCC := Lib.hid hcc
        have HA4 := Lib.hid ha4
        clear ha1 hcc ha4
        obtain ⟨b8, o8, rfl, kx, hbx⟩ := h_x_300.cell at_ ha2
        obtain ⟨x, hx⟩ : ∃ x, nth xs at_ = x := ⟨_, rfl⟩
        rw [hx] at kx hbx ha3
        clear hx
        unfold doubtB at ha3
        simp only [Bool.and_eq_true, decide_eq_true_eq] at ha3
        obtain ⟨x1, x2⟩ := ha3
        have d0 : decide (((at_ : Nat) : Int) < 0) = false := decide_eq_false (by omega)
        have d1 : decide (((at_ : Nat) : Int) ≥ ((n_x : Nat) : Int)) = false := decide_eq_false (by omega)
        have d2 : decide (((n_x : Nat) : Int) ≤ ((at_ : Nat) : Int)) = false := decide_eq_false (by omega)
        have d3 : decide (n_x ≤ at_) = false := decide_eq_false (by omega)
        have d4 : decide (x < p.low) = false := decide_eq_false (by omega)
        have d5 : decide (p.high ≤ x) = false := decide_eq_false (by omega)
        have HX1 := Lib.hid x1
        have HX2 := Lib.hid x2
        clear x1 x2 BT
        have hma : m_a ≤ 1000 := by rw [← h_ad_300.len, HDQ.out]; exact Nat.le_trans (dbtL_le _ _ _ _) (by rw [HXL.out]; omega)
        have kar := h_ar_300.cell 3 _ rfl
        have ky := h_y_300.cell 0 _ rfl
        have kp0 := h_p_300.cell 0 _ rfl
        have kp1 := h_p_300.cell 1 _ rfl
        go_upto_region 15 with fail
        cases i with
        | zero =>
          rw [Nat.add_zero] at kd
          have hb := (Below.refl wr.heap.size wr).drew
          replace kd := cell_below hb kd
          replace kar := cell_below hb kar
          replace ky := cell_below hb ky
          replace kx := cell_below hb kx
          replace kp0 := cell_below hb kp0
          replace kp1 := cell_below hb kp1
          have B301 := B300.trans (hb.mono B300.size)
          have h_p_301 := h_p_300.later hb
          have h_y_301 := h_y_300.later hb
          have h_x_301 := h_x_300.below hb
          have h_ar_301 := h_ar_300.later hb
          have h_ad_301 := h_ad_300.below hb
          have h_bt_301 := h_bt_300.trans (hb.mono h_bt_300.size)
          clear hb B300 h_p_300 h_y_300 h_x_300 h_ar_300 h_ad_300 h_bt_300
          refine wp_region_held_drew (S := (fun w' => w'.cell? ⟨b9, o9, none⟩ = some (.int .i64 ((at_ : Nat) : Int)) ∧ w'.cell? ⟨w6.heap.size, 3, none⟩ = some (.slice (some ⟨b9, o9, none⟩) m_a d_a) ∧ w'.cell? ⟨w.heap.size + 1 + 1, 0, none⟩ = some (.slice (some ⟨b8, o8, none⟩) n_x c_x) ∧ w'.cell? ⟨b8, o8 + at_, none⟩ = some (.int .u8 ((x : Nat) : Int)) ∧ w'.cell? ⟨w.heap.size + 1, 0, none⟩ = some (.int .u8 ((p.low : Nat) : Int)) ∧ w'.cell? ⟨w.heap.size + 1, 1, none⟩ = some (.int .u8 ((p.high : Nat) : Int)) ∧ True)) (by kernel_rfl) ?_ (fun hHeld => ?_)
          · exact ⟨kd, kar, ky, kx, kp0, kp1, trivial⟩
          generalize wr.drew = w301 at *
          refine wpAnyH_take (i := 0) (oi := ?oir1_0) (v := ?vr1_0) ?hir1_0 (by kernel_rfl) (by kernel_rfl) (by kernel_rfl) ?hqr1_0 ?hyr1_0 (by assumption) ?restr1_0
          case hir1_0 => simp only [List.getElem?_toArray, List.getElem?_cons_succ, List.getElem?_cons_zero]; rfl
          case hqr1_0 => exact fun _ _ _ h => h
          case hyr1_0 => (refine Or.inl ⟨by rfl, ?_⟩; intro w hSw; (try dsimp only at hSw); go_simp; all_goals with_reducible rfl)
          try simp only [Act.put, List.setIfInBounds_toArray, List.set_cons_zero, List.set_cons_succ]
          refine wpAnyH_take (i := 1) (oi := ?oir1_1) (v := ?vr1_1) ?hir1_1 (by kernel_rfl) (by kernel_rfl) (by kernel_rfl) ?hqr1_1 ?hyr1_1 (by assumption) ?restr1_1
          case hir1_1 => simp only [List.getElem?_toArray, List.getElem?_cons_succ, List.getElem?_cons_zero]; rfl
          case hqr1_1 => exact fun _ _ _ h => h
          case hyr1_1 => (refine Or.inl ⟨by rfl, ?_⟩; intro w hSw; (try dsimp only at hSw); go_simp; all_goals with_reducible rfl)
          try simp only [Act.put, List.setIfInBounds_toArray, List.set_cons_zero, List.set_cons_succ]
          refine wpAnyH_take (i := 2) (oi := ?oir1_2) (v := ?vr1_2) ?hir1_2 (by kernel_rfl) (by kernel_rfl) (by kernel_rfl) ?hqr1_2 ?hyr1_2 (by assumption) ?restr1_2
          case hir1_2 => simp only [List.getElem?_toArray, List.getElem?_cons_succ, List.getElem?_cons_zero]; rfl
          case hqr1_2 => exact fun _ _ _ h => h
          case hyr1_2 => (refine Or.inl ⟨by rfl, ?_⟩; intro w hSw; (try dsimp only at hSw); go_simp; all_goals with_reducible rfl)
          try simp only [Act.put, List.setIfInBounds_toArray, List.set_cons_zero, List.set_cons_succ]
          refine wpAnyH_take (i := 3) (oi := ?oir1_3) (v := ?vr1_3) ?hir1_3 (by kernel_rfl) (by kernel_rfl) (by kernel_rfl) ?hqr1_3 ?hyr1_3 (by assumption) ?restr1_3
          case hir1_3 => simp only [List.getElem?_toArray, List.getElem?_cons_succ, List.getElem?_cons_zero]; rfl
          case hqr1_3 => exact fun _ _ _ h => h
          case hyr1_3 => (refine Or.inl ⟨by rfl, ?_⟩; intro w hSw; (try dsimp only at hSw); go_simp; all_goals with_reducible rfl)
          try simp only [Act.put, List.setIfInBounds_toArray, List.set_cons_zero, List.set_cons_succ]
          refine wpAnyH_take (i := 4) (oi := ?oir1_4) (v := ?vr1_4) ?hir1_4 (by kernel_rfl) (by kernel_rfl) (by kernel_rfl) ?hqr1_4 ?hyr1_4 (by assumption) ?restr1_4
          case hir1_4 => simp only [List.getElem?_toArray, List.getElem?_cons_succ, List.getElem?_cons_zero]; rfl
          case hqr1_4 => exact fun _ _ _ h => h
          case hyr1_4 => (refine Or.inl ⟨by rfl, ?_⟩; intro w hSw; (try dsimp only at hSw); go_simp; all_goals with_reducible rfl)
          try simp only [Act.put, List.setIfInBounds_toArray, List.set_cons_zero, List.set_cons_succ]
          refine wpAnyH_take (i := 5) (oi := ?oir1_5) (v := ?vr1_5) ?hir1_5 (by kernel_rfl) (by kernel_rfl) (by kernel_rfl) ?hqr1_5 ?hyr1_5 (by assumption) ?restr1_5
          case hir1_5 => simp only [List.getElem?_toArray, List.getElem?_cons_succ, List.getElem?_cons_zero]; rfl
          case hqr1_5 => exact fun _ _ _ h => h
          case hyr1_5 => (refine Or.inl ⟨by rfl, ?_⟩; intro w hSw; (try dsimp only at hSw); go_simp; all_goals with_reducible rfl)
          try simp only [Act.put, List.setIfInBounds_toArray, List.set_cons_zero, List.set_cons_succ]
          refine wpAnyH_take (i := 6) (oi := ?oir1_6) (v := ?vr1_6) ?hir1_6 (by kernel_rfl) (by kernel_rfl) (by kernel_rfl) ?hqr1_6 ?hyr1_6 (by assumption) ?restr1_6
          case hir1_6 => simp only [List.getElem?_toArray, List.getElem?_cons_succ, List.getElem?_cons_zero]; rfl
          case hqr1_6 => exact fun _ _ _ h => h
          case hyr1_6 => (refine Or.inl ⟨by rfl, ?_⟩; intro w hSw; (try dsimp only at hSw); go_simp; all_goals with_reducible rfl)
          try simp only [Act.put, List.setIfInBounds_toArray, List.set_cons_zero, List.set_cons_succ]
          refine wpAnyH_take (i := 7) (oi := ?oir1_7) (v := ?vr1_7) ?hir1_7 (by kernel_rfl) (by kernel_rfl) (by kernel_rfl) ?hqr1_7 ?hyr1_7 (by assumption) ?restr1_7
          case hir1_7 => simp only [List.getElem?_toArray, List.getElem?_cons_succ, List.getElem?_cons_zero]; rfl
          case hqr1_7 => exact fun _ _ _ h => h
          case hyr1_7 => (refine Or.inl ⟨by rfl, ?_⟩; intro w hSw; (try dsimp only at hSw); go_simp; all_goals with_reducible rfl)
          try simp only [Act.put, List.setIfInBounds_toArray, List.set_cons_zero, List.set_cons_succ]
          refine wpAnyH_take (i := 8) (oi := ?oir1_8) (v := ?vr1_8) ?hir1_8 (by kernel_rfl) (by kernel_rfl) (by kernel_rfl) ?hqr1_8 ?hyr1_8 (by assumption) ?restr1_8
          case hir1_8 => simp only [List.getElem?_toArray, List.getElem?_cons_succ, List.getElem?_cons_zero]; rfl
          case hqr1_8 => exact fun _ _ _ h => h
          case hyr1_8 => (refine Or.inl ⟨by rfl, ?_⟩; intro w hSw; (try dsimp only at hSw); go_simp; all_goals with_reducible rfl)
          try simp only [Act.put, List.setIfInBounds_toArray, List.set_cons_zero, List.set_cons_succ]
          refine wpAnyH_take (i := 9) (oi := ?oir1_9) (v := ?vr1_9) ?hir1_9 (by kernel_rfl) (by kernel_rfl) (by kernel_rfl) ?hqr1_9 ?hyr1_9 (by assumption) ?restr1_9
          case hir1_9 => simp only [List.getElem?_toArray, List.getElem?_cons_succ, List.getElem?_cons_zero]; rfl
          case hqr1_9 => exact fun _ _ _ h => h
          case hyr1_9 => (refine Or.inl ⟨by rfl, ?_⟩; intro w hSw; (try dsimp only at hSw); go_simp; all_goals with_reducible rfl)
          try simp only [Act.put, List.setIfInBounds_toArray, List.set_cons_zero, List.set_cons_succ]
          refine wpAnyH_take (i := 10) (oi := ?oir1_10) (v := ?vr1_10) ?hir1_10 (by kernel_rfl) (by kernel_rfl) (by kernel_rfl) ?hqr1_10 ?hyr1_10 (by assumption) ?restr1_10
          case hir1_10 => simp only [List.getElem?_toArray, List.getElem?_cons_succ, List.getElem?_cons_zero]; rfl
          case hqr1_10 => exact fun _ _ _ h => h
          case hyr1_10 => (refine Or.inl ⟨by rfl, ?_⟩; intro w hSw; (try dsimp only at hSw); go_simp; all_goals with_reducible rfl)
          try simp only [Act.put, List.setIfInBounds_toArray, List.set_cons_zero, List.set_cons_succ]
          refine wpAnyH_take (i := 11) (oi := ?oir1_11) (v := ?vr1_11) ?hir1_11 (by kernel_rfl) (by kernel_rfl) (by kernel_rfl) ?hqr1_11 ?hyr1_11 (by assumption) ?restr1_11
          case hir1_11 => simp only [List.getElem?_toArray, List.getElem?_cons_succ, List.getElem?_cons_zero]; rfl
          case hqr1_11 => exact fun _ _ _ h => h
          case hyr1_11 => (refine Or.inl ⟨by rfl, ?_⟩; intro w hSw; (try dsimp only at hSw); go_simp; all_goals with_reducible rfl)
          try simp only [Act.put, List.setIfInBounds_toArray, List.set_cons_zero, List.set_cons_succ]
          refine wpAnyH_take (i := 12) (oi := ?oir1_12) (v := ?vr1_12) ?hir1_12 (by kernel_rfl) (by kernel_rfl) (by kernel_rfl) ?hqr1_12 ?hyr1_12 (by assumption) ?restr1_12
          case hir1_12 => simp only [List.getElem?_toArray, List.getElem?_cons_succ, List.getElem?_cons_zero]; rfl
          case hqr1_12 => exact fun _ _ _ h => h
          case hyr1_12 => (refine Or.inl ⟨by rfl, ?_⟩; intro w hSw; (try dsimp only at hSw); go_simp; all_goals with_reducible rfl)
          try simp only [Act.put, List.setIfInBounds_toArray, List.set_cons_zero, List.set_cons_succ]
          refine wpAnyH_take (i := 13) (oi := ?oir1_13) (v := undef) ?hir1_13 (by kernel_rfl) (by kernel_rfl) (by kernel_rfl) ?hqr1_13 ?hyr1_13 (by assumption) ?restr1_13
          case hir1_13 => simp only [List.getElem?_toArray, List.getElem?_cons_succ, List.getElem?_cons_zero]; rfl
          case hqr1_13 => exact fun _ _ _ h => h
          case hyr1_13 => exact Or.inr ⟨by rfl, rfl⟩
          try simp only [Act.put, List.setIfInBounds_toArray, List.set_cons_zero, List.set_cons_succ]
          refine wpAnyH_take (i := 14) (oi := ?oir1_14) (v := undef) ?hir1_14 (by kernel_rfl) (by kernel_rfl) (by kernel_rfl) ?hqr1_14 ?hyr1_14 (by assumption) ?restr1_14
          case hir1_14 => simp only [List.getElem?_toArray, List.getElem?_cons_succ, List.getElem?_cons_zero]; rfl
          case hqr1_14 => exact fun _ _ _ h => h
          case hyr1_14 => exact Or.inr ⟨by rfl, rfl⟩
          try simp only [Act.put, List.setIfInBounds_toArray, List.set_cons_zero, List.set_cons_succ]
          refine wpAnyH_take (i := 15) (oi := ?oir1_15) (v := undef) ?hir1_15 (by kernel_rfl) (by kernel_rfl) (by kernel_rfl) ?hqr1_15 ?hyr1_15 (by assumption) ?restr1_15
          case hir1_15 => simp only [List.getElem?_toArray, List.getElem?_cons_succ, List.getElem?_cons_zero]; rfl
          case hqr1_15 => exact fun _ _ _ h => h
          case hyr1_15 => exact Or.inr ⟨by rfl, rfl⟩
          try simp only [Act.put, List.setIfInBounds_toArray, List.set_cons_zero, List.set_cons_succ]
          refine wpAnyH_take (i := 16) (oi := ?oir1_16) (v := undef) ?hir1_16 (by kernel_rfl) (by kernel_rfl) (by kernel_rfl) ?hqr1_16 ?hyr1_16 (by assumption) ?restr1_16
          case hir1_16 => simp only [List.getElem?_toArray, List.getElem?_cons_succ, List.getElem?_cons_zero]; rfl
          case hqr1_16 => exact fun _ _ _ h => h
          case hyr1_16 => exact Or.inr ⟨by rfl, rfl⟩
          try simp only [Act.put, List.setIfInBounds_toArray, List.set_cons_zero, List.set_cons_succ]
          refine wpAnyH_take (i := 17) (oi := ?oir1_17) (v := undef) ?hir1_17 (by kernel_rfl) (by kernel_rfl) (by kernel_rfl) ?hqr1_17 ?hyr1_17 (by assumption) ?restr1_17
          case hir1_17 => simp only [List.getElem?_toArray, List.getElem?_cons_succ, List.getElem?_cons_zero]; rfl
          case hqr1_17 => exact fun _ _ _ h => h
          case hyr1_17 => exact Or.inr ⟨by rfl, rfl⟩
          try simp only [Act.put, List.setIfInBounds_toArray, List.set_cons_zero, List.set_cons_succ]
          refine wpAnyH_take (i := 18) (oi := ?oir1_18) (v := undef) ?hir1_18 (by kernel_rfl) (by kernel_rfl) (by kernel_rfl) ?hqr1_18 ?hyr1_18 (by assumption) ?restr1_18
          case hir1_18 => simp only [List.getElem?_toArray, List.getElem?_cons_succ, List.getElem?_cons_zero]; rfl
          case hqr1_18 => exact fun _ _ _ h => h
          case hyr1_18 => exact Or.inr ⟨by rfl, rfl⟩
          try simp only [Act.put, List.setIfInBounds_toArray, List.set_cons_zero, List.set_cons_succ]
          refine wpAnyH_take (i := 19) (oi := ?oir1_19) (v := undef) ?hir1_19 (by kernel_rfl) (by kernel_rfl) (by kernel_rfl) ?hqr1_19 ?hyr1_19 (by assumption) ?restr1_19
          case hir1_19 => simp only [List.getElem?_toArray, List.getElem?_cons_succ, List.getElem?_cons_zero]; rfl
          case hqr1_19 => exact fun _ _ _ h => h
          case hyr1_19 => exact Or.inr ⟨by rfl, rfl⟩
          try simp only [Act.put, List.setIfInBounds_toArray, List.set_cons_zero, List.set_cons_succ]
          refine wpAnyH_take (i := 20) (oi := ?oir1_20) (v := undef) ?hir1_20 (by kernel_rfl) (by kernel_rfl) (by kernel_rfl) ?hqr1_20 ?hyr1_20 (by assumption) ?restr1_20
          case hir1_20 => simp only [List.getElem?_toArray, List.getElem?_cons_succ, List.getElem?_cons_zero]; rfl
          case hqr1_20 => exact fun _ _ _ h => h
          case hyr1_20 => exact Or.inr ⟨by rfl, rfl⟩
          try simp only [Act.put, List.setIfInBounds_toArray, List.set_cons_zero, List.set_cons_succ]
          refine wpAnyH_take (i := 21) (oi := ?oir1_21) (v := ?vr1_21) ?hir1_21 (by kernel_rfl) (by kernel_rfl) (by kernel_rfl) ?hqr1_21 ?hyr1_21 (by assumption) ?restr1_21
          case hir1_21 => simp only [List.getElem?_toArray, List.getElem?_cons_succ, List.getElem?_cons_zero]; rfl
          case hqr1_21 => exact fun _ _ _ h => h
          case hyr1_21 => (refine Or.inl ⟨by rfl, ?_⟩; intro w hSw; (try dsimp only at hSw); go_simp; all_goals with_reducible rfl)
          try simp only [Act.put, List.setIfInBounds_toArray, List.set_cons_zero, List.set_cons_succ]
          refine wpAnyH_take (i := 22) (oi := ?oir1_22) (v := ?vr1_22) ?hir1_22 (by kernel_rfl) (by kernel_rfl) (by kernel_rfl) ?hqr1_22 ?hyr1_22 (by assumption) ?restr1_22
          case hir1_22 => simp only [List.getElem?_toArray, List.getElem?_cons_succ, List.getElem?_cons_zero]; rfl
          case hqr1_22 => exact fun _ _ _ h => h
          case hyr1_22 => (refine Or.inl ⟨by rfl, ?_⟩; intro w hSw; (try dsimp only at hSw); go_simp; all_goals with_reducible rfl)
          try simp only [Act.put, List.setIfInBounds_toArray, List.set_cons_zero, List.set_cons_succ]
          refine wpAnyH_take (i := 23) (oi := ?oir1_23) (v := ?vr1_23) ?hir1_23 (by kernel_rfl) (by kernel_rfl) (by kernel_rfl) ?hqr1_23 ?hyr1_23 (by assumption) ?restr1_23
          case hir1_23 => simp only [List.getElem?_toArray, List.getElem?_cons_succ, List.getElem?_cons_zero]; rfl
          case hqr1_23 => exact fun _ _ _ h => h
          case hyr1_23 => (refine Or.inl ⟨by rfl, ?_⟩; intro w hSw; (try dsimp only at hSw); go_simp; all_goals with_reducible rfl)
          try simp only [Act.put, List.setIfInBounds_toArray, List.set_cons_zero, List.set_cons_succ]
          refine wpAnyH_take (i := 24) (oi := ?oir1_24) (v := ?vr1_24) ?hir1_24 (by kernel_rfl) (by kernel_rfl) (by kernel_rfl) ?hqr1_24 ?hyr1_24 (by assumption) ?restr1_24
          case hir1_24 => simp only [List.getElem?_toArray, List.getElem?_cons_succ, List.getElem?_cons_zero]; rfl
          case hqr1_24 => exact fun _ _ _ h => h
          case hyr1_24 => (refine Or.inl ⟨by rfl, ?_⟩; intro w hSw; (try dsimp only at hSw); go_simp; all_goals with_reducible rfl)
          try simp only [Act.put, List.setIfInBounds_toArray, List.set_cons_zero, List.set_cons_succ]
          refine wpAnyH_take (i := 25) (oi := ?oir1_25) (v := ?vr1_25) ?hir1_25 (by kernel_rfl) (by kernel_rfl) (by kernel_rfl) ?hqr1_25 ?hyr1_25 (by assumption) ?restr1_25
          case hir1_25 => simp only [List.getElem?_toArray, List.getElem?_cons_succ, List.getElem?_cons_zero]; rfl
          case hqr1_25 => exact fun _ _ _ h => h
          case hyr1_25 => (refine Or.inl ⟨by rfl, ?_⟩; intro w hSw; (try dsimp only at hSw); go_simp; all_goals with_reducible rfl)
          try simp only [Act.put, List.setIfInBounds_toArray, List.set_cons_zero, List.set_cons_succ]
          refine wpAnyH_take (i := 26) (oi := ?oir1_26) (v := ?vr1_26) ?hir1_26 (by kernel_rfl) (by kernel_rfl) (by kernel_rfl) ?hqr1_26 ?hyr1_26 (by assumption) ?restr1_26
          case hir1_26 => simp only [List.getElem?_toArray, List.getElem?_cons_succ, List.getElem?_cons_zero]; rfl
          case hqr1_26 => exact fun _ _ _ h => h
          case hyr1_26 => (refine Or.inl ⟨by rfl, ?_⟩; intro w hSw; (try dsimp only at hSw); go_simp; all_goals with_reducible rfl)
          try simp only [Act.put, List.setIfInBounds_toArray, List.set_cons_zero, List.set_cons_succ]
          refine wpAnyH_take (i := 27) (oi := ?oir1_27) (v := ?vr1_27) ?hir1_27 (by kernel_rfl) (by kernel_rfl) (by kernel_rfl) ?hqr1_27 ?hyr1_27 (by assumption) ?restr1_27
          case hir1_27 => simp only [List.getElem?_toArray, List.getElem?_cons_succ, List.getElem?_cons_zero]; rfl
          case hqr1_27 => exact fun _ _ _ h => h
          case hyr1_27 => (refine Or.inl ⟨by rfl, ?_⟩; intro w hSw; (try dsimp only at hSw); go_simp; all_goals with_reducible rfl)
          try simp only [Act.put, List.setIfInBounds_toArray, List.set_cons_zero, List.set_cons_succ]
          refine wpAnyH_take (i := 28) (oi := ?oir1_28) (v := ?vr1_28) ?hir1_28 (by kernel_rfl) (by kernel_rfl) (by kernel_rfl) ?hqr1_28 ?hyr1_28 (by assumption) ?restr1_28
          case hir1_28 => simp only [List.getElem?_toArray, List.getElem?_cons_succ, List.getElem?_cons_zero]; rfl
          case hqr1_28 => exact fun _ _ _ h => h
          case hyr1_28 => (refine Or.inl ⟨by rfl, ?_⟩; intro w hSw; (try dsimp only at hSw); go_simp; all_goals with_reducible rfl)
          try simp only [Act.put, List.setIfInBounds_toArray, List.set_cons_zero, List.set_cons_succ]
          refine wpAnyH_take (i := 29) (oi := ?oir1_29) (v := ?vr1_29) ?hir1_29 (by kernel_rfl) (by kernel_rfl) (by kernel_rfl) ?hqr1_29 ?hyr1_29 (by assumption) ?restr1_29
          case hir1_29 => simp only [List.getElem?_toArray, List.getElem?_cons_succ, List.getElem?_cons_zero]; rfl
          case hqr1_29 => exact fun _ _ _ h => h
          case hyr1_29 => (refine Or.inl ⟨by rfl, ?_⟩; intro w hSw; (try dsimp only at hSw); go_simp; all_goals with_reducible rfl)
          try simp only [Act.put, List.setIfInBounds_toArray, List.set_cons_zero, List.set_cons_succ]
          refine wpAnyH_take (i := 30) (oi := ?oir1_30) (v := ?vr1_30) ?hir1_30 (by kernel_rfl) (by kernel_rfl) (by kernel_rfl) ?hqr1_30 ?hyr1_30 (by assumption) ?restr1_30
          case hir1_30 => simp only [List.getElem?_toArray, List.getElem?_cons_succ, List.getElem?_cons_zero]; rfl
          case hqr1_30 => exact fun _ _ _ h => h
          case hyr1_30 => (refine Or.inl ⟨by rfl, ?_⟩; intro w hSw; (try dsimp only at hSw); go_simp; all_goals with_reducible rfl)
          try simp only [Act.put, List.setIfInBounds_toArray, List.set_cons_zero, List.set_cons_succ]
          refine wpAnyH_take (i := 31) (oi := ?oir1_31) (v := ?vr1_31) ?hir1_31 (by kernel_rfl) (by kernel_rfl) (by kernel_rfl) ?hqr1_31 ?hyr1_31 (by assumption) ?restr1_31
          case hir1_31 => simp only [List.getElem?_toArray, List.getElem?_cons_succ, List.getElem?_cons_zero]; rfl
          case hqr1_31 => exact fun _ _ _ h => h
          case hyr1_31 => (refine Or.inl ⟨by rfl, ?_⟩; intro w hSw; (try dsimp only at hSw); go_simp; all_goals with_reducible rfl)
          try simp only [Act.put, List.setIfInBounds_toArray, List.set_cons_zero, List.set_cons_succ]
          refine wpAnyH_take (i := 32) (oi := ?oir1_32) (v := ?vr1_32) ?hir1_32 (by kernel_rfl) (by kernel_rfl) (by kernel_rfl) ?hqr1_32 ?hyr1_32 (by assumption) ?restr1_32
          case hir1_32 => simp only [List.getElem?_toArray, List.getElem?_cons_succ, List.getElem?_cons_zero]; rfl
          case hqr1_32 => exact fun _ _ _ h => h
          case hyr1_32 => (refine Or.inl ⟨by rfl, ?_⟩; intro w hSw; (try dsimp only at hSw); go_simp; all_goals with_reducible rfl)
          try simp only [Act.put, List.setIfInBounds_toArray, List.set_cons_zero, List.set_cons_succ]
          refine wpAnyH_take (i := 33) (oi := ?oir1_33) (v := ?vr1_33) ?hir1_33 (by kernel_rfl) (by kernel_rfl) (by kernel_rfl) ?hqr1_33 ?hyr1_33 (by assumption) ?restr1_33
          case hir1_33 => simp only [List.getElem?_toArray, List.getElem?_cons_succ, List.getElem?_cons_zero]; rfl
          case hqr1_33 => exact fun _ _ _ h => h
          case hyr1_33 => (refine Or.inl ⟨by rfl, ?_⟩; intro w hSw; (try dsimp only at hSw); go_simp; all_goals with_reducible rfl)
          try simp only [Act.put, List.setIfInBounds_toArray, List.set_cons_zero, List.set_cons_succ]
          refine wpAnyH_take (i := 34) (oi := ?oir1_34) (v := ?vr1_34) ?hir1_34 (by kernel_rfl) (by kernel_rfl) (by kernel_rfl) ?hqr1_34 ?hyr1_34 (by assumption) ?restr1_34
          case hir1_34 => simp only [List.getElem?_toArray, List.getElem?_cons_succ, List.getElem?_cons_zero]; rfl
          case hqr1_34 => exact fun _ _ _ h => h
          case hyr1_34 => (refine Or.inl ⟨by rfl, ?_⟩; intro w hSw; (try dsimp only at hSw); go_simp; all_goals with_reducible rfl)
          try simp only [Act.put, List.setIfInBounds_toArray, List.set_cons_zero, List.set_cons_succ]
          refine wpAnyH_take (i := 35) (oi := ?oir1_35) (v := ?vr1_35) ?hir1_35 (by kernel_rfl) (by kernel_rfl) (by kernel_rfl) ?hqr1_35 ?hyr1_35 (by assumption) ?restr1_35
          case hir1_35 => simp only [List.getElem?_toArray, List.getElem?_cons_succ, List.getElem?_cons_zero]; rfl
          case hqr1_35 => exact fun _ _ _ h => h
          case hyr1_35 => (refine Or.inl ⟨by rfl, ?_⟩; intro w hSw; (try dsimp only at hSw); go_simp; all_goals with_reducible rfl)
          try simp only [Act.put, List.setIfInBounds_toArray, List.set_cons_zero, List.set_cons_succ]
          refine wpAnyH_take (i := 36) (oi := ?oir1_36) (v := ?vr1_36) ?hir1_36 (by kernel_rfl) (by kernel_rfl) (by kernel_rfl) ?hqr1_36 ?hyr1_36 (by assumption) ?restr1_36
          case hir1_36 => simp only [List.getElem?_toArray, List.getElem?_cons_succ, List.getElem?_cons_zero]; rfl
          case hqr1_36 => exact fun _ _ _ h => h
          case hyr1_36 => (refine Or.inl ⟨by rfl, ?_⟩; intro w hSw; (try dsimp only at hSw); go_simp; all_goals with_reducible rfl)
          try simp only [Act.put, List.setIfInBounds_toArray, List.set_cons_zero, List.set_cons_succ]
          refine wpAnyH_take (i := 37) (oi := ?oir1_37) (v := ?vr1_37) ?hir1_37 (by kernel_rfl) (by kernel_rfl) (by kernel_rfl) ?hqr1_37 ?hyr1_37 (by assumption) ?restr1_37
          case hir1_37 => simp only [List.getElem?_toArray, List.getElem?_cons_succ, List.getElem?_cons_zero]; rfl
          case hqr1_37 => exact fun _ _ _ h => h
          case hyr1_37 => (refine Or.inl ⟨by rfl, ?_⟩; intro w hSw; (try dsimp only at hSw); go_simp; all_goals with_reducible rfl)
          try simp only [Act.put, List.setIfInBounds_toArray, List.set_cons_zero, List.set_cons_succ]
          refine wpAnyH_take (i := 38) (oi := ?oir1_38) (v := ?vr1_38) ?hir1_38 (by kernel_rfl) (by kernel_rfl) (by kernel_rfl) ?hqr1_38 ?hyr1_38 (by assumption) ?restr1_38
          case hir1_38 => simp only [List.getElem?_toArray, List.getElem?_cons_succ, List.getElem?_cons_zero]; rfl
          case hqr1_38 => exact fun _ _ _ h => h
          case hyr1_38 => (refine Or.inl ⟨by rfl, ?_⟩; intro w hSw; (try dsimp only at hSw); go_simp; all_goals with_reducible rfl)
          try simp only [Act.put, List.setIfInBounds_toArray, List.set_cons_zero, List.set_cons_succ]
          refine wpAnyH_take (i := 39) (oi := ?oir1_39) (v := ?vr1_39) ?hir1_39 (by kernel_rfl) (by kernel_rfl) (by kernel_rfl) ?hqr1_39 ?hyr1_39 (by assumption) ?restr1_39
          case hir1_39 => simp only [List.getElem?_toArray, List.getElem?_cons_succ, List.getElem?_cons_zero]; rfl
          case hqr1_39 => exact fun _ _ _ h => h
          case hyr1_39 => (refine Or.inl ⟨by rfl, ?_⟩; intro w hSw; (try dsimp only at hSw); go_simp; all_goals with_reducible rfl)
          try simp only [Act.put, List.setIfInBounds_toArray, List.set_cons_zero, List.set_cons_succ]
          refine wpAnyH_take (i := 40) (oi := ?oir1_40) (v := ?vr1_40) ?hir1_40 (by kernel_rfl) (by kernel_rfl) (by kernel_rfl) ?hqr1_40 ?hyr1_40 (by assumption) ?restr1_40
          case hir1_40 => simp only [List.getElem?_toArray, List.getElem?_cons_succ, List.getElem?_cons_zero]; rfl
          case hqr1_40 => exact fun _ _ _ h => h
          case hyr1_40 => (refine Or.inl ⟨by rfl, ?_⟩; intro w hSw; (try dsimp only at hSw); go_simp; all_goals with_reducible rfl)
          try simp only [Act.put, List.setIfInBounds_toArray, List.set_cons_zero, List.set_cons_succ]
          refine wpAnyH_take (i := 41) (oi := ?oir1_41) (v := ?vr1_41) ?hir1_41 (by kernel_rfl) (by kernel_rfl) (by kernel_rfl) ?hqr1_41 ?hyr1_41 (by assumption) ?restr1_41
          case hir1_41 => simp only [List.getElem?_toArray, List.getElem?_cons_succ, List.getElem?_cons_zero]; rfl
          case hqr1_41 => exact fun _ _ _ h => h
          case hyr1_41 => (refine Or.inl ⟨by rfl, ?_⟩; intro w hSw; (try dsimp only at hSw); go_simp; all_goals with_reducible rfl)
          try simp only [Act.put, List.setIfInBounds_toArray, List.set_cons_zero, List.set_cons_succ]
          refine wpAnyH_take (i := 42) (oi := ?oir1_42) (v := ?vr1_42) ?hir1_42 (by kernel_rfl) (by kernel_rfl) (by kernel_rfl) ?hqr1_42 ?hyr1_42 (by assumption) ?restr1_42
          case hir1_42 => simp only [List.getElem?_toArray, List.getElem?_cons_succ, List.getElem?_cons_zero]; rfl
          case hqr1_42 => exact fun _ _ _ h => h
          case hyr1_42 => (refine Or.inl ⟨by rfl, ?_⟩; intro w hSw; (try dsimp only at hSw); go_simp; all_goals with_reducible rfl)
          try simp only [Act.put, List.setIfInBounds_toArray, List.set_cons_zero, List.set_cons_succ]
          refine wpAnyH_done (by kernel_rfl) ?_ _
          clear hHeld kd kar ky kx kp0 kp1
          go_wp2_with fail
          go_roundw
          case rel => exact ⟨1, by omega, by go_num, h_bt_301⟩
          case measure => simp [intOf]; omega
        | succ i =>
          obtain ⟨v, hv⟩ : ∃ v, ith dq i = v := ⟨_, rfl⟩
          have hlt2 : i < m_a := by omega
          have kd2 := HCC.out i hlt2
          rw [hv] at kd2
          have ha5 := HA4.out (by omega)
          rw [Nat.add_sub_cancel, hv] at ha5
          have d6 : decide (((at_ : Nat) : Int) ≤ v) = false := decide_eq_false (by omega)
          have hw1 : IntKind.i64.wrap (((i + 1 : Nat) : Int) - 1) = ((i : Nat) : Int) := (congrArg IntKind.i64.wrap (by omega)).trans (wrap_in (z := ((i : Nat) : Int)) (by omega) (by omega))
          have hw2 : IntKind.i64.wrap ((i : Nat) : Int) = ((i : Nat) : Int) := wrap_in (by omega) (by omega)
          clear ha5 hv
          have hb := (Below.refl wr.heap.size wr).drew
          replace kd := cell_below hb kd
          replace kar := cell_below hb kar
          replace ky := cell_below hb ky
          replace kx := cell_below hb kx
          replace kp0 := cell_below hb kp0
          replace kp1 := cell_below hb kp1
          replace kd2 := cell_below hb kd2
          have B301 := B300.trans (hb.mono B300.size)
          have h_p_301 := h_p_300.later hb
          have h_y_301 := h_y_300.later hb
          have h_x_301 := h_x_300.below hb
          have h_ar_301 := h_ar_300.later hb
          have h_ad_301 := h_ad_300.below hb
          have h_bt_301 := h_bt_300.trans (hb.mono h_bt_300.size)
          clear hb B300 h_p_300 h_y_300 h_x_300 h_ar_300 h_ad_300 h_bt_300
          refine wp_region_held_drew (S := (fun w' => w'.cell? ⟨b9, o9 + (i + 1), none⟩ = some (.int .i64 ((at_ : Nat) : Int)) ∧ w'.cell? ⟨w6.heap.size, 3, none⟩ = some (.slice (some ⟨b9, o9, none⟩) m_a d_a) ∧ w'.cell? ⟨w.heap.size + 1 + 1, 0, none⟩ = some (.slice (some ⟨b8, o8, none⟩) n_x c_x) ∧ w'.cell? ⟨b8, o8 + at_, none⟩ = some (.int .u8 ((x : Nat) : Int)) ∧ w'.cell? ⟨w.heap.size + 1, 0, none⟩ = some (.int .u8 ((p.low : Nat) : Int)) ∧ w'.cell? ⟨w.heap.size + 1, 1, none⟩ = some (.int .u8 ((p.high : Nat) : Int)) ∧ w'.cell? ⟨b9, o9 + i, none⟩ = some (.int .i64 v) ∧ True)) (by kernel_rfl) ?_ (fun hHeld => ?_)
          · exact ⟨kd, kar, ky, kx, kp0, kp1, kd2, trivial⟩
          generalize wr.drew = w301 at *
          refine wpAnyH_take (i := 0) (oi := ?oir2_0) (v := ?vr2_0) ?hir2_0 (by kernel_rfl) (by kernel_rfl) (by kernel_rfl) ?hqr2_0 ?hyr2_0 (by assumption) ?restr2_0
          case hir2_0 => simp only [List.getElem?_toArray, List.getElem?_cons_succ, List.getElem?_cons_zero]; rfl
          case hqr2_0 => exact fun _ _ _ h => h
          case hyr2_0 => (refine Or.inl ⟨by rfl, ?_⟩; intro w hSw; (try dsimp only at hSw); go_simp; all_goals with_reducible rfl)
          try simp only [Act.put, List.setIfInBounds_toArray, List.set_cons_zero, List.set_cons_succ]
          refine wpAnyH_take (i := 1) (oi := ?oir2_1) (v := ?vr2_1) ?hir2_1 (by kernel_rfl) (by kernel_rfl) (by kernel_rfl) ?hqr2_1 ?hyr2_1 (by assumption) ?restr2_1
          case hir2_1 => simp only [List.getElem?_toArray, List.getElem?_cons_succ, List.getElem?_cons_zero]; rfl
          case hqr2_1 => exact fun _ _ _ h => h
          case hyr2_1 => (refine Or.inl ⟨by rfl, ?_⟩; intro w hSw; (try dsimp only at hSw); go_simp; all_goals with_reducible rfl)
          try simp only [Act.put, List.setIfInBounds_toArray, List.set_cons_zero, List.set_cons_succ]
          refine wpAnyH_take (i := 2) (oi := ?oir2_2) (v := ?vr2_2) ?hir2_2 (by kernel_rfl) (by kernel_rfl) (by kernel_rfl) ?hqr2_2 ?hyr2_2 (by assumption) ?restr2_2
          case hir2_2 => simp only [List.getElem?_toArray, List.getElem?_cons_succ, List.getElem?_cons_zero]; rfl
          case hqr2_2 => exact fun _ _ _ h => h
          case hyr2_2 => (refine Or.inl ⟨by rfl, ?_⟩; intro w hSw; (try dsimp only at hSw); go_simp; all_goals with_reducible rfl)
          try simp only [Act.put, List.setIfInBounds_toArray, List.set_cons_zero, List.set_cons_succ]
          refine wpAnyH_take (i := 3) (oi := ?oir2_3) (v := ?vr2_3) ?hir2_3 (by kernel_rfl) (by kernel_rfl) (by kernel_rfl) ?hqr2_3 ?hyr2_3 (by assumption) ?restr2_3
          case hir2_3 => simp only [List.getElem?_toArray, List.getElem?_cons_succ, List.getElem?_cons_zero]; rfl
          case hqr2_3 => exact fun _ _ _ h => h
          case hyr2_3 => (refine Or.inl ⟨by rfl, ?_⟩; intro w hSw; (try dsimp only at hSw); go_simp; all_goals with_reducible rfl)
          try simp only [Act.put, List.setIfInBounds_toArray, List.set_cons_zero, List.set_cons_succ]
          refine wpAnyH_take (i := 4) (oi := ?oir2_4) (v := ?vr2_4) ?hir2_4 (by kernel_rfl) (by kernel_rfl) (by kernel_rfl) ?hqr2_4 ?hyr2_4 (by assumption) ?restr2_4
          case hir2_4 => simp only [List.getElem?_toArray, List.getElem?_cons_succ, List.getElem?_cons_zero]; rfl
          case hqr2_4 => exact fun _ _ _ h => h
          case hyr2_4 => (refine Or.inl ⟨by rfl, ?_⟩; intro w hSw; (try dsimp only at hSw); go_simp; all_goals with_reducible rfl)
          try simp only [Act.put, List.setIfInBounds_toArray, List.set_cons_zero, List.set_cons_succ]
          refine wpAnyH_take (i := 5) (oi := ?oir2_5) (v := ?vr2_5) ?hir2_5 (by kernel_rfl) (by kernel_rfl) (by kernel_rfl) ?hqr2_5 ?hyr2_5 (by assumption) ?restr2_5
          case hir2_5 => simp only [List.getElem?_toArray, List.getElem?_cons_succ, List.getElem?_cons_zero]; rfl
          case hqr2_5 => exact fun _ _ _ h => h
          case hyr2_5 => (refine Or.inl ⟨by rfl, ?_⟩; intro w hSw; (try dsimp only at hSw); go_simp; all_goals with_reducible rfl)
          try simp only [Act.put, List.setIfInBounds_toArray, List.set_cons_zero, List.set_cons_succ]
          refine wpAnyH_take (i := 6) (oi := ?oir2_6) (v := ?vr2_6) ?hir2_6 (by kernel_rfl) (by kernel_rfl) (by kernel_rfl) ?hqr2_6 ?hyr2_6 (by assumption) ?restr2_6
          case hir2_6 => simp only [List.getElem?_toArray, List.getElem?_cons_succ, List.getElem?_cons_zero]; rfl
          case hqr2_6 => exact fun _ _ _ h => h
          case hyr2_6 => (refine Or.inl ⟨by rfl, ?_⟩; intro w hSw; (try dsimp only at hSw); go_simp; all_goals with_reducible rfl)
          try simp only [Act.put, List.setIfInBounds_toArray, List.set_cons_zero, List.set_cons_succ]
          refine wpAnyH_take (i := 7) (oi := ?oir2_7) (v := ?vr2_7) ?hir2_7 (by kernel_rfl) (by kernel_rfl) (by kernel_rfl) ?hqr2_7 ?hyr2_7 (by assumption) ?restr2_7
          case hir2_7 => simp only [List.getElem?_toArray, List.getElem?_cons_succ, List.getElem?_cons_zero]; rfl
          case hqr2_7 => exact fun _ _ _ h => h
          case hyr2_7 => (refine Or.inl ⟨by rfl, ?_⟩; intro w hSw; (try dsimp only at hSw); go_simp; all_goals with_reducible rfl)
          try simp only [Act.put, List.setIfInBounds_toArray, List.set_cons_zero, List.set_cons_succ]
          refine wpAnyH_take (i := 8) (oi := ?oir2_8) (v := ?vr2_8) ?hir2_8 (by kernel_rfl) (by kernel_rfl) (by kernel_rfl) ?hqr2_8 ?hyr2_8 (by assumption) ?restr2_8
          case hir2_8 => simp only [List.getElem?_toArray, List.getElem?_cons_succ, List.getElem?_cons_zero]; rfl
          case hqr2_8 => exact fun _ _ _ h => h
          case hyr2_8 => (refine Or.inl ⟨by rfl, ?_⟩; intro w hSw; (try dsimp only at hSw); go_simp; all_goals with_reducible rfl)
          try simp only [Act.put, List.setIfInBounds_toArray, List.set_cons_zero, List.set_cons_succ]
          refine wpAnyH_take (i := 9) (oi := ?oir2_9) (v := ?vr2_9) ?hir2_9 (by kernel_rfl) (by kernel_rfl) (by kernel_rfl) ?hqr2_9 ?hyr2_9 (by assumption) ?restr2_9
          case hir2_9 => simp only [List.getElem?_toArray, List.getElem?_cons_succ, List.getElem?_cons_zero]; rfl
          case hqr2_9 => exact fun _ _ _ h => h
          case hyr2_9 => (refine Or.inl ⟨by rfl, ?_⟩; intro w hSw; (try dsimp only at hSw); go_simp; all_goals with_reducible rfl)
          try simp only [Act.put, List.setIfInBounds_toArray, List.set_cons_zero, List.set_cons_succ]
          refine wpAnyH_take (i := 10) (oi := ?oir2_10) (v := ?vr2_10) ?hir2_10 (by kernel_rfl) (by kernel_rfl) (by kernel_rfl) ?hqr2_10 ?hyr2_10 (by assumption) ?restr2_10
          case hir2_10 => simp only [List.getElem?_toArray, List.getElem?_cons_succ, List.getElem?_cons_zero]; rfl
          case hqr2_10 => exact fun _ _ _ h => h
          case hyr2_10 => (refine Or.inl ⟨by rfl, ?_⟩; intro w hSw; (try dsimp only at hSw); go_simp; all_goals with_reducible rfl)
          try simp only [Act.put, List.setIfInBounds_toArray, List.set_cons_zero, List.set_cons_succ]
          refine wpAnyH_take (i := 11) (oi := ?oir2_11) (v := ?vr2_11) ?hir2_11 (by kernel_rfl) (by kernel_rfl) (by kernel_rfl) ?hqr2_11 ?hyr2_11 (by assumption) ?restr2_11
          case hir2_11 => simp only [List.getElem?_toArray, List.getElem?_cons_succ, List.getElem?_cons_zero]; rfl
          case hqr2_11 => exact fun _ _ _ h => h
          case hyr2_11 => (refine Or.inl ⟨by rfl, ?_⟩; intro w hSw; (try dsimp only at hSw); go_simp; all_goals with_reducible rfl)
          try simp only [Act.put, List.setIfInBounds_toArray, List.set_cons_zero, List.set_cons_succ]
          refine wpAnyH_take (i := 12) (oi := ?oir2_12) (v := ?vr2_12) ?hir2_12 (by kernel_rfl) (by kernel_rfl) (by kernel_rfl) ?hqr2_12 ?hyr2_12 (by assumption) ?restr2_12
          case hir2_12 => simp only [List.getElem?_toArray, List.getElem?_cons_succ, List.getElem?_cons_zero]; rfl
          case hqr2_12 => exact fun _ _ _ h => h
          case hyr2_12 => (refine Or.inl ⟨by rfl, ?_⟩; intro w hSw; (try dsimp only at hSw); go_simp; all_goals with_reducible rfl)
          try simp only [Act.put, List.setIfInBounds_toArray, List.set_cons_zero, List.set_cons_succ]
          refine wpAnyH_take (i := 13) (oi := ?oir2_13) (v := ?vr2_13) ?hir2_13 (by kernel_rfl) (by kernel_rfl) (by kernel_rfl) ?hqr2_13 ?hyr2_13 (by assumption) ?restr2_13
          case hir2_13 => simp only [List.getElem?_toArray, List.getElem?_cons_succ, List.getElem?_cons_zero]; rfl
          case hqr2_13 => exact fun _ _ _ h => h
          case hyr2_13 => (refine Or.inl ⟨by rfl, ?_⟩; intro w hSw; (try dsimp only at hSw); go_simp; all_goals with_reducible rfl)
          try simp only [Act.put, List.setIfInBounds_toArray, List.set_cons_zero, List.set_cons_succ]
          refine wpAnyH_take (i := 14) (oi := ?oir2_14) (v := ?vr2_14) ?hir2_14 (by kernel_rfl) (by kernel_rfl) (by kernel_rfl) ?hqr2_14 ?hyr2_14 (by assumption) ?restr2_14
          case hir2_14 => simp only [List.getElem?_toArray, List.getElem?_cons_succ, List.getElem?_cons_zero]; rfl
          case hqr2_14 => exact fun _ _ _ h => h
          case hyr2_14 => (refine Or.inl ⟨by rfl, ?_⟩; intro w hSw; (try dsimp only at hSw); go_simp; all_goals with_reducible rfl)
          try simp only [Act.put, List.setIfInBounds_toArray, List.set_cons_zero, List.set_cons_succ]
          refine wpAnyH_take (i := 15) (oi := ?oir2_15) (v := ?vr2_15) ?hir2_15 (by kernel_rfl) (by kernel_rfl) (by kernel_rfl) ?hqr2_15 ?hyr2_15 (by assumption) ?restr2_15
          case hir2_15 => simp only [List.getElem?_toArray, List.getElem?_cons_succ, List.getElem?_cons_zero]; rfl
          case hqr2_15 => exact fun _ _ _ h => h
          case hyr2_15 => (refine Or.inl ⟨by rfl, ?_⟩; intro w hSw; (try dsimp only at hSw); go_simp; all_goals with_reducible rfl)
          try simp only [Act.put, List.setIfInBounds_toArray, List.set_cons_zero, List.set_cons_succ]
          refine wpAnyH_take (i := 16) (oi := ?oir2_16) (v := ?vr2_16) ?hir2_16 (by kernel_rfl) (by kernel_rfl) (by kernel_rfl) ?hqr2_16 ?hyr2_16 (by assumption) ?restr2_16
          case hir2_16 => simp only [List.getElem?_toArray, List.getElem?_cons_succ, List.getElem?_cons_zero]; rfl
          case hqr2_16 => exact fun _ _ _ h => h
          case hyr2_16 => (refine Or.inl ⟨by rfl, ?_⟩; intro w hSw; (try dsimp only at hSw); go_simp; all_goals with_reducible rfl)
          try simp only [Act.put, List.setIfInBounds_toArray, List.set_cons_zero, List.set_cons_succ]
          refine wpAnyH_take (i := 17) (oi := ?oir2_17) (v := ?vr2_17) ?hir2_17 (by kernel_rfl) (by kernel_rfl) (by kernel_rfl) ?hqr2_17 ?hyr2_17 (by assumption) ?restr2_17
          case hir2_17 => simp only [List.getElem?_toArray, List.getElem?_cons_succ, List.getElem?_cons_zero]; rfl
          case hqr2_17 => exact fun _ _ _ h => h
          case hyr2_17 => (refine Or.inl ⟨by rfl, ?_⟩; intro w hSw; (try dsimp only at hSw); go_simp; all_goals with_reducible rfl)
          try simp only [Act.put, List.setIfInBounds_toArray, List.set_cons_zero, List.set_cons_succ]
          refine wpAnyH_take (i := 18) (oi := ?oir2_18) (v := ?vr2_18) ?hir2_18 (by kernel_rfl) (by kernel_rfl) (by kernel_rfl) ?hqr2_18 ?hyr2_18 (by assumption) ?restr2_18
          case hir2_18 => simp only [List.getElem?_toArray, List.getElem?_cons_succ, List.getElem?_cons_zero]; rfl
          case hqr2_18 => exact fun _ _ _ h => h
          case hyr2_18 => (refine Or.inl ⟨by rfl, ?_⟩; intro w hSw; (try dsimp only at hSw); go_simp; all_goals with_reducible rfl)
          try simp only [Act.put, List.setIfInBounds_toArray, List.set_cons_zero, List.set_cons_succ]
          refine wpAnyH_take (i := 19) (oi := ?oir2_19) (v := ?vr2_19) ?hir2_19 (by kernel_rfl) (by kernel_rfl) (by kernel_rfl) ?hqr2_19 ?hyr2_19 (by assumption) ?restr2_19
          case hir2_19 => simp only [List.getElem?_toArray, List.getElem?_cons_succ, List.getElem?_cons_zero]; rfl
          case hqr2_19 => exact fun _ _ _ h => h
          case hyr2_19 => (refine Or.inl ⟨by rfl, ?_⟩; intro w hSw; (try dsimp only at hSw); go_simp; all_goals with_reducible rfl)
          try simp only [Act.put, List.setIfInBounds_toArray, List.set_cons_zero, List.set_cons_succ]
          refine wpAnyH_take (i := 20) (oi := ?oir2_20) (v := ?vr2_20) ?hir2_20 (by kernel_rfl) (by kernel_rfl) (by kernel_rfl) ?hqr2_20 ?hyr2_20 (by assumption) ?restr2_20
          case hir2_20 => simp only [List.getElem?_toArray, List.getElem?_cons_succ, List.getElem?_cons_zero]; rfl
          case hqr2_20 => exact fun _ _ _ h => h
          case hyr2_20 => (refine Or.inl ⟨by rfl, ?_⟩; intro w hSw; (try dsimp only at hSw); go_simp; all_goals with_reducible rfl)
          try simp only [Act.put, List.setIfInBounds_toArray, List.set_cons_zero, List.set_cons_succ]
          refine wpAnyH_take (i := 21) (oi := ?oir2_21) (v := ?vr2_21) ?hir2_21 (by kernel_rfl) (by kernel_rfl) (by kernel_rfl) ?hqr2_21 ?hyr2_21 (by assumption) ?restr2_21
          case hir2_21 => simp only [List.getElem?_toArray, List.getElem?_cons_succ, List.getElem?_cons_zero]; rfl
          case hqr2_21 => exact fun _ _ _ h => h
          case hyr2_21 => (refine Or.inl ⟨by rfl, ?_⟩; intro w hSw; (try dsimp only at hSw); go_simp; all_goals with_reducible rfl)
          try simp only [Act.put, List.setIfInBounds_toArray, List.set_cons_zero, List.set_cons_succ]
          refine wpAnyH_take (i := 22) (oi := ?oir2_22) (v := ?vr2_22) ?hir2_22 (by kernel_rfl) (by kernel_rfl) (by kernel_rfl) ?hqr2_22 ?hyr2_22 (by assumption) ?restr2_22
          case hir2_22 => simp only [List.getElem?_toArray, List.getElem?_cons_succ, List.getElem?_cons_zero]; rfl
          case hqr2_22 => exact fun _ _ _ h => h
          case hyr2_22 => (refine Or.inl ⟨by rfl, ?_⟩; intro w hSw; (try dsimp only at hSw); go_simp; all_goals with_reducible rfl)
          try simp only [Act.put, List.setIfInBounds_toArray, List.set_cons_zero, List.set_cons_succ]
          refine wpAnyH_take (i := 23) (oi := ?oir2_23) (v := ?vr2_23) ?hir2_23 (by kernel_rfl) (by kernel_rfl) (by kernel_rfl) ?hqr2_23 ?hyr2_23 (by assumption) ?restr2_23
          case hir2_23 => simp only [List.getElem?_toArray, List.getElem?_cons_succ, List.getElem?_cons_zero]; rfl
          case hqr2_23 => exact fun _ _ _ h => h
          case hyr2_23 => (refine Or.inl ⟨by rfl, ?_⟩; intro w hSw; (try dsimp only at hSw); go_simp; all_goals with_reducible rfl)
          try simp only [Act.put, List.setIfInBounds_toArray, List.set_cons_zero, List.set_cons_succ]
          refine wpAnyH_take (i := 24) (oi := ?oir2_24) (v := ?vr2_24) ?hir2_24 (by kernel_rfl) (by kernel_rfl) (by kernel_rfl) ?hqr2_24 ?hyr2_24 (by assumption) ?restr2_24
          case hir2_24 => simp only [List.getElem?_toArray, List.getElem?_cons_succ, List.getElem?_cons_zero]; rfl
          case hqr2_24 => exact fun _ _ _ h => h
          case hyr2_24 => (refine Or.inl ⟨by rfl, ?_⟩; intro w hSw; (try dsimp only at hSw); go_simp; all_goals with_reducible rfl)
          try simp only [Act.put, List.setIfInBounds_toArray, List.set_cons_zero, List.set_cons_succ]
          refine wpAnyH_take (i := 25) (oi := ?oir2_25) (v := ?vr2_25) ?hir2_25 (by kernel_rfl) (by kernel_rfl) (by kernel_rfl) ?hqr2_25 ?hyr2_25 (by assumption) ?restr2_25
          case hir2_25 => simp only [List.getElem?_toArray, List.getElem?_cons_succ, List.getElem?_cons_zero]; rfl
          case hqr2_25 => exact fun _ _ _ h => h
          case hyr2_25 => (refine Or.inl ⟨by rfl, ?_⟩; intro w hSw; (try dsimp only at hSw); go_simp; all_goals with_reducible rfl)
          try simp only [Act.put, List.setIfInBounds_toArray, List.set_cons_zero, List.set_cons_succ]
          refine wpAnyH_take (i := 26) (oi := ?oir2_26) (v := ?vr2_26) ?hir2_26 (by kernel_rfl) (by kernel_rfl) (by kernel_rfl) ?hqr2_26 ?hyr2_26 (by assumption) ?restr2_26
          case hir2_26 => simp only [List.getElem?_toArray, List.getElem?_cons_succ, List.getElem?_cons_zero]; rfl
          case hqr2_26 => exact fun _ _ _ h => h
          case hyr2_26 => (refine Or.inl ⟨by rfl, ?_⟩; intro w hSw; (try dsimp only at hSw); go_simp; all_goals with_reducible rfl)
          try simp only [Act.put, List.setIfInBounds_toArray, List.set_cons_zero, List.set_cons_succ]
          refine wpAnyH_take (i := 27) (oi := ?oir2_27) (v := ?vr2_27) ?hir2_27 (by kernel_rfl) (by kernel_rfl) (by kernel_rfl) ?hqr2_27 ?hyr2_27 (by assumption) ?restr2_27
          case hir2_27 => simp only [List.getElem?_toArray, List.getElem?_cons_succ, List.getElem?_cons_zero]; rfl
          case hqr2_27 => exact fun _ _ _ h => h
          case hyr2_27 => (refine Or.inl ⟨by rfl, ?_⟩; intro w hSw; (try dsimp only at hSw); go_simp; all_goals with_reducible rfl)
          try simp only [Act.put, List.setIfInBounds_toArray, List.set_cons_zero, List.set_cons_succ]
          refine wpAnyH_take (i := 28) (oi := ?oir2_28) (v := ?vr2_28) ?hir2_28 (by kernel_rfl) (by kernel_rfl) (by kernel_rfl) ?hqr2_28 ?hyr2_28 (by assumption) ?restr2_28
          case hir2_28 => simp only [List.getElem?_toArray, List.getElem?_cons_succ, List.getElem?_cons_zero]; rfl
          case hqr2_28 => exact fun _ _ _ h => h
          case hyr2_28 => (refine Or.inl ⟨by rfl, ?_⟩; intro w hSw; (try dsimp only at hSw); go_simp; all_goals with_reducible rfl)
          try simp only [Act.put, List.setIfInBounds_toArray, List.set_cons_zero, List.set_cons_succ]
          refine wpAnyH_take (i := 29) (oi := ?oir2_29) (v := ?vr2_29) ?hir2_29 (by kernel_rfl) (by kernel_rfl) (by kernel_rfl) ?hqr2_29 ?hyr2_29 (by assumption) ?restr2_29
          case hir2_29 => simp only [List.getElem?_toArray, List.getElem?_cons_succ, List.getElem?_cons_zero]; rfl
          case hqr2_29 => exact fun _ _ _ h => h
          case hyr2_29 => (refine Or.inl ⟨by rfl, ?_⟩; intro w hSw; (try dsimp only at hSw); go_simp; all_goals with_reducible rfl)
          try simp only [Act.put, List.setIfInBounds_toArray, List.set_cons_zero, List.set_cons_succ]
          refine wpAnyH_take (i := 30) (oi := ?oir2_30) (v := ?vr2_30) ?hir2_30 (by kernel_rfl) (by kernel_rfl) (by kernel_rfl) ?hqr2_30 ?hyr2_30 (by assumption) ?restr2_30
          case hir2_30 => simp only [List.getElem?_toArray, List.getElem?_cons_succ, List.getElem?_cons_zero]; rfl
          case hqr2_30 => exact fun _ _ _ h => h
          case hyr2_30 => (refine Or.inl ⟨by rfl, ?_⟩; intro w hSw; (try dsimp only at hSw); go_simp; all_goals with_reducible rfl)
          try simp only [Act.put, List.setIfInBounds_toArray, List.set_cons_zero, List.set_cons_succ]
          refine wpAnyH_take (i := 31) (oi := ?oir2_31) (v := ?vr2_31) ?hir2_31 (by kernel_rfl) (by kernel_rfl) (by kernel_rfl) ?hqr2_31 ?hyr2_31 (by assumption) ?restr2_31
          case hir2_31 => simp only [List.getElem?_toArray, List.getElem?_cons_succ, List.getElem?_cons_zero]; rfl
          case hqr2_31 => exact fun _ _ _ h => h
          case hyr2_31 => (refine Or.inl ⟨by rfl, ?_⟩; intro w hSw; (try dsimp only at hSw); go_simp; all_goals with_reducible rfl)
          try simp only [Act.put, List.setIfInBounds_toArray, List.set_cons_zero, List.set_cons_succ]
          refine wpAnyH_take (i := 32) (oi := ?oir2_32) (v := ?vr2_32) ?hir2_32 (by kernel_rfl) (by kernel_rfl) (by kernel_rfl) ?hqr2_32 ?hyr2_32 (by assumption) ?restr2_32
          case hir2_32 => simp only [List.getElem?_toArray, List.getElem?_cons_succ, List.getElem?_cons_zero]; rfl
          case hqr2_32 => exact fun _ _ _ h => h
          case hyr2_32 => (refine Or.inl ⟨by rfl, ?_⟩; intro w hSw; (try dsimp only at hSw); go_simp; all_goals with_reducible rfl)
          try simp only [Act.put, List.setIfInBounds_toArray, List.set_cons_zero, List.set_cons_succ]
          refine wpAnyH_take (i := 33) (oi := ?oir2_33) (v := ?vr2_33) ?hir2_33 (by kernel_rfl) (by kernel_rfl) (by kernel_rfl) ?hqr2_33 ?hyr2_33 (by assumption) ?restr2_33
          case hir2_33 => simp only [List.getElem?_toArray, List.getElem?_cons_succ, List.getElem?_cons_zero]; rfl
          case hqr2_33 => exact fun _ _ _ h => h
          case hyr2_33 => (refine Or.inl ⟨by rfl, ?_⟩; intro w hSw; (try dsimp only at hSw); go_simp; all_goals with_reducible rfl)
          try simp only [Act.put, List.setIfInBounds_toArray, List.set_cons_zero, List.set_cons_succ]
          refine wpAnyH_take (i := 34) (oi := ?oir2_34) (v := ?vr2_34) ?hir2_34 (by kernel_rfl) (by kernel_rfl) (by kernel_rfl) ?hqr2_34 ?hyr2_34 (by assumption) ?restr2_34
          case hir2_34 => simp only [List.getElem?_toArray, List.getElem?_cons_succ, List.getElem?_cons_zero]; rfl
          case hqr2_34 => exact fun _ _ _ h => h
          case hyr2_34 => (refine Or.inl ⟨by rfl, ?_⟩; intro w hSw; (try dsimp only at hSw); go_simp; all_goals with_reducible rfl)
          try simp only [Act.put, List.setIfInBounds_toArray, List.set_cons_zero, List.set_cons_succ]
          refine wpAnyH_take (i := 35) (oi := ?oir2_35) (v := ?vr2_35) ?hir2_35 (by kernel_rfl) (by kernel_rfl) (by kernel_rfl) ?hqr2_35 ?hyr2_35 (by assumption) ?restr2_35
          case hir2_35 => simp only [List.getElem?_toArray, List.getElem?_cons_succ, List.getElem?_cons_zero]; rfl
          case hqr2_35 => exact fun _ _ _ h => h
          case hyr2_35 => (refine Or.inl ⟨by rfl, ?_⟩; intro w hSw; (try dsimp only at hSw); go_simp; all_goals with_reducible rfl)
          try simp only [Act.put, List.setIfInBounds_toArray, List.set_cons_zero, List.set_cons_succ]
          refine wpAnyH_take (i := 36) (oi := ?oir2_36) (v := ?vr2_36) ?hir2_36 (by kernel_rfl) (by kernel_rfl) (by kernel_rfl) ?hqr2_36 ?hyr2_36 (by assumption) ?restr2_36
          case hir2_36 => simp only [List.getElem?_toArray, List.getElem?_cons_succ, List.getElem?_cons_zero]; rfl
          case hqr2_36 => exact fun _ _ _ h => h
          case hyr2_36 => (refine Or.inl ⟨by rfl, ?_⟩; intro w hSw; (try dsimp only at hSw); go_simp; all_goals with_reducible rfl)
          try simp only [Act.put, List.setIfInBounds_toArray, List.set_cons_zero, List.set_cons_succ]
          refine wpAnyH_take (i := 37) (oi := ?oir2_37) (v := ?vr2_37) ?hir2_37 (by kernel_rfl) (by kernel_rfl) (by kernel_rfl) ?hqr2_37 ?hyr2_37 (by assumption) ?restr2_37
          case hir2_37 => simp only [List.getElem?_toArray, List.getElem?_cons_succ, List.getElem?_cons_zero]; rfl
          case hqr2_37 => exact fun _ _ _ h => h
          case hyr2_37 => (refine Or.inl ⟨by rfl, ?_⟩; intro w hSw; (try dsimp only at hSw); go_simp; all_goals with_reducible rfl)
          try simp only [Act.put, List.setIfInBounds_toArray, List.set_cons_zero, List.set_cons_succ]
          refine wpAnyH_take (i := 38) (oi := ?oir2_38) (v := ?vr2_38) ?hir2_38 (by kernel_rfl) (by kernel_rfl) (by kernel_rfl) ?hqr2_38 ?hyr2_38 (by assumption) ?restr2_38
          case hir2_38 => simp only [List.getElem?_toArray, List.getElem?_cons_succ, List.getElem?_cons_zero]; rfl
          case hqr2_38 => exact fun _ _ _ h => h
          case hyr2_38 => (refine Or.inl ⟨by rfl, ?_⟩; intro w hSw; (try dsimp only at hSw); go_simp; all_goals with_reducible rfl)
          try simp only [Act.put, List.setIfInBounds_toArray, List.set_cons_zero, List.set_cons_succ]
          refine wpAnyH_take (i := 39) (oi := ?oir2_39) (v := ?vr2_39) ?hir2_39 (by kernel_rfl) (by kernel_rfl) (by kernel_rfl) ?hqr2_39 ?hyr2_39 (by assumption) ?restr2_39
          case hir2_39 => simp only [List.getElem?_toArray, List.getElem?_cons_succ, List.getElem?_cons_zero]; rfl
          case hqr2_39 => exact fun _ _ _ h => h
          case hyr2_39 => (refine Or.inl ⟨by rfl, ?_⟩; intro w hSw; (try dsimp only at hSw); go_simp; all_goals with_reducible rfl)
          try simp only [Act.put, List.setIfInBounds_toArray, List.set_cons_zero, List.set_cons_succ]
          refine wpAnyH_take (i := 40) (oi := ?oir2_40) (v := ?vr2_40) ?hir2_40 (by kernel_rfl) (by kernel_rfl) (by kernel_rfl) ?hqr2_40 ?hyr2_40 (by assumption) ?restr2_40
          case hir2_40 => simp only [List.getElem?_toArray, List.getElem?_cons_succ, List.getElem?_cons_zero]; rfl
          case hqr2_40 => exact fun _ _ _ h => h
          case hyr2_40 => (refine Or.inl ⟨by rfl, ?_⟩; intro w hSw; (try dsimp only at hSw); go_simp; all_goals with_reducible rfl)
          try simp only [Act.put, List.setIfInBounds_toArray, List.set_cons_zero, List.set_cons_succ]
          refine wpAnyH_take (i := 41) (oi := ?oir2_41) (v := ?vr2_41) ?hir2_41 (by kernel_rfl) (by kernel_rfl) (by kernel_rfl) ?hqr2_41 ?hyr2_41 (by assumption) ?restr2_41
          case hir2_41 => simp only [List.getElem?_toArray, List.getElem?_cons_succ, List.getElem?_cons_zero]; rfl
          case hqr2_41 => exact fun _ _ _ h => h
          case hyr2_41 => (refine Or.inl ⟨by rfl, ?_⟩; intro w hSw; (try dsimp only at hSw); go_simp; all_goals with_reducible rfl)
          try simp only [Act.put, List.setIfInBounds_toArray, List.set_cons_zero, List.set_cons_succ]
          refine wpAnyH_take (i := 42) (oi := ?oir2_42) (v := ?vr2_42) ?hir2_42 (by kernel_rfl) (by kernel_rfl) (by kernel_rfl) ?hqr2_42 ?hyr2_42 (by assumption) ?restr2_42
          case hir2_42 => simp only [List.getElem?_toArray, List.getElem?_cons_succ, List.getElem?_cons_zero]; rfl
          case hqr2_42 => exact fun _ _ _ h => h
          case hyr2_42 => (refine Or.inl ⟨by rfl, ?_⟩; intro w hSw; (try dsimp only at hSw); go_simp; all_goals with_reducible rfl)
          try simp only [Act.put, List.setIfInBounds_toArray, List.set_cons_zero, List.set_cons_succ]
          refine wpAnyH_done (by kernel_rfl) ?_ _
          clear hHeld kd kar ky kx kp0 kp1 kd2
          go_wp2_with fail
          go_roundw
          case rel => exact ⟨i + 1 + 1, by omega, by go_num, h_bt_301⟩
          case measure => simp [intOf]; omega

end Go.Proofs.Ytlfempfhohejiaa
