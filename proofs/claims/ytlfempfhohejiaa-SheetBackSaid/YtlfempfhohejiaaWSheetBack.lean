/- The walk of the law SheetBack: it returns true and turns nothing that was there. No condition. Printed by gen_shelaws.py. -/
import Derived.Test.YtlfempfhohejiaaSheY
import Derived.BigQuiet
import Derived.Deep.CutRange
namespace Go.Proofs.Ytlfempfhohejiaa
open Go.RowKit Go.Suf
set_option linter.unusedVariables false
set_option linter.unusedSimpArgs false

set_option maxRecDepth 100000 in
set_option maxHeartbeats 8000000 in
theorem sheetBack_walk (w : World) (nm : ByteArray) (hnl : nm.size ≤ maxLen) {a_s : Option Addr} {n_s c_s : Nat} {ss : List ByteArray} (h_s : RdS w a_s n_s c_s ss) (hsl : ∀ s ∈ ss, s.size ≤ maxLen) (seats : Int) (hs1 : -9223372036854775808 ≤ seats) (hs2 : seats ≤ 9223372036854775807) (rule : Nat) (hr : rule < 256) (kd : Nat) (hk : kd < 256) {a_m : Option Addr} {n_m c_m : Nat} {ms : List Int} (h_m : RdI w a_m n_m c_m ms) (p : PQ) (pw : PW p) :
    Calls Try.prog 10 #[.agg #[.string nm, .slice a_s n_s c_s, .int .i64 seats, .int .u8 ((rule : Nat) : Int)], .agg #[.int .u8 ((kd : Nat) : Int), .slice a_m n_m c_m], .agg (polc p)] w fun e w' => e = .returned (.bool true) ∧ Below w.heap.size w w' := by
  have HN := Lib.hid h_s.len
  have hns := h_s.lt
  have hnm := h_m.lt
  have PWW := Lib.hid pw
  have B0 : Below w.heap.size w w := Below.refl _ _
  have h_s_0 := h_s
  have h_m_0 := h_m
  go_enter Try.func10, Try.ntmps10
  have hb := below_al w (.cells #[.string nm, .slice a_s n_s c_s, .int .i64 seats, .int .u8 ((rule : Nat) : Int)] 24)
  have B1 := B0.trans (hb.mono B0.size)
  have h_s_1 := h_s_0.below hb
  have h_m_1 := h_m_0.below hb
  clear hb B0 h_s_0 h_m_0
  have h_c_1 := PRow.new 24 w #[.string nm, .slice a_s n_s c_s, .int .i64 seats, .int .u8 ((rule : Nat) : Int)]
  have hb := below_al (w.alloc (.cells #[.string nm, .slice a_s n_s c_s, .int .i64 seats, .int .u8 ((rule : Nat) : Int)] 24)) (.cells #[.int .u8 ((kd : Nat) : Int), .slice a_m n_m c_m] 39)
  have B2 := B1.trans (hb.mono B1.size)
  have h_s_2 := h_s_1.below hb
  have h_m_2 := h_m_1.below hb
  have h_c_2 := h_c_1.later hb
  clear hb B1 h_s_1 h_m_1 h_c_1
  have h_b_2 := PRow.new 39 (w.alloc (.cells #[.string nm, .slice a_s n_s c_s, .int .i64 seats, .int .u8 ((rule : Nat) : Int)] 24)) #[.int .u8 ((kd : Nat) : Int), .slice a_m n_m c_m]
  simp only [World.size_alloc] at h_b_2
  have hb := below_al ((w.alloc (.cells #[.string nm, .slice a_s n_s c_s, .int .i64 seats, .int .u8 ((rule : Nat) : Int)] 24)).alloc (.cells #[.int .u8 ((kd : Nat) : Int), .slice a_m n_m c_m] 39)) (.cells (polc p) 48)
  have B3 := B2.trans (hb.mono B2.size)
  have h_s_3 := h_s_2.below hb
  have h_m_3 := h_m_2.below hb
  have h_c_3 := h_c_2.later hb
  have h_b_3 := h_b_2.later hb
  clear hb B2 h_s_2 h_m_2 h_c_2 h_b_2
  have h_p_3 := PRow.new 48 ((w.alloc (.cells #[.string nm, .slice a_s n_s c_s, .int .i64 seats, .int .u8 ((rule : Nat) : Int)] 24)).alloc (.cells #[.int .u8 ((kd : Nat) : Int), .slice a_m n_m c_m] 39)) (polc p)
  simp only [World.size_alloc] at h_p_3
  go_wp2_with fail
  generalize (((w.alloc (.cells #[.string nm, .slice a_s n_s c_s, .int .i64 seats, .int .u8 ((rule : Nat) : Int)] 24)).alloc (.cells #[.int .u8 ((kd : Nat) : Int), .slice a_m n_m c_m] 39)).alloc (.cells (polc p) 48)) = w3 at *
  have c := alive_any w3
  refine c.mono ?_
  rintro e w4 ⟨rfl, hb⟩
  clear c
  have B4 := B3.trans (hb.mono B3.size)
  have h_s_4 := h_s_3.below hb
  have h_m_4 := h_m_3.below hb
  have h_c_4 := h_c_3.later hb
  have h_b_4 := h_b_3.later hb
  have h_p_4 := h_p_3.later hb
  clear hb B3 h_s_3 h_m_3 h_c_3 h_b_3 h_p_3
  have k_c_0 := h_c_4.cell 0 _ rfl
  have k_c_1 := h_c_4.cell 1 _ rfl
  have k_c_2 := h_c_4.cell 2 _ rfl
  have k_c_3 := h_c_4.cell 3 _ rfl
  go_wp2_with fail
  clear k_c_0 k_c_1 k_c_2 k_c_3
  obtain ⟨gr, hgr⟩ : ∃ gr, greatC nm ss = gr := ⟨_, rfl⟩
  have GR := Lib.hid hgr
  clear hgr
  have c := Great_any w4 nm h_s_4 seats rule hr
  rw [GR.out] at c
  refine c.mono ?_
  rintro e w5 ⟨rfl, hb⟩
  clear c
  have B5 := B4.trans (hb.mono B4.size)
  have h_s_5 := h_s_4.below hb
  have h_m_5 := h_m_4.below hb
  have h_c_5 := h_c_4.later hb
  have h_b_5 := h_b_4.later hb
  have h_p_5 := h_p_4.later hb
  clear hb B4 h_s_4 h_m_4 h_c_4 h_b_4 h_p_4
  cases gr with
  | true =>
    go_wp2_with fail
    go_ret
    exact ⟨rfl, B5⟩
  | false =>
    have k_b_0 := h_b_5.cell 0 _ rfl
    have k_b_1 := h_b_5.cell 1 _ rfl
    go_wp2_with fail
    clear k_b_0 k_b_1
    have c := ballGreat_any w5 kd hk h_m_5
    refine c.mono ?_
    rintro e w6 ⟨rfl, hb⟩
    clear c
    have B6 := B5.trans (hb.mono B5.size)
    have h_s_6 := h_s_5.below hb
    have h_m_6 := h_m_5.below hb
    have h_c_6 := h_c_5.later hb
    have h_b_6 := h_b_5.later hb
    have h_p_6 := h_p_5.later hb
    clear hb B5 h_s_5 h_m_5 h_c_5 h_b_5 h_p_5
    by_cases hbig : 60 < n_m
    case pos =>
      have hbd : decide (60 < n_m) = true := decide_eq_true hbig
      go_wp2_with fail
      go_ret
      exact ⟨rfl, B6⟩
    have hbd : decide (60 < n_m) = false := decide_eq_false hbig
    obtain ⟨⟨fx, fe⟩, hfc⟩ : ∃ r, fillC nm ss seats rule kd ms = r := ⟨_, rfl⟩
    have HFC := Lib.hid hfc
    clear hfc
    have k_c_0 := h_c_6.cell 0 _ rfl
    have k_c_1 := h_c_6.cell 1 _ rfl
    have k_c_2 := h_c_6.cell 2 _ rfl
    have k_c_3 := h_c_6.cell 3 _ rfl
    have k_b_0 := h_b_6.cell 0 _ rfl
    have k_b_1 := h_b_6.cell 1 _ rfl
    go_wp2_with fail
    clear k_c_0 k_c_1 k_c_2 k_c_3 k_b_0 k_b_1
    have c := Fill_any w6 nm h_s_6 seats hs1 hs2 rule hr kd hk h_m_6
    rw [HFC.out] at c
    refine c.mono ?_
    rintro e w7 ⟨a_x, n_x, c_x, rfl, h_x_7, hb⟩
    clear c
    have B7 := B6.trans (hb.mono B6.size)
    have h_s_7 := h_s_6.below hb
    have h_m_7 := h_m_6.below hb
    have h_c_7 := h_c_6.later hb
    have h_b_7 := h_b_6.later hb
    have h_p_7 := h_p_6.later hb
    clear hb B6 h_s_6 h_m_6 h_c_6 h_b_6 h_p_6
    have hb := below_al w7 (.cells #[.slice a_x n_x c_x] 27)
    have B8 := B7.trans (hb.mono B7.size)
    have h_s_8 := h_s_7.below hb
    have h_m_8 := h_m_7.below hb
    have h_c_8 := h_c_7.later hb
    have h_b_8 := h_b_7.later hb
    have h_p_8 := h_p_7.later hb
    have h_x_8 := h_x_7.below hb
    clear hb B7 h_s_7 h_m_7 h_c_7 h_b_7 h_p_7 h_x_7
    have h_xs_8 := PRow.new 27 w7 #[.slice a_x n_x c_x]
    by_cases hfe : fe = 0
    case neg =>
      have e1 : (fe == (0 : Int)) = false := by simpa using hfe
      have e2 : (fe != (0 : Int)) = true := by simpa using hfe
      go_upto_region 5 with (first | refine wpList_store_new rfl 27 _ _ rfl atShe _ _ _ rfl rfl rfl rfl (she_one _ _ _) ?_)
      generalize (w7.alloc (.cells #[.slice a_x n_x c_x] 27)) = w8 at *
      have hx0 : n_x = 0 := by have h1 : fx.length = n_x := h_x_8.len; rw [fillC_bad HFC.out hfe] at h1; exact h1.symm
      subst hx0
      have k_xs_0 := h_xs_8.cell 0 _ rfl
      go_wp2_with fail
      clear k_xs_0
      go_ret
      exact ⟨rfl, B8⟩
    subst hfe
    obtain ⟨hfl, hrb⟩ := read_back (p := p) HFC.out
    have hnx : n_x ≤ 1000 := by have h1 : fx.length = n_x := h_x_8.len; have h2 : fx.length ≤ 110 := hfl; omega
    have HRB := Lib.hid hrb
    clear hfl hrb
    obtain ⟨mp, hmp⟩ : ∃ mp, mayP p = mp := ⟨_, rfl⟩
    have HMP := Lib.hid hmp
    clear hmp
    cases mp
    case false =>
      have k_c_0 := h_c_8.cell 0 _ rfl
      have k_c_1 := h_c_8.cell 1 _ rfl
      have k_c_2 := h_c_8.cell 2 _ rfl
      have k_c_3 := h_c_8.cell 3 _ rfl
      have k_p_0 := h_p_8.cell 0 _ rfl
      have k_p_1 := h_p_8.cell 1 _ rfl
      have k_p_2 := h_p_8.cell 2 _ rfl
      have k_xs_0 := h_xs_8.cell 0 _ rfl
      go_wp2_with first | refine wpList_store_new rfl 27 _ _ rfl atShe _ _ _ rfl rfl rfl rfl (she_one _ _ _) ?_
      clear k_c_0 k_c_1 k_c_2 k_c_3 k_p_0 k_p_1 k_p_2 k_xs_0
      generalize (w7.alloc (.cells #[.slice a_x n_x c_x] 27)) = w8 at *
      have c := Read_any w8 nm h_s_8 seats hs1 hs2 rule hr p PWW.out h_x_8.rd (RdD.nils w8) hnx (by decide)
      rw [HRB.out] at c
      rw [HMP.out] at c
      rw [show (if false = true then ((⟨kd, ms, 0, []⟩, 0) : RQ × Int) else (⟨0, [], 0, []⟩, 2)) = (⟨0, [], 0, []⟩, 2) from rfl] at c
      refine c.mono ?_
      rintro e w9 ⟨a_a, n_a, c_a, b_a, m_a, d_a, rfl, h_am_9, h_ad_9, hap_a, hb⟩
      clear c
      have B9 := B8.trans (hb.mono B8.size)
      have h_s_9 := h_s_8.below hb
      have h_m_9 := h_m_8.below hb
      have h_c_9 := h_c_8.later hb
      have h_b_9 := h_b_8.later hb
      have h_p_9 := h_p_8.later hb
      have h_x_9 := h_x_8.below hb
      have h_xs_9 := h_xs_8.later hb
      clear hb B8 h_s_8 h_m_8 h_c_8 h_b_8 h_p_8 h_x_8 h_xs_8
      replace hap_a := Lib.hid hap_a
      have hb := below_al w9 (.cells #[.int .u8 0, .slice a_a n_a c_a, .int .i64 0, .slice b_a m_a d_a] 51)
      have B10 := B9.trans (hb.mono B9.size)
      have h_s_10 := h_s_9.below hb
      have h_m_10 := h_m_9.below hb
      have h_c_10 := h_c_9.later hb
      have h_b_10 := h_b_9.later hb
      have h_p_10 := h_p_9.later hb
      have h_x_10 := h_x_9.below hb
      have h_xs_10 := h_xs_9.later hb
      have h_am_10 := h_am_9.below hb
      have h_ad_10 := h_ad_9.below hb
      clear hb B9 h_s_9 h_m_9 h_c_9 h_b_9 h_p_9 h_x_9 h_xs_9 h_am_9 h_ad_9
      have h_ar_10 := PRow.new 51 w9 #[.int .u8 0, .slice a_a n_a c_a, .int .i64 0, .slice b_a m_a d_a]
      have k_ar_0 := h_ar_10.cell 0 _ rfl
      have k_ar_1 := h_ar_10.cell 1 _ rfl
      have k_ar_2 := h_ar_10.cell 2 _ rfl
      have k_ar_3 := h_ar_10.cell 3 _ rfl
      go_wp2_with first | refine wpList_store_new rfl 51 _ _ rfl atRea _ _ _ rfl rfl rfl rfl (rea_one _ _ _ _ _ _ _ _) ?_
      clear k_ar_0 k_ar_1 k_ar_2 k_ar_3
      generalize (w9.alloc (.cells #[.int .u8 0, .slice a_a n_a c_a, .int .i64 0, .slice b_a m_a d_a] 51)) = w10 at *
      go_ret
      exact ⟨rfl, B10⟩
    case true =>
      have k_c_0 := h_c_8.cell 0 _ rfl
      have k_c_1 := h_c_8.cell 1 _ rfl
      have k_c_2 := h_c_8.cell 2 _ rfl
      have k_c_3 := h_c_8.cell 3 _ rfl
      have k_p_0 := h_p_8.cell 0 _ rfl
      have k_p_1 := h_p_8.cell 1 _ rfl
      have k_p_2 := h_p_8.cell 2 _ rfl
      have k_xs_0 := h_xs_8.cell 0 _ rfl
      go_wp2_with first | refine wpList_store_new rfl 27 _ _ rfl atShe _ _ _ rfl rfl rfl rfl (she_one _ _ _) ?_
      clear k_c_0 k_c_1 k_c_2 k_c_3 k_p_0 k_p_1 k_p_2 k_xs_0
      generalize (w7.alloc (.cells #[.slice a_x n_x c_x] 27)) = w8 at *
      have c := Read_any w8 nm h_s_8 seats hs1 hs2 rule hr p PWW.out h_x_8.rd (RdD.nils w8) hnx (by decide)
      rw [HRB.out] at c
      rw [HMP.out] at c
      rw [show (if true = true then ((⟨kd, ms, 0, []⟩, 0) : RQ × Int) else (⟨0, [], 0, []⟩, 2)) = (⟨kd, ms, 0, []⟩, 0) from rfl] at c
      refine c.mono ?_
      rintro e w9 ⟨a_a, n_a, c_a, b_a, m_a, d_a, rfl, h_am_9, h_ad_9, hap_a, hb⟩
      clear c
      have B9 := B8.trans (hb.mono B8.size)
      have h_s_9 := h_s_8.below hb
      have h_m_9 := h_m_8.below hb
      have h_c_9 := h_c_8.later hb
      have h_b_9 := h_b_8.later hb
      have h_p_9 := h_p_8.later hb
      have h_x_9 := h_x_8.below hb
      have h_xs_9 := h_xs_8.later hb
      clear hb B8 h_s_8 h_m_8 h_c_8 h_b_8 h_p_8 h_x_8 h_xs_8
      replace hap_a := Lib.hid hap_a
      have hb := below_al w9 (.cells #[.int .u8 ((kd : Nat) : Int), .slice a_a n_a c_a, .int .i64 0, .slice b_a m_a d_a] 51)
      have B10 := B9.trans (hb.mono B9.size)
      have h_s_10 := h_s_9.below hb
      have h_m_10 := h_m_9.below hb
      have h_c_10 := h_c_9.later hb
      have h_b_10 := h_b_9.later hb
      have h_p_10 := h_p_9.later hb
      have h_x_10 := h_x_9.below hb
      have h_xs_10 := h_xs_9.later hb
      have h_am_10 := h_am_9.below hb
      have h_ad_10 := h_ad_9.below hb
      clear hb B9 h_s_9 h_m_9 h_c_9 h_b_9 h_p_9 h_x_9 h_xs_9 h_am_9 h_ad_9
      have h_ar_10 := PRow.new 51 w9 #[.int .u8 ((kd : Nat) : Int), .slice a_a n_a c_a, .int .i64 0, .slice b_a m_a d_a]
      have k_ar_0 := h_ar_10.cell 0 _ rfl
      have k_ar_1 := h_ar_10.cell 1 _ rfl
      have k_ar_2 := h_ar_10.cell 2 _ rfl
      have k_ar_3 := h_ar_10.cell 3 _ rfl
      have k_b_0 := h_b_10.cell 0 _ rfl
      have k_b_1 := h_b_10.cell 1 _ rfl
      go_wp2_with first | refine wpList_store_new rfl 51 _ _ rfl atRea _ _ _ rfl rfl rfl rfl (rea_one _ _ _ _ _ _ _ _) ?_
      clear k_ar_0 k_ar_1 k_ar_2 k_ar_3 k_b_0 k_b_1
      generalize (w9.alloc (.cells #[.int .u8 ((kd : Nat) : Int), .slice a_a n_a c_a, .int .i64 0, .slice b_a m_a d_a] 51)) = w10 at *
      have c := ballSame_any w10 kd hk kd hk (h_am_10.rd oneI) h_m_10
      rw [show (decide (kd = kd) && decide (ms = ms)) = true by simp] at c
      refine c.mono ?_
      rintro e w11 ⟨rfl, hb⟩
      clear c
      have B11 := B10.trans (hb.mono B10.size)
      have h_s_11 := h_s_10.below hb
      have h_m_11 := h_m_10.below hb
      have h_c_11 := h_c_10.later hb
      have h_b_11 := h_b_10.later hb
      have h_p_11 := h_p_10.later hb
      have h_x_11 := h_x_10.below hb
      have h_xs_11 := h_xs_10.later hb
      have h_am_11 := h_am_10.below hb
      have h_ad_11 := h_ad_10.below hb
      have h_ar_11 := h_ar_10.later hb
      clear hb B10 h_s_10 h_m_10 h_c_10 h_b_10 h_p_10 h_x_10 h_xs_10 h_am_10 h_ad_10 h_ar_10
      have hm0 : m_a = 0 := h_ad_11.len.symm
      subst hm0
      have k_ar_0 := h_ar_11.cell 0 _ rfl
      have k_ar_1 := h_ar_11.cell 1 _ rfl
      have k_ar_2 := h_ar_11.cell 2 _ rfl
      have k_ar_3 := h_ar_11.cell 3 _ rfl
      go_wp2_with fail
      clear k_ar_0 k_ar_1 k_ar_2 k_ar_3
      go_ret
      exact ⟨rfl, B11⟩

end Go.Proofs.Ytlfempfhohejiaa
