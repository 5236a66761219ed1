/- The walk of the law SheetOrder: it returns true and turns nothing that was there. No condition. Printed by gen_shelaws.py. -/
import Derived.Test.YtlfempfhohejiaaSheY
import Derived.BigQuiet
import Derived.Deep.CutRange
namespace Go.Proofs.Ytlfempfhohejiaa
open Go.RowKit Go.Suf
set_option linter.unusedVariables false
set_option linter.unusedSimpArgs false

set_option maxRecDepth 100000 in
set_option maxHeartbeats 8000000 in
theorem sheetOrder_walk (w : World) (nm : ByteArray) (hnl : nm.size ≤ maxLen) {a_s : Option Addr} {n_s c_s : Nat} {ss : List ByteArray} (h_s : RdS w a_s n_s c_s ss) (hsl : ∀ s ∈ ss, s.size ≤ maxLen) (seats : Int) (hs1 : -9223372036854775808 ≤ seats) (hs2 : seats ≤ 9223372036854775807) (rule : Nat) (hr : rule < 256) (p : PQ) (pw : PW p) {a_x : Option Addr} {n_x c_x : Nat} {xs : List Nat} (h_x : Rd .u8 w a_x n_x c_x xs) {a_d : Option Addr} {n_d c_d : Nat} {ds : List DQ} (h_d : RdD w a_d n_d c_d ds) :
    Calls Try.prog 7 #[.agg #[.string nm, .slice a_s n_s c_s, .int .i64 seats, .int .u8 ((rule : Nat) : Int)], .agg (polc p), .agg #[.slice a_x n_x c_x], .slice a_d n_d c_d] w fun e w' => e = .returned (.bool true) ∧ Below w.heap.size w w' := by
  have HN := Lib.hid h_s.len
  have hns := h_s.lt
  have HXL := Lib.hid h_x.len
  have HDL := Lib.hid h_d.len
  have hnx := h_x.lt
  have hnd := h_d.lt
  have PWW := Lib.hid pw
  have B0 : Below w.heap.size w w := Below.refl _ _
  have h_s_0 := h_s
  have h_x_0 := h_x
  have h_d_0 := h_d
  go_enter Try.func7, Try.ntmps7
  have hb := below_al w (.cells #[.string nm, .slice a_s n_s c_s, .int .i64 seats, .int .u8 ((rule : Nat) : Int)] 24)
  have B1 := B0.trans (hb.mono B0.size)
  have h_s_1 := h_s_0.below hb
  have h_x_1 := h_x_0.below hb
  have h_d_1 := h_d_0.below hb
  clear hb B0 h_s_0 h_x_0 h_d_0
  have h_c_1 := PRow.new 24 w #[.string nm, .slice a_s n_s c_s, .int .i64 seats, .int .u8 ((rule : Nat) : Int)]
  have hb := below_al (w.alloc (.cells #[.string nm, .slice a_s n_s c_s, .int .i64 seats, .int .u8 ((rule : Nat) : Int)] 24)) (.cells (polc p) 48)
  have B2 := B1.trans (hb.mono B1.size)
  have h_s_2 := h_s_1.below hb
  have h_x_2 := h_x_1.below hb
  have h_d_2 := h_d_1.below hb
  have h_c_2 := h_c_1.later hb
  clear hb B1 h_s_1 h_x_1 h_d_1 h_c_1
  have h_p_2 := PRow.new 48 (w.alloc (.cells #[.string nm, .slice a_s n_s c_s, .int .i64 seats, .int .u8 ((rule : Nat) : Int)] 24)) (polc p)
  simp only [World.size_alloc] at h_p_2
  have hb := below_al ((w.alloc (.cells #[.string nm, .slice a_s n_s c_s, .int .i64 seats, .int .u8 ((rule : Nat) : Int)] 24)).alloc (.cells (polc p) 48)) (.cells #[.slice a_x n_x c_x] 27)
  have B3 := B2.trans (hb.mono B2.size)
  have h_s_3 := h_s_2.below hb
  have h_x_3 := h_x_2.below hb
  have h_d_3 := h_d_2.below hb
  have h_c_3 := h_c_2.later hb
  have h_p_3 := h_p_2.later hb
  clear hb B2 h_s_2 h_x_2 h_d_2 h_c_2 h_p_2
  have h_y_3 := PRow.new 27 ((w.alloc (.cells #[.string nm, .slice a_s n_s c_s, .int .i64 seats, .int .u8 ((rule : Nat) : Int)] 24)).alloc (.cells (polc p) 48)) #[.slice a_x n_x c_x]
  simp only [World.size_alloc] at h_y_3
  go_wp2_with fail
  generalize (((w.alloc (.cells #[.string nm, .slice a_s n_s c_s, .int .i64 seats, .int .u8 ((rule : Nat) : Int)] 24)).alloc (.cells (polc p) 48)).alloc (.cells #[.slice a_x n_x c_x] 27)) = w3 at *
  have c := alive_any w3
  refine c.mono ?_
  rintro e w4 ⟨rfl, hb⟩
  clear c
  have B4 := B3.trans (hb.mono B3.size)
  have h_s_4 := h_s_3.below hb
  have h_x_4 := h_x_3.below hb
  have h_d_4 := h_d_3.below hb
  have h_c_4 := h_c_3.later hb
  have h_p_4 := h_p_3.later hb
  have h_y_4 := h_y_3.later hb
  clear hb B3 h_s_3 h_x_3 h_d_3 h_c_3 h_p_3 h_y_3
  have k_c_0 := h_c_4.cell 0 _ rfl
  have k_c_1 := h_c_4.cell 1 _ rfl
  have k_c_2 := h_c_4.cell 2 _ rfl
  have k_c_3 := h_c_4.cell 3 _ rfl
  go_wp2_with fail
  clear k_c_0 k_c_1 k_c_2 k_c_3
  obtain ⟨gr, hgr⟩ : ∃ gr, greatC nm ss = gr := ⟨_, rfl⟩
  have GR := Lib.hid hgr
  clear hgr
  have c := Great_any w4 nm h_s_4 seats rule hr
  rw [GR.out] at c
  refine c.mono ?_
  rintro e w5 ⟨rfl, hb⟩
  clear c
  have B5 := B4.trans (hb.mono B4.size)
  have h_s_5 := h_s_4.below hb
  have h_x_5 := h_x_4.below hb
  have h_d_5 := h_d_4.below hb
  have h_c_5 := h_c_4.later hb
  have h_p_5 := h_p_4.later hb
  have h_y_5 := h_y_4.later hb
  clear hb B4 h_s_4 h_x_4 h_d_4 h_c_4 h_p_4 h_y_4
  cases gr with
  | true =>
    go_wp2_with fail
    go_ret
    exact ⟨rfl, B5⟩
  | false =>
    by_cases hb1 : 1000 < n_x
    case pos =>
      have hb1d : decide ((n_x : Int) > 1000) = true := decide_eq_true (by omega)
      have k_y_0 := h_y_5.cell 0 _ rfl
      go_wp2_with fail
      clear k_y_0
      go_ret
      exact ⟨rfl, B5⟩
    have hb1d : decide ((n_x : Int) > 1000) = false := decide_eq_false (by omega)
    by_cases hb2 : 1000 < n_d
    case pos =>
      have hb2d : decide ((n_d : Int) > 1000) = true := decide_eq_true (by omega)
      have k_y_0 := h_y_5.cell 0 _ rfl
      go_wp2_with fail
      clear k_y_0
      go_ret
      exact ⟨rfl, B5⟩
    have hb2d : decide ((n_d : Int) > 1000) = false := decide_eq_false (by omega)
    obtain ⟨⟨⟨kq, mq, oq, dq⟩, er⟩, hrr⟩ : ∃ r, readR nm ss seats rule p xs ds = r := ⟨_, rfl⟩
    have HRR := Lib.hid hrr
    have hkq : kq < 256 := readR_kd hrr
    clear hrr
    have hw0 : IntKind.i64.wrap (((n_d : Nat) : Int) - 1) = ((n_d : Nat) : Int) - 1 := wrap_in (by omega) (by omega)
    have k_y_0 := h_y_5.cell 0 _ rfl
    go_wp2_with fail
    clear k_y_0
    clear hw0
    have H_c := Lib.hid h_c_5
    have H_p := Lib.hid h_p_5
    have H_y := Lib.hid h_y_5
    have H_s := Lib.hid h_s_5
    have H_x := Lib.hid h_x_5
    have H_d := Lib.hid h_d_5
    have H_B := Lib.hid B5
    go_loopw [10, 11] (fun s10 jv wr => ∃ (k : Nat) (z : Int) (a : Option Addr) (n c : Nat), k ≤ n_d ∧ jv = .int .i64 z ∧ z = (k : Int) - 1 ∧ s10 = .slice a n c ∧ Hid (n = n_d - k) ∧ Below w5.heap.size w5 wr ∧ OwD w5.heap.size wr a n c ((ds.drop k).reverse)) (fun _ jv _ => (intOf jv + 1).toNat)
    case atStart => exact ⟨n_d, _, none, 0, 0, Nat.le_refl _, rfl, rfl, rfl, Lib.hid (by omega), Below.refl _ _, by rw [List.drop_eq_nil_of_le (by rw [HDL.out]; exact Nat.le_refl _)]; exact OwD.nil _ _⟩
    case round =>
      rename World => wr
      obtain ⟨k, z, a, n, c, hk, rfl, hz, rfl, hnk, BT, ho⟩ := hrel
      cases k with
      | zero =>
        obtain rfl : z = -1 := by omega
        have h_c_300 := H_c.out.later BT
        have h_p_300 := H_p.out.later BT
        have h_y_300 := H_y.out.later BT
        have h_s_300 := H_s.out.below BT
        have h_x_300 := H_x.out.below BT
        have h_d_300 := H_d.out.below BT
        have h_e_300 := ho.rd
        have B300 := H_B.out.trans (BT.mono H_B.out.size)
        have hnn : n ≤ 1000 := by have := hnk.out; omega
        clear BT ho hz
        rw [List.drop_zero] at h_e_300
        have k_c_0 := h_c_300.cell 0 _ rfl
        have k_c_1 := h_c_300.cell 1 _ rfl
        have k_c_2 := h_c_300.cell 2 _ rfl
        have k_c_3 := h_c_300.cell 3 _ rfl
        have k_p_0 := h_p_300.cell 0 _ rfl
        have k_p_1 := h_p_300.cell 1 _ rfl
        have k_p_2 := h_p_300.cell 2 _ rfl
        have k_y_0 := h_y_300.cell 0 _ rfl
        go_wp2_with fail
        clear k_c_0 k_c_1 k_c_2 k_c_3 k_p_0 k_p_1 k_p_2 k_y_0
        have c := Read_any wr nm h_s_300 seats hs1 hs2 rule hr p PWW.out h_x_300 h_d_300 (by omega) (by omega)
        rw [HRR.out] at c
        refine c.mono ?_
        rintro e w301 ⟨a_a, n_a, c_a, b_a, m_a, d_a, rfl, h_am_301, h_ad_301, hap_a, hb⟩
        clear c
        have B301 := B300.trans (hb.mono B300.size)
        have h_c_301 := h_c_300.later hb
        have h_p_301 := h_p_300.later hb
        have h_y_301 := h_y_300.later hb
        have h_s_301 := h_s_300.below hb
        have h_x_301 := h_x_300.below hb
        have h_d_301 := h_d_300.below hb
        have h_e_301 := h_e_300.below hb
        clear hb B300 h_c_300 h_p_300 h_y_300 h_s_300 h_x_300 h_d_300 h_e_300
        replace hap_a := Lib.hid hap_a
        have hb := below_al w301 (.cells #[.int .u8 ((kq : Nat) : Int), .slice a_a n_a c_a, .int .i64 oq, .slice b_a m_a d_a] 51)
        have B302 := B301.trans (hb.mono B301.size)
        have h_c_302 := h_c_301.later hb
        have h_p_302 := h_p_301.later hb
        have h_y_302 := h_y_301.later hb
        have h_s_302 := h_s_301.below hb
        have h_x_302 := h_x_301.below hb
        have h_d_302 := h_d_301.below hb
        have h_e_302 := h_e_301.below hb
        have h_am_302 := h_am_301.below hb
        have h_ad_302 := h_ad_301.below hb
        clear hb B301 h_c_301 h_p_301 h_y_301 h_s_301 h_x_301 h_d_301 h_e_301 h_am_301 h_ad_301
        have h_ar_302 := PRow.new 51 w301 #[.int .u8 ((kq : Nat) : Int), .slice a_a n_a c_a, .int .i64 oq, .slice b_a m_a d_a]
        have k_c_0 := h_c_302.cell 0 _ rfl
        have k_c_1 := h_c_302.cell 1 _ rfl
        have k_c_2 := h_c_302.cell 2 _ rfl
        have k_c_3 := h_c_302.cell 3 _ rfl
        have k_p_0 := h_p_302.cell 0 _ rfl
        have k_p_1 := h_p_302.cell 1 _ rfl
        have k_p_2 := h_p_302.cell 2 _ rfl
        have k_y_0 := h_y_302.cell 0 _ rfl
        go_wp2_with first | refine wpList_store_new rfl 51 _ _ rfl atRea _ _ _ rfl rfl rfl rfl (rea_one _ _ _ _ _ _ _ _) ?_
        clear k_c_0 k_c_1 k_c_2 k_c_3 k_p_0 k_p_1 k_p_2 k_y_0
        generalize (w301.alloc (.cells #[.int .u8 ((kq : Nat) : Int), .slice a_a n_a c_a, .int .i64 oq, .slice b_a m_a d_a] 51)) = w302 at *
        have c := Read_any w302 nm h_s_302 seats hs1 hs2 rule hr p PWW.out h_x_302 h_e_302 (by omega) (by omega)
        rw [readR_rev] at c
        rw [HRR.out] at c
        refine c.mono ?_
        rintro e w303 ⟨a_b, n_b, c_b, b_b, m_b, d_b, rfl, h_bm_303, h_bd_303, hap_b, hb⟩
        clear c
        have B303 := B302.trans (hb.mono B302.size)
        have h_c_303 := h_c_302.later hb
        have h_p_303 := h_p_302.later hb
        have h_y_303 := h_y_302.later hb
        have h_s_303 := h_s_302.below hb
        have h_x_303 := h_x_302.below hb
        have h_d_303 := h_d_302.below hb
        have h_e_303 := h_e_302.below hb
        have h_am_303 := h_am_302.below hb
        have h_ad_303 := h_ad_302.below hb
        have h_ar_303 := h_ar_302.later hb
        clear hb B302 h_c_302 h_p_302 h_y_302 h_s_302 h_x_302 h_d_302 h_e_302 h_am_302 h_ad_302 h_ar_302
        replace hap_b := Lib.hid hap_b
        have hb := below_al w303 (.cells #[.int .u8 ((kq : Nat) : Int), .slice a_b n_b c_b, .int .i64 oq, .slice b_b m_b d_b] 51)
        have B304 := B303.trans (hb.mono B303.size)
        have h_c_304 := h_c_303.later hb
        have h_p_304 := h_p_303.later hb
        have h_y_304 := h_y_303.later hb
        have h_s_304 := h_s_303.below hb
        have h_x_304 := h_x_303.below hb
        have h_d_304 := h_d_303.below hb
        have h_e_304 := h_e_303.below hb
        have h_am_304 := h_am_303.below hb
        have h_ad_304 := h_ad_303.below hb
        have h_ar_304 := h_ar_303.later hb
        have h_bm_304 := h_bm_303.below hb
        have h_bd_304 := h_bd_303.below hb
        clear hb B303 h_c_303 h_p_303 h_y_303 h_s_303 h_x_303 h_d_303 h_e_303 h_am_303 h_ad_303 h_ar_303 h_bm_303 h_bd_303
        have h_br_304 := PRow.new 51 w303 #[.int .u8 ((kq : Nat) : Int), .slice a_b n_b c_b, .int .i64 oq, .slice b_b m_b d_b]
        have e1 : (er == er) = true := by simp
        have k_ar_0 := h_ar_304.cell 0 _ rfl
        have k_ar_1 := h_ar_304.cell 1 _ rfl
        have k_ar_2 := h_ar_304.cell 2 _ rfl
        have k_ar_3 := h_ar_304.cell 3 _ rfl
        have k_br_0 := h_br_304.cell 0 _ rfl
        have k_br_1 := h_br_304.cell 1 _ rfl
        have k_br_2 := h_br_304.cell 2 _ rfl
        have k_br_3 := h_br_304.cell 3 _ rfl
        go_wp2_with first | refine wpList_store_new rfl 51 _ _ rfl atRea _ _ _ rfl rfl rfl rfl (rea_one _ _ _ _ _ _ _ _) ?_
        clear k_ar_0 k_ar_1 k_ar_2 k_ar_3 k_br_0 k_br_1 k_br_2 k_br_3
        generalize (w303.alloc (.cells #[.int .u8 ((kq : Nat) : Int), .slice a_b n_b c_b, .int .i64 oq, .slice b_b m_b d_b] 51)) = w304 at *
        have c := readSame_any w304 kq hkq kq hkq (h_am_304.rd oneI) (h_bm_304.rd oneI) oq oq (h_ad_304.rd oneI) (h_bd_304.rd oneI)
        rw [same_true] at c
        refine c.mono ?_
        rintro e w305 ⟨rfl, hb⟩
        clear c
        have B305 := B304.trans (hb.mono B304.size)
        have h_c_305 := h_c_304.later hb
        have h_p_305 := h_p_304.later hb
        have h_y_305 := h_y_304.later hb
        have h_s_305 := h_s_304.below hb
        have h_x_305 := h_x_304.below hb
        have h_d_305 := h_d_304.below hb
        have h_e_305 := h_e_304.below hb
        have h_am_305 := h_am_304.below hb
        have h_ad_305 := h_ad_304.below hb
        have h_ar_305 := h_ar_304.later hb
        have h_bm_305 := h_bm_304.below hb
        have h_bd_305 := h_bd_304.below hb
        have h_br_305 := h_br_304.later hb
        clear hb B304 h_c_304 h_p_304 h_y_304 h_s_304 h_x_304 h_d_304 h_e_304 h_am_304 h_ad_304 h_ar_304 h_bm_304 h_bd_304 h_br_304
        go_wp2_with fail
        go_ret
        exact ⟨rfl, B305⟩
      | succ m =>
        obtain rfl : z = ((m : Nat) : Int) := by omega
        clear hz
        have hm : m < n_d := by omega
        obtain ⟨bd, od, rfl, hcc⟩ := (H_d.out.below BT).addr (by omega)
        obtain ⟨kd0, kd1⟩ := hcc m hm
        clear hcc
        have hbo := (H_d.out.below BT).ok hm
        obtain ⟨dd, hdd⟩ : ∃ dd, dth ds m = dd := ⟨_, rfl⟩
        rw [hdd] at kd0 kd1 hbo
        have HDD := Lib.hid hdd
        clear hdd
        have hnn : n ≤ 1000 := by have := hnk.out; omega
        have hal := below_al wr (.cells #[.int .i64 dd.bx, .bool dd.yes] 58)
        have hoa := ho.below hal
        have hr1 := rdD_one wr dd hbo
        have hsz := BT.size
        have hw1 : IntKind.i64.wrap (((m : Nat) : Int) - 1) = ((m : Nat) : Int) - 1 := wrap_in (by omega) (by omega)
        go_wp2_with (at_builtin; refine wpList_appD rfl _ _ rfl w5.heap.size rfl hoa rfl hr1 (by omega) (by rw [World.size_alloc]; omega) ?_; intro af cf wf hown hg hbn; refine Hid.out ?_)
        rw [← HDD.out, rev_drop (by rw [HDL.out]; exact hm)] at hown
        have hbe := BT.trans ((hal.mono hsz).trans hbn)
        clear hg hbn hal hoa hr1 ho BT kd0 kd1
        refine Lib.hid ?_
        go_wp2_with fail
        go_roundw
        case rel => exact ⟨m, _, af, n + 1, cf, by omega, rfl, rfl, rfl, Lib.hid (by have := hnk.out; omega), hbe, hown⟩
        case measure => simp [intOf]

end Go.Proofs.Ytlfempfhohejiaa
