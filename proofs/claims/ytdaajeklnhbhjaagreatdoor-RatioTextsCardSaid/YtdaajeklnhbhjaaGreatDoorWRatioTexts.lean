/- The walk of the law RatioTexts: it returns true and turns nothing that was there. No condition. Printed by gen_ratlaws.py. -/
import Derived.Test.YtdaajeklnhbhjaaGreatDoorRatW
import Derived.Test.YtdaajeklnhbhjaaGreatDoorRatV
import Derived.Test.YtdaajeklnhbhjaaGreatDoorRatY
import Derived.BigQuiet
import Derived.Deep.CutRange
namespace Go.Proofs.YtdaajeklnhbhjaaGreatDoor
open Go.RowKit Go.Suf
set_option linter.unusedVariables false
set_option linter.unusedSimpArgs false

theorem text_bd {x : QV} : ∀ b ∈ (textV x).1, b < 256 := by
  intro b hb
  unfold textV at hb
  split at hb
  · simp only [List.mem_append] at hb
    rcases hb with (hb | hb) | hb
    · unfold signB at hb
      split at hb <;> simp at hb
      omega
    · exact textN_bd _ _ hb
    · split at hb
      · simp at hb
      · rcases List.mem_cons.1 hb with rfl | hb
        · decide
        · exact textN_bd _ _ hb
  · simp at hb
theorem text_len {x : QV} (hn : small32 x.num) (hd : small32 x.den) (h : chkV x = 0) : (textV x).1.length ≤ 2000 := by
  obtain ⟨n1, n2, l1, l2, z, s, g⟩ := chkV_parts hn hd h
  rw [textV, if_pos h]
  simp only [List.length_append]
  have a := textN_len l1
  have b := textN_len l2
  have c : (signB x.neg).length ≤ 1 := by unfold signB; split <;> simp
  have d : (if textN (val x.den) = [49] then [] else 47 :: textN (val x.den)).length ≤ 961 := by
    split
    · simp
    · simp; omega
  omega
theorem text_err (x : QV) : (chkV x = 0 ∧ (textV x).2 = 0) ∨ (textV x).2 = 8 := by
  unfold textV
  split
  · rename_i h; exact .inl ⟨h, rfl⟩
  · exact .inr rfl

set_option maxRecDepth 100000 in
set_option maxHeartbeats 8000000 in
theorem ratioTexts_walk (w : World) {g_x : Bool} {a_x b_x : Option Addr} {n_x c_x m_x d_x : Nat} {xn xd : List Nat} (h_xn : Rd .u32 w a_x n_x c_x xn) (h_xd : Rd .u32 w b_x m_x d_x xd) (s : ByteArray) (_hs : s.size ≤ maxLen) :
    Calls Tryz.prog 5 #[ratV g_x a_x n_x c_x b_x m_x d_x, .string s] w fun e w' => e = .returned (.bool true) ∧ Below w.heap.size w w' := by
  obtain ⟨ss, rfl, hss⟩ : ∃ ss, s = strB ss ∧ ∀ x ∈ ss, x < 256 := ⟨bytesOf s, (strB_bytesOf s).symm, bytesOf_bd s⟩
  have hsz := strB_size ss
  clear _hs
  obtain ⟨x, rfl, rfl, rfl⟩ : ∃ x : QV, g_x = x.neg ∧ xn = x.num ∧ xd = x.den := ⟨⟨g_x, xn, xd⟩, rfl, rfl, rfl⟩
  have B0 : Below w.heap.size w w := Below.refl _ _
  have h_xn_0 := h_xn
  have h_xd_0 := h_xd
  cases L_x : longV x
  case true =>
    have LT_x := Lib.hid L_x
    clear L_x
    go_enter Tryz.func5, Tryz.ntmps5
    have hb := below_al w (.cells #[.bool (x).neg, .slice a_x n_x c_x, .slice b_x m_x d_x] 24)
    have B1 := B0.trans (hb.mono B0.size)
    have h_xn_1 := h_xn_0.below hb
    have h_xd_1 := h_xd_0.below hb
    clear hb B0 h_xn_0 h_xd_0
    have h_x_1 := Has.new w #[.bool (x).neg, .slice a_x n_x c_x, .slice b_x m_x d_x] 24
    have k_x_0 := h_x_1.cell 0 _ rfl
    have k_x_1 := h_x_1.cell 1 _ rfl
    have k_x_2 := h_x_1.cell 2 _ rfl
    go_wp2_with fail
    clear k_x_0 k_x_1 k_x_2
    generalize (w.alloc (.cells #[.bool (x).neg, .slice a_x n_x c_x, .slice b_x m_x d_x] 24)) = w1 at *
    have c := qlong_any w1 (neg := (x).neg) h_xn_1 h_xd_1
    rw [show (⟨(x).neg, (x).num, (x).den⟩ : QV) = x from rfl] at c
    rw [LT_x.out] at c
    refine c.mono ?_
    rintro e w2 ⟨rfl, hb⟩
    clear c
    have B2 := B1.trans (hb.mono B1.size)
    have h_xn_2 := h_xn_1.below hb
    have h_xd_2 := h_xd_1.below hb
    have h_x_2 := h_x_1.later hb
    clear hb B1 h_xn_1 h_xd_1 h_x_1
    go_wp2_with fail
    have c := wakes_any w2
    refine c.mono ?_
    rintro e w3 ⟨rfl, hb⟩
    clear c
    have B3 := B2.trans (hb.mono B2.size)
    have h_xn_3 := h_xn_2.below hb
    have h_xd_3 := h_xd_2.below hb
    have h_x_3 := h_x_2.later hb
    clear hb B2 h_xn_2 h_xd_2 h_x_2
    go_wp2_with fail
    go_ret
    exact ⟨rfl, B3⟩
  case false =>
    have LT_x := Lib.hid L_x
    clear L_x
    by_cases tl : 300 < ss.length
    case pos =>
      have d1 : decide ((300 : Int) < ((strB ss).size : Int)) = true := decide_eq_true (by omega)
      have d2 : decide ((300 : Int) < (ss.length : Int)) = true := decide_eq_true (by omega)
      clear tl hss
      go_enter Tryz.func5, Tryz.ntmps5
      have hb := below_al w (.cells #[.bool (x).neg, .slice a_x n_x c_x, .slice b_x m_x d_x] 24)
      have B1 := B0.trans (hb.mono B0.size)
      have h_xn_1 := h_xn_0.below hb
      have h_xd_1 := h_xd_0.below hb
      clear hb B0 h_xn_0 h_xd_0
      have h_x_1 := Has.new w #[.bool (x).neg, .slice a_x n_x c_x, .slice b_x m_x d_x] 24
      have k_x_0 := h_x_1.cell 0 _ rfl
      have k_x_1 := h_x_1.cell 1 _ rfl
      have k_x_2 := h_x_1.cell 2 _ rfl
      go_wp2_with fail
      clear k_x_0 k_x_1 k_x_2
      generalize (w.alloc (.cells #[.bool (x).neg, .slice a_x n_x c_x, .slice b_x m_x d_x] 24)) = w1 at *
      have c := qlong_any w1 (neg := (x).neg) h_xn_1 h_xd_1
      rw [show (⟨(x).neg, (x).num, (x).den⟩ : QV) = x from rfl] at c
      rw [LT_x.out] at c
      refine c.mono ?_
      rintro e w2 ⟨rfl, hb⟩
      clear c
      have B2 := B1.trans (hb.mono B1.size)
      have h_xn_2 := h_xn_1.below hb
      have h_xd_2 := h_xd_1.below hb
      have h_x_2 := h_x_1.later hb
      clear hb B1 h_xn_1 h_xd_1 h_x_1
      go_wp2_with fail
      have c := wakes_any w2
      refine c.mono ?_
      rintro e w3 ⟨rfl, hb⟩
      clear c
      have B3 := B2.trans (hb.mono B2.size)
      have h_xn_3 := h_xn_2.below hb
      have h_xd_3 := h_xd_2.below hb
      have h_x_3 := h_x_2.later hb
      clear hb B2 h_xn_2 h_xd_2 h_x_2
      go_wp2_with fail
      go_ret
      exact ⟨rfl, B3⟩
    have d1 : decide ((300 : Int) < ((strB ss).size : Int)) = false := decide_eq_false (by omega)
    have d2 : decide ((300 : Int) < (ss.length : Int)) = false := decide_eq_false (by omega)
    have SL := Lib.hid (show ss.length ≤ 1099511627776 by omega)
    have SB := Lib.hid hss
    clear tl hss
    obtain ⟨t, ht⟩ : ∃ t, t = (textV x).1 := ⟨_, rfl⟩
    have te := text_err x
    have TB := Lib.hid (show ∀ b ∈ t, b < 256 by rw [ht]; exact text_bd)
    have TL := Lib.hid (show chkV x = 0 → t.length ≤ 1099511627776 from fun h => by have := text_len h_xn_0.bd h_xd_0.bd h; rw [ht]; omega)
    have TR := Lib.hid (show chkV x = 0 → readV t = (x, 0) from fun h => by rw [ht]; exact read_text h_xn_0.bd h_xd_0.bd h)
    obtain ⟨r, hr⟩ : ∃ r, r = readV ss := ⟨_, rfl⟩
    have RV := Lib.hid hr.symm
    have RR := Lib.hid (show r.2 = 0 → textV r.1 = (ss, 0) from fun h => (text_read (x := r.1) (by rw [← hr]; exact Prod.ext rfl h)).1)
    clear hr
    by_cases rz : r.2 = 0
    case pos =>
      obtain ⟨v, hv⟩ : ∃ v, v = r.1 := ⟨_, rfl⟩
      have RX := Lib.hid (RR.out rz)
      have RV := Lib.hid (show readV ss = (r.1, 0) from RV.out.trans (Prod.ext rfl rz))
      clear rz RR hv v
      rcases te with te | te
      ·
        have TX := Lib.hid (show textV x = (t, 0) from Prod.ext ht.symm te.2)
        have TQ := Lib.hid (TR.out te.1)
        have TM := Lib.hid (TL.out te.1)
        clear te TR TL ht
        go_enter Tryz.func5, Tryz.ntmps5
        have hb := below_al w (.cells #[.bool (x).neg, .slice a_x n_x c_x, .slice b_x m_x d_x] 24)
        have B1 := B0.trans (hb.mono B0.size)
        have h_xn_1 := h_xn_0.below hb
        have h_xd_1 := h_xd_0.below hb
        clear hb B0 h_xn_0 h_xd_0
        have h_x_1 := Has.new w #[.bool (x).neg, .slice a_x n_x c_x, .slice b_x m_x d_x] 24
        have k_x_0 := h_x_1.cell 0 _ rfl
        have k_x_1 := h_x_1.cell 1 _ rfl
        have k_x_2 := h_x_1.cell 2 _ rfl
        go_wp2_with fail
        clear k_x_0 k_x_1 k_x_2
        generalize (w.alloc (.cells #[.bool (x).neg, .slice a_x n_x c_x, .slice b_x m_x d_x] 24)) = w1 at *
        have c := qlong_any w1 (neg := (x).neg) h_xn_1 h_xd_1
        rw [show (⟨(x).neg, (x).num, (x).den⟩ : QV) = x from rfl] at c
        rw [LT_x.out] at c
        refine c.mono ?_
        rintro e w2 ⟨rfl, hb⟩
        clear c
        have B2 := B1.trans (hb.mono B1.size)
        have h_xn_2 := h_xn_1.below hb
        have h_xd_2 := h_xd_1.below hb
        have h_x_2 := h_x_1.later hb
        clear hb B1 h_xn_1 h_xd_1 h_x_1
        have k_x_0 := h_x_2.cell 0 _ rfl
        have k_x_1 := h_x_2.cell 1 _ rfl
        have k_x_2 := h_x_2.cell 2 _ rfl
        go_wp2_with fail
        clear k_x_0 k_x_1 k_x_2
        have c := ratText_any w2 (g := (x).neg) h_xn_2 h_xd_2
        rw [show (⟨(x).neg, (x).num, (x).den⟩ : QV) = x from rfl] at c
        rw [TX.out] at c
        refine c.mono ?_
        rintro e w3 ⟨rfl, hb⟩
        clear c
        have B3 := B2.trans (hb.mono B2.size)
        have h_xn_3 := h_xn_2.below hb
        have h_xd_3 := h_xd_2.below hb
        have h_x_3 := h_x_2.later hb
        clear hb B2 h_xn_2 h_xd_2 h_x_2
        have k_x_0 := h_x_3.cell 0 _ rfl
        have k_x_1 := h_x_3.cell 1 _ rfl
        have k_x_2 := h_x_3.cell 2 _ rfl
        go_wp2_with fail
        clear k_x_0 k_x_1 k_x_2
        have c := refRatText_any w3 (g := (x).neg) h_xn_3 h_xd_3
        rw [show (⟨(x).neg, (x).num, (x).den⟩ : QV) = x from rfl] at c
        rw [TX.out] at c
        refine c.mono ?_
        rintro e w4 ⟨rfl, hb⟩
        clear c
        have B4 := B3.trans (hb.mono B3.size)
        have h_xn_4 := h_xn_3.below hb
        have h_xd_4 := h_xd_3.below hb
        have h_x_4 := h_x_3.later hb
        clear hb B3 h_xn_3 h_xd_3 h_x_3
        go_wp2_with fail
        have c := ratRead_any w4 ss SB.out SL.out
        rw [RV.out] at c
        refine c.mono ?_
        rintro e w5 ⟨a_e, n_e, c_e, b_e, m_e, d_e, rfl, h_en_5, h_ed_5, hb⟩
        clear c
        have B5 := B4.trans (hb.mono B4.size)
        have h_xn_5 := h_xn_4.below hb
        have h_xd_5 := h_xd_4.below hb
        have h_x_5 := h_x_4.later hb
        clear hb B4 h_xn_4 h_xd_4 h_x_4
        have hb := below_al w5 (.cells #[.bool ((r.1)).neg, .slice a_e n_e c_e, .slice b_e m_e d_e] 24)
        have B6 := B5.trans (hb.mono B5.size)
        have h_xn_6 := h_xn_5.below hb
        have h_xd_6 := h_xd_5.below hb
        have h_x_6 := h_x_5.later hb
        have h_en_6 := h_en_5.below hb
        have h_ed_6 := h_ed_5.below hb
        clear hb B5 h_xn_5 h_xd_5 h_x_5 h_en_5 h_ed_5
        have h_e_6 := Has.new w5 #[.bool ((r.1)).neg, .slice a_e n_e c_e, .slice b_e m_e d_e] 24
        go_wp2_with first | refine wpList_store_new rfl 24 _ _ rfl atRat _ _ _ rfl rfl rfl rfl (rat_one _ _ _ _ _ _ _) ?_
        generalize (w5.alloc (.cells #[.bool ((r.1)).neg, .slice a_e n_e c_e, .slice b_e m_e d_e] 24)) = w6 at *
        have c := refRatRead_any w6 ss SB.out SL.out
        rw [RV.out] at c
        refine c.mono ?_
        rintro e w7 ⟨a_f, n_f, c_f, b_f, m_f, d_f, rfl, h_fn_7, h_fd_7, hb⟩
        clear c
        have B7 := B6.trans (hb.mono B6.size)
        have h_xn_7 := h_xn_6.below hb
        have h_xd_7 := h_xd_6.below hb
        have h_x_7 := h_x_6.later hb
        have h_en_7 := h_en_6.below hb
        have h_ed_7 := h_ed_6.below hb
        have h_e_7 := h_e_6.later hb
        clear hb B6 h_xn_6 h_xd_6 h_x_6 h_en_6 h_ed_6 h_e_6
        have hb := below_al w7 (.cells #[.bool ((r.1)).neg, .slice a_f n_f c_f, .slice b_f m_f d_f] 24)
        have B8 := B7.trans (hb.mono B7.size)
        have h_xn_8 := h_xn_7.below hb
        have h_xd_8 := h_xd_7.below hb
        have h_x_8 := h_x_7.later hb
        have h_en_8 := h_en_7.below hb
        have h_ed_8 := h_ed_7.below hb
        have h_e_8 := h_e_7.later hb
        have h_fn_8 := h_fn_7.below hb
        have h_fd_8 := h_fd_7.below hb
        clear hb B7 h_xn_7 h_xd_7 h_x_7 h_en_7 h_ed_7 h_e_7 h_fn_7 h_fd_7
        have h_f_8 := Has.new w7 #[.bool ((r.1)).neg, .slice a_f n_f c_f, .slice b_f m_f d_f] 24
        have k_e_0 := h_e_8.cell 0 _ rfl
        have k_e_1 := h_e_8.cell 1 _ rfl
        have k_e_2 := h_e_8.cell 2 _ rfl
        have k_f_0 := h_f_8.cell 0 _ rfl
        have k_f_1 := h_f_8.cell 1 _ rfl
        have k_f_2 := h_f_8.cell 2 _ rfl
        go_wp2_with first | refine wpList_store_new rfl 24 _ _ rfl atRat _ _ _ rfl rfl rfl rfl (rat_one _ _ _ _ _ _ _) ?_
        clear k_e_0 k_e_1 k_e_2 k_f_0 k_f_1 k_f_2
        generalize (w7.alloc (.cells #[.bool ((r.1)).neg, .slice a_f n_f c_f, .slice b_f m_f d_f] 24)) = w8 at *
        have c := refRatSame_any w8 (g1 := ((r.1)).neg) (g2 := ((r.1)).neg) h_en_8 h_ed_8 h_fn_8 h_fd_8
        rw [show (⟨((r.1)).neg, ((r.1)).num, ((r.1)).den⟩ : QV) = (r.1) from rfl] at c
        rw [sameV_self] at c
        refine c.mono ?_
        rintro e w9 ⟨rfl, hb⟩
        clear c
        have B9 := B8.trans (hb.mono B8.size)
        have h_xn_9 := h_xn_8.below hb
        have h_xd_9 := h_xd_8.below hb
        have h_x_9 := h_x_8.later hb
        have h_en_9 := h_en_8.below hb
        have h_ed_9 := h_ed_8.below hb
        have h_e_9 := h_e_8.later hb
        have h_fn_9 := h_fn_8.below hb
        have h_fd_9 := h_fd_8.below hb
        have h_f_9 := h_f_8.later hb
        clear hb B8 h_xn_8 h_xd_8 h_x_8 h_en_8 h_ed_8 h_e_8 h_fn_8 h_fd_8 h_f_8
        go_wp2_with fail
        have c := ratRead_any w9 t TB.out TM.out
        rw [TQ.out] at c
        refine c.mono ?_
        rintro e w10 ⟨a_h, n_h, c_h, b_h, m_h, d_h, rfl, h_hn_10, h_hd_10, hb⟩
        clear c
        have B10 := B9.trans (hb.mono B9.size)
        have h_xn_10 := h_xn_9.below hb
        have h_xd_10 := h_xd_9.below hb
        have h_x_10 := h_x_9.later hb
        have h_en_10 := h_en_9.below hb
        have h_ed_10 := h_ed_9.below hb
        have h_e_10 := h_e_9.later hb
        have h_fn_10 := h_fn_9.below hb
        have h_fd_10 := h_fd_9.below hb
        have h_f_10 := h_f_9.later hb
        clear hb B9 h_xn_9 h_xd_9 h_x_9 h_en_9 h_ed_9 h_e_9 h_fn_9 h_fd_9 h_f_9
        have hb := below_al w10 (.cells #[.bool (x).neg, .slice a_h n_h c_h, .slice b_h m_h d_h] 24)
        have B11 := B10.trans (hb.mono B10.size)
        have h_xn_11 := h_xn_10.below hb
        have h_xd_11 := h_xd_10.below hb
        have h_x_11 := h_x_10.later hb
        have h_en_11 := h_en_10.below hb
        have h_ed_11 := h_ed_10.below hb
        have h_e_11 := h_e_10.later hb
        have h_fn_11 := h_fn_10.below hb
        have h_fd_11 := h_fd_10.below hb
        have h_f_11 := h_f_10.later hb
        have h_hn_11 := h_hn_10.below hb
        have h_hd_11 := h_hd_10.below hb
        clear hb B10 h_xn_10 h_xd_10 h_x_10 h_en_10 h_ed_10 h_e_10 h_fn_10 h_fd_10 h_f_10 h_hn_10 h_hd_10
        have h_h_11 := Has.new w10 #[.bool (x).neg, .slice a_h n_h c_h, .slice b_h m_h d_h] 24
        have k_h_0 := h_h_11.cell 0 _ rfl
        have k_h_1 := h_h_11.cell 1 _ rfl
        have k_h_2 := h_h_11.cell 2 _ rfl
        have k_x_0 := h_x_11.cell 0 _ rfl
        have k_x_1 := h_x_11.cell 1 _ rfl
        have k_x_2 := h_x_11.cell 2 _ rfl
        go_wp2_with first | refine wpList_store_new rfl 24 _ _ rfl atRat _ _ _ rfl rfl rfl rfl (rat_one _ _ _ _ _ _ _) ?_
        clear k_h_0 k_h_1 k_h_2 k_x_0 k_x_1 k_x_2
        generalize (w10.alloc (.cells #[.bool (x).neg, .slice a_h n_h c_h, .slice b_h m_h d_h] 24)) = w11 at *
        have c := refRatSame_any w11 (g1 := (x).neg) (g2 := (x).neg) h_hn_11 h_hd_11 h_xn_11 h_xd_11
        rw [show (⟨(x).neg, (x).num, (x).den⟩ : QV) = x from rfl] at c
        rw [sameV_self] at c
        refine c.mono ?_
        rintro e w12 ⟨rfl, hb⟩
        clear c
        have B12 := B11.trans (hb.mono B11.size)
        have h_xn_12 := h_xn_11.below hb
        have h_xd_12 := h_xd_11.below hb
        have h_x_12 := h_x_11.later hb
        have h_en_12 := h_en_11.below hb
        have h_ed_12 := h_ed_11.below hb
        have h_e_12 := h_e_11.later hb
        have h_fn_12 := h_fn_11.below hb
        have h_fd_12 := h_fd_11.below hb
        have h_f_12 := h_f_11.later hb
        have h_hn_12 := h_hn_11.below hb
        have h_hd_12 := h_hd_11.below hb
        have h_h_12 := h_h_11.later hb
        clear hb B11 h_xn_11 h_xd_11 h_x_11 h_en_11 h_ed_11 h_e_11 h_fn_11 h_fd_11 h_f_11 h_hn_11 h_hd_11 h_h_11
        have k_e_0 := h_e_12.cell 0 _ rfl
        have k_e_1 := h_e_12.cell 1 _ rfl
        have k_e_2 := h_e_12.cell 2 _ rfl
        go_wp2_with fail
        clear k_e_0 k_e_1 k_e_2
        have c := ratText_any w12 (g := ((r.1)).neg) h_en_12 h_ed_12
        rw [show (⟨((r.1)).neg, ((r.1)).num, ((r.1)).den⟩ : QV) = (r.1) from rfl] at c
        rw [RX.out] at c
        refine c.mono ?_
        rintro e w13 ⟨rfl, hb⟩
        clear c
        have B13 := B12.trans (hb.mono B12.size)
        have h_xn_13 := h_xn_12.below hb
        have h_xd_13 := h_xd_12.below hb
        have h_x_13 := h_x_12.later hb
        have h_en_13 := h_en_12.below hb
        have h_ed_13 := h_ed_12.below hb
        have h_e_13 := h_e_12.later hb
        have h_fn_13 := h_fn_12.below hb
        have h_fd_13 := h_fd_12.below hb
        have h_f_13 := h_f_12.later hb
        have h_hn_13 := h_hn_12.below hb
        have h_hd_13 := h_hd_12.below hb
        have h_h_13 := h_h_12.later hb
        clear hb B12 h_xn_12 h_xd_12 h_x_12 h_en_12 h_ed_12 h_e_12 h_fn_12 h_fd_12 h_f_12 h_hn_12 h_hd_12 h_h_12
        go_wp2_with fail
        have c := wakes_any w13
        refine c.mono ?_
        rintro e w14 ⟨rfl, hb⟩
        clear c
        have B14 := B13.trans (hb.mono B13.size)
        have h_xn_14 := h_xn_13.below hb
        have h_xd_14 := h_xd_13.below hb
        have h_x_14 := h_x_13.later hb
        have h_en_14 := h_en_13.below hb
        have h_ed_14 := h_ed_13.below hb
        have h_e_14 := h_e_13.later hb
        have h_fn_14 := h_fn_13.below hb
        have h_fd_14 := h_fd_13.below hb
        have h_f_14 := h_f_13.later hb
        have h_hn_14 := h_hn_13.below hb
        have h_hd_14 := h_hd_13.below hb
        have h_h_14 := h_h_13.later hb
        clear hb B13 h_xn_13 h_xd_13 h_x_13 h_en_13 h_ed_13 h_e_13 h_fn_13 h_fd_13 h_f_13 h_hn_13 h_hd_13 h_h_13
        go_wp2_with fail
        go_ret
        exact ⟨rfl, B14⟩
      ·
        have TX := Lib.hid (show textV x = (t, 8) from Prod.ext ht.symm te)
        clear te TR TL ht
        go_enter Tryz.func5, Tryz.ntmps5
        have hb := below_al w (.cells #[.bool (x).neg, .slice a_x n_x c_x, .slice b_x m_x d_x] 24)
        have B1 := B0.trans (hb.mono B0.size)
        have h_xn_1 := h_xn_0.below hb
        have h_xd_1 := h_xd_0.below hb
        clear hb B0 h_xn_0 h_xd_0
        have h_x_1 := Has.new w #[.bool (x).neg, .slice a_x n_x c_x, .slice b_x m_x d_x] 24
        have k_x_0 := h_x_1.cell 0 _ rfl
        have k_x_1 := h_x_1.cell 1 _ rfl
        have k_x_2 := h_x_1.cell 2 _ rfl
        go_wp2_with fail
        clear k_x_0 k_x_1 k_x_2
        generalize (w.alloc (.cells #[.bool (x).neg, .slice a_x n_x c_x, .slice b_x m_x d_x] 24)) = w1 at *
        have c := qlong_any w1 (neg := (x).neg) h_xn_1 h_xd_1
        rw [show (⟨(x).neg, (x).num, (x).den⟩ : QV) = x from rfl] at c
        rw [LT_x.out] at c
        refine c.mono ?_
        rintro e w2 ⟨rfl, hb⟩
        clear c
        have B2 := B1.trans (hb.mono B1.size)
        have h_xn_2 := h_xn_1.below hb
        have h_xd_2 := h_xd_1.below hb
        have h_x_2 := h_x_1.later hb
        clear hb B1 h_xn_1 h_xd_1 h_x_1
        have k_x_0 := h_x_2.cell 0 _ rfl
        have k_x_1 := h_x_2.cell 1 _ rfl
        have k_x_2 := h_x_2.cell 2 _ rfl
        go_wp2_with fail
        clear k_x_0 k_x_1 k_x_2
        have c := ratText_any w2 (g := (x).neg) h_xn_2 h_xd_2
        rw [show (⟨(x).neg, (x).num, (x).den⟩ : QV) = x from rfl] at c
        rw [TX.out] at c
        refine c.mono ?_
        rintro e w3 ⟨rfl, hb⟩
        clear c
        have B3 := B2.trans (hb.mono B2.size)
        have h_xn_3 := h_xn_2.below hb
        have h_xd_3 := h_xd_2.below hb
        have h_x_3 := h_x_2.later hb
        clear hb B2 h_xn_2 h_xd_2 h_x_2
        have k_x_0 := h_x_3.cell 0 _ rfl
        have k_x_1 := h_x_3.cell 1 _ rfl
        have k_x_2 := h_x_3.cell 2 _ rfl
        go_wp2_with fail
        clear k_x_0 k_x_1 k_x_2
        have c := refRatText_any w3 (g := (x).neg) h_xn_3 h_xd_3
        rw [show (⟨(x).neg, (x).num, (x).den⟩ : QV) = x from rfl] at c
        rw [TX.out] at c
        refine c.mono ?_
        rintro e w4 ⟨rfl, hb⟩
        clear c
        have B4 := B3.trans (hb.mono B3.size)
        have h_xn_4 := h_xn_3.below hb
        have h_xd_4 := h_xd_3.below hb
        have h_x_4 := h_x_3.later hb
        clear hb B3 h_xn_3 h_xd_3 h_x_3
        go_wp2_with fail
        have c := ratRead_any w4 ss SB.out SL.out
        rw [RV.out] at c
        refine c.mono ?_
        rintro e w5 ⟨a_e, n_e, c_e, b_e, m_e, d_e, rfl, h_en_5, h_ed_5, hb⟩
        clear c
        have B5 := B4.trans (hb.mono B4.size)
        have h_xn_5 := h_xn_4.below hb
        have h_xd_5 := h_xd_4.below hb
        have h_x_5 := h_x_4.later hb
        clear hb B4 h_xn_4 h_xd_4 h_x_4
        have hb := below_al w5 (.cells #[.bool ((r.1)).neg, .slice a_e n_e c_e, .slice b_e m_e d_e] 24)
        have B6 := B5.trans (hb.mono B5.size)
        have h_xn_6 := h_xn_5.below hb
        have h_xd_6 := h_xd_5.below hb
        have h_x_6 := h_x_5.later hb
        have h_en_6 := h_en_5.below hb
        have h_ed_6 := h_ed_5.below hb
        clear hb B5 h_xn_5 h_xd_5 h_x_5 h_en_5 h_ed_5
        have h_e_6 := Has.new w5 #[.bool ((r.1)).neg, .slice a_e n_e c_e, .slice b_e m_e d_e] 24
        go_wp2_with first | refine wpList_store_new rfl 24 _ _ rfl atRat _ _ _ rfl rfl rfl rfl (rat_one _ _ _ _ _ _ _) ?_
        generalize (w5.alloc (.cells #[.bool ((r.1)).neg, .slice a_e n_e c_e, .slice b_e m_e d_e] 24)) = w6 at *
        have c := refRatRead_any w6 ss SB.out SL.out
        rw [RV.out] at c
        refine c.mono ?_
        rintro e w7 ⟨a_f, n_f, c_f, b_f, m_f, d_f, rfl, h_fn_7, h_fd_7, hb⟩
        clear c
        have B7 := B6.trans (hb.mono B6.size)
        have h_xn_7 := h_xn_6.below hb
        have h_xd_7 := h_xd_6.below hb
        have h_x_7 := h_x_6.later hb
        have h_en_7 := h_en_6.below hb
        have h_ed_7 := h_ed_6.below hb
        have h_e_7 := h_e_6.later hb
        clear hb B6 h_xn_6 h_xd_6 h_x_6 h_en_6 h_ed_6 h_e_6
        have hb := below_al w7 (.cells #[.bool ((r.1)).neg, .slice a_f n_f c_f, .slice b_f m_f d_f] 24)
        have B8 := B7.trans (hb.mono B7.size)
        have h_xn_8 := h_xn_7.below hb
        have h_xd_8 := h_xd_7.below hb
        have h_x_8 := h_x_7.later hb
        have h_en_8 := h_en_7.below hb
        have h_ed_8 := h_ed_7.below hb
        have h_e_8 := h_e_7.later hb
        have h_fn_8 := h_fn_7.below hb
        have h_fd_8 := h_fd_7.below hb
        clear hb B7 h_xn_7 h_xd_7 h_x_7 h_en_7 h_ed_7 h_e_7 h_fn_7 h_fd_7
        have h_f_8 := Has.new w7 #[.bool ((r.1)).neg, .slice a_f n_f c_f, .slice b_f m_f d_f] 24
        have k_e_0 := h_e_8.cell 0 _ rfl
        have k_e_1 := h_e_8.cell 1 _ rfl
        have k_e_2 := h_e_8.cell 2 _ rfl
        have k_f_0 := h_f_8.cell 0 _ rfl
        have k_f_1 := h_f_8.cell 1 _ rfl
        have k_f_2 := h_f_8.cell 2 _ rfl
        go_wp2_with first | refine wpList_store_new rfl 24 _ _ rfl atRat _ _ _ rfl rfl rfl rfl (rat_one _ _ _ _ _ _ _) ?_
        clear k_e_0 k_e_1 k_e_2 k_f_0 k_f_1 k_f_2
        generalize (w7.alloc (.cells #[.bool ((r.1)).neg, .slice a_f n_f c_f, .slice b_f m_f d_f] 24)) = w8 at *
        have c := refRatSame_any w8 (g1 := ((r.1)).neg) (g2 := ((r.1)).neg) h_en_8 h_ed_8 h_fn_8 h_fd_8
        rw [show (⟨((r.1)).neg, ((r.1)).num, ((r.1)).den⟩ : QV) = (r.1) from rfl] at c
        rw [sameV_self] at c
        refine c.mono ?_
        rintro e w9 ⟨rfl, hb⟩
        clear c
        have B9 := B8.trans (hb.mono B8.size)
        have h_xn_9 := h_xn_8.below hb
        have h_xd_9 := h_xd_8.below hb
        have h_x_9 := h_x_8.later hb
        have h_en_9 := h_en_8.below hb
        have h_ed_9 := h_ed_8.below hb
        have h_e_9 := h_e_8.later hb
        have h_fn_9 := h_fn_8.below hb
        have h_fd_9 := h_fd_8.below hb
        have h_f_9 := h_f_8.later hb
        clear hb B8 h_xn_8 h_xd_8 h_x_8 h_en_8 h_ed_8 h_e_8 h_fn_8 h_fd_8 h_f_8
        have k_e_0 := h_e_9.cell 0 _ rfl
        have k_e_1 := h_e_9.cell 1 _ rfl
        have k_e_2 := h_e_9.cell 2 _ rfl
        go_wp2_with fail
        clear k_e_0 k_e_1 k_e_2
        have c := ratText_any w9 (g := ((r.1)).neg) h_en_9 h_ed_9
        rw [show (⟨((r.1)).neg, ((r.1)).num, ((r.1)).den⟩ : QV) = (r.1) from rfl] at c
        rw [RX.out] at c
        refine c.mono ?_
        rintro e w10 ⟨rfl, hb⟩
        clear c
        have B10 := B9.trans (hb.mono B9.size)
        have h_xn_10 := h_xn_9.below hb
        have h_xd_10 := h_xd_9.below hb
        have h_x_10 := h_x_9.later hb
        have h_en_10 := h_en_9.below hb
        have h_ed_10 := h_ed_9.below hb
        have h_e_10 := h_e_9.later hb
        have h_fn_10 := h_fn_9.below hb
        have h_fd_10 := h_fd_9.below hb
        have h_f_10 := h_f_9.later hb
        clear hb B9 h_xn_9 h_xd_9 h_x_9 h_en_9 h_ed_9 h_e_9 h_fn_9 h_fd_9 h_f_9
        go_wp2_with fail
        have c := wakes_any w10
        refine c.mono ?_
        rintro e w11 ⟨rfl, hb⟩
        clear c
        have B11 := B10.trans (hb.mono B10.size)
        have h_xn_11 := h_xn_10.below hb
        have h_xd_11 := h_xd_10.below hb
        have h_x_11 := h_x_10.later hb
        have h_en_11 := h_en_10.below hb
        have h_ed_11 := h_ed_10.below hb
        have h_e_11 := h_e_10.later hb
        have h_fn_11 := h_fn_10.below hb
        have h_fd_11 := h_fd_10.below hb
        have h_f_11 := h_f_10.later hb
        clear hb B10 h_xn_10 h_xd_10 h_x_10 h_en_10 h_ed_10 h_e_10 h_fn_10 h_fd_10 h_f_10
        go_wp2_with fail
        go_ret
        exact ⟨rfl, B11⟩
    case neg =>
      obtain ⟨k, hk⟩ : ∃ k, k = r.2 := ⟨_, rfl⟩
      have RV := Lib.hid (show readV ss = (r.1, k) from RV.out.trans (Prod.ext rfl hk.symm))
      have e1 : (k == 0) = false := beq_eq_false_iff_ne.2 (by rw [hk]; exact rz)
      clear rz RR hk
      rcases te with te | te
      ·
        have TX := Lib.hid (show textV x = (t, 0) from Prod.ext ht.symm te.2)
        have TQ := Lib.hid (TR.out te.1)
        have TM := Lib.hid (TL.out te.1)
        clear te TR TL ht
        go_enter Tryz.func5, Tryz.ntmps5
        have hb := below_al w (.cells #[.bool (x).neg, .slice a_x n_x c_x, .slice b_x m_x d_x] 24)
        have B1 := B0.trans (hb.mono B0.size)
        have h_xn_1 := h_xn_0.below hb
        have h_xd_1 := h_xd_0.below hb
        clear hb B0 h_xn_0 h_xd_0
        have h_x_1 := Has.new w #[.bool (x).neg, .slice a_x n_x c_x, .slice b_x m_x d_x] 24
        have k_x_0 := h_x_1.cell 0 _ rfl
        have k_x_1 := h_x_1.cell 1 _ rfl
        have k_x_2 := h_x_1.cell 2 _ rfl
        go_wp2_with fail
        clear k_x_0 k_x_1 k_x_2
        generalize (w.alloc (.cells #[.bool (x).neg, .slice a_x n_x c_x, .slice b_x m_x d_x] 24)) = w1 at *
        have c := qlong_any w1 (neg := (x).neg) h_xn_1 h_xd_1
        rw [show (⟨(x).neg, (x).num, (x).den⟩ : QV) = x from rfl] at c
        rw [LT_x.out] at c
        refine c.mono ?_
        rintro e w2 ⟨rfl, hb⟩
        clear c
        have B2 := B1.trans (hb.mono B1.size)
        have h_xn_2 := h_xn_1.below hb
        have h_xd_2 := h_xd_1.below hb
        have h_x_2 := h_x_1.later hb
        clear hb B1 h_xn_1 h_xd_1 h_x_1
        have k_x_0 := h_x_2.cell 0 _ rfl
        have k_x_1 := h_x_2.cell 1 _ rfl
        have k_x_2 := h_x_2.cell 2 _ rfl
        go_wp2_with fail
        clear k_x_0 k_x_1 k_x_2
        have c := ratText_any w2 (g := (x).neg) h_xn_2 h_xd_2
        rw [show (⟨(x).neg, (x).num, (x).den⟩ : QV) = x from rfl] at c
        rw [TX.out] at c
        refine c.mono ?_
        rintro e w3 ⟨rfl, hb⟩
        clear c
        have B3 := B2.trans (hb.mono B2.size)
        have h_xn_3 := h_xn_2.below hb
        have h_xd_3 := h_xd_2.below hb
        have h_x_3 := h_x_2.later hb
        clear hb B2 h_xn_2 h_xd_2 h_x_2
        have k_x_0 := h_x_3.cell 0 _ rfl
        have k_x_1 := h_x_3.cell 1 _ rfl
        have k_x_2 := h_x_3.cell 2 _ rfl
        go_wp2_with fail
        clear k_x_0 k_x_1 k_x_2
        have c := refRatText_any w3 (g := (x).neg) h_xn_3 h_xd_3
        rw [show (⟨(x).neg, (x).num, (x).den⟩ : QV) = x from rfl] at c
        rw [TX.out] at c
        refine c.mono ?_
        rintro e w4 ⟨rfl, hb⟩
        clear c
        have B4 := B3.trans (hb.mono B3.size)
        have h_xn_4 := h_xn_3.below hb
        have h_xd_4 := h_xd_3.below hb
        have h_x_4 := h_x_3.later hb
        clear hb B3 h_xn_3 h_xd_3 h_x_3
        go_wp2_with fail
        have c := ratRead_any w4 ss SB.out SL.out
        rw [RV.out] at c
        refine c.mono ?_
        rintro e w5 ⟨a_e, n_e, c_e, b_e, m_e, d_e, rfl, h_en_5, h_ed_5, hb⟩
        clear c
        have B5 := B4.trans (hb.mono B4.size)
        have h_xn_5 := h_xn_4.below hb
        have h_xd_5 := h_xd_4.below hb
        have h_x_5 := h_x_4.later hb
        clear hb B4 h_xn_4 h_xd_4 h_x_4
        have hb := below_al w5 (.cells #[.bool ((r.1)).neg, .slice a_e n_e c_e, .slice b_e m_e d_e] 24)
        have B6 := B5.trans (hb.mono B5.size)
        have h_xn_6 := h_xn_5.below hb
        have h_xd_6 := h_xd_5.below hb
        have h_x_6 := h_x_5.later hb
        have h_en_6 := h_en_5.below hb
        have h_ed_6 := h_ed_5.below hb
        clear hb B5 h_xn_5 h_xd_5 h_x_5 h_en_5 h_ed_5
        have h_e_6 := Has.new w5 #[.bool ((r.1)).neg, .slice a_e n_e c_e, .slice b_e m_e d_e] 24
        go_wp2_with first | refine wpList_store_new rfl 24 _ _ rfl atRat _ _ _ rfl rfl rfl rfl (rat_one _ _ _ _ _ _ _) ?_
        generalize (w5.alloc (.cells #[.bool ((r.1)).neg, .slice a_e n_e c_e, .slice b_e m_e d_e] 24)) = w6 at *
        have c := refRatRead_any w6 ss SB.out SL.out
        rw [RV.out] at c
        refine c.mono ?_
        rintro e w7 ⟨a_f, n_f, c_f, b_f, m_f, d_f, rfl, h_fn_7, h_fd_7, hb⟩
        clear c
        have B7 := B6.trans (hb.mono B6.size)
        have h_xn_7 := h_xn_6.below hb
        have h_xd_7 := h_xd_6.below hb
        have h_x_7 := h_x_6.later hb
        have h_en_7 := h_en_6.below hb
        have h_ed_7 := h_ed_6.below hb
        have h_e_7 := h_e_6.later hb
        clear hb B6 h_xn_6 h_xd_6 h_x_6 h_en_6 h_ed_6 h_e_6
        have hb := below_al w7 (.cells #[.bool ((r.1)).neg, .slice a_f n_f c_f, .slice b_f m_f d_f] 24)
        have B8 := B7.trans (hb.mono B7.size)
        have h_xn_8 := h_xn_7.below hb
        have h_xd_8 := h_xd_7.below hb
        have h_x_8 := h_x_7.later hb
        have h_en_8 := h_en_7.below hb
        have h_ed_8 := h_ed_7.below hb
        have h_e_8 := h_e_7.later hb
        have h_fn_8 := h_fn_7.below hb
        have h_fd_8 := h_fd_7.below hb
        clear hb B7 h_xn_7 h_xd_7 h_x_7 h_en_7 h_ed_7 h_e_7 h_fn_7 h_fd_7
        have h_f_8 := Has.new w7 #[.bool ((r.1)).neg, .slice a_f n_f c_f, .slice b_f m_f d_f] 24
        have k_e_0 := h_e_8.cell 0 _ rfl
        have k_e_1 := h_e_8.cell 1 _ rfl
        have k_e_2 := h_e_8.cell 2 _ rfl
        have k_f_0 := h_f_8.cell 0 _ rfl
        have k_f_1 := h_f_8.cell 1 _ rfl
        have k_f_2 := h_f_8.cell 2 _ rfl
        go_wp2_with first | refine wpList_store_new rfl 24 _ _ rfl atRat _ _ _ rfl rfl rfl rfl (rat_one _ _ _ _ _ _ _) ?_
        clear k_e_0 k_e_1 k_e_2 k_f_0 k_f_1 k_f_2
        generalize (w7.alloc (.cells #[.bool ((r.1)).neg, .slice a_f n_f c_f, .slice b_f m_f d_f] 24)) = w8 at *
        have c := refRatSame_any w8 (g1 := ((r.1)).neg) (g2 := ((r.1)).neg) h_en_8 h_ed_8 h_fn_8 h_fd_8
        rw [show (⟨((r.1)).neg, ((r.1)).num, ((r.1)).den⟩ : QV) = (r.1) from rfl] at c
        rw [sameV_self] at c
        refine c.mono ?_
        rintro e w9 ⟨rfl, hb⟩
        clear c
        have B9 := B8.trans (hb.mono B8.size)
        have h_xn_9 := h_xn_8.below hb
        have h_xd_9 := h_xd_8.below hb
        have h_x_9 := h_x_8.later hb
        have h_en_9 := h_en_8.below hb
        have h_ed_9 := h_ed_8.below hb
        have h_e_9 := h_e_8.later hb
        have h_fn_9 := h_fn_8.below hb
        have h_fd_9 := h_fd_8.below hb
        have h_f_9 := h_f_8.later hb
        clear hb B8 h_xn_8 h_xd_8 h_x_8 h_en_8 h_ed_8 h_e_8 h_fn_8 h_fd_8 h_f_8
        go_wp2_with fail
        have c := ratRead_any w9 t TB.out TM.out
        rw [TQ.out] at c
        refine c.mono ?_
        rintro e w10 ⟨a_h, n_h, c_h, b_h, m_h, d_h, rfl, h_hn_10, h_hd_10, hb⟩
        clear c
        have B10 := B9.trans (hb.mono B9.size)
        have h_xn_10 := h_xn_9.below hb
        have h_xd_10 := h_xd_9.below hb
        have h_x_10 := h_x_9.later hb
        have h_en_10 := h_en_9.below hb
        have h_ed_10 := h_ed_9.below hb
        have h_e_10 := h_e_9.later hb
        have h_fn_10 := h_fn_9.below hb
        have h_fd_10 := h_fd_9.below hb
        have h_f_10 := h_f_9.later hb
        clear hb B9 h_xn_9 h_xd_9 h_x_9 h_en_9 h_ed_9 h_e_9 h_fn_9 h_fd_9 h_f_9
        have hb := below_al w10 (.cells #[.bool (x).neg, .slice a_h n_h c_h, .slice b_h m_h d_h] 24)
        have B11 := B10.trans (hb.mono B10.size)
        have h_xn_11 := h_xn_10.below hb
        have h_xd_11 := h_xd_10.below hb
        have h_x_11 := h_x_10.later hb
        have h_en_11 := h_en_10.below hb
        have h_ed_11 := h_ed_10.below hb
        have h_e_11 := h_e_10.later hb
        have h_fn_11 := h_fn_10.below hb
        have h_fd_11 := h_fd_10.below hb
        have h_f_11 := h_f_10.later hb
        have h_hn_11 := h_hn_10.below hb
        have h_hd_11 := h_hd_10.below hb
        clear hb B10 h_xn_10 h_xd_10 h_x_10 h_en_10 h_ed_10 h_e_10 h_fn_10 h_fd_10 h_f_10 h_hn_10 h_hd_10
        have h_h_11 := Has.new w10 #[.bool (x).neg, .slice a_h n_h c_h, .slice b_h m_h d_h] 24
        have k_h_0 := h_h_11.cell 0 _ rfl
        have k_h_1 := h_h_11.cell 1 _ rfl
        have k_h_2 := h_h_11.cell 2 _ rfl
        have k_x_0 := h_x_11.cell 0 _ rfl
        have k_x_1 := h_x_11.cell 1 _ rfl
        have k_x_2 := h_x_11.cell 2 _ rfl
        go_wp2_with first | refine wpList_store_new rfl 24 _ _ rfl atRat _ _ _ rfl rfl rfl rfl (rat_one _ _ _ _ _ _ _) ?_
        clear k_h_0 k_h_1 k_h_2 k_x_0 k_x_1 k_x_2
        generalize (w10.alloc (.cells #[.bool (x).neg, .slice a_h n_h c_h, .slice b_h m_h d_h] 24)) = w11 at *
        have c := refRatSame_any w11 (g1 := (x).neg) (g2 := (x).neg) h_hn_11 h_hd_11 h_xn_11 h_xd_11
        rw [show (⟨(x).neg, (x).num, (x).den⟩ : QV) = x from rfl] at c
        rw [sameV_self] at c
        refine c.mono ?_
        rintro e w12 ⟨rfl, hb⟩
        clear c
        have B12 := B11.trans (hb.mono B11.size)
        have h_xn_12 := h_xn_11.below hb
        have h_xd_12 := h_xd_11.below hb
        have h_x_12 := h_x_11.later hb
        have h_en_12 := h_en_11.below hb
        have h_ed_12 := h_ed_11.below hb
        have h_e_12 := h_e_11.later hb
        have h_fn_12 := h_fn_11.below hb
        have h_fd_12 := h_fd_11.below hb
        have h_f_12 := h_f_11.later hb
        have h_hn_12 := h_hn_11.below hb
        have h_hd_12 := h_hd_11.below hb
        have h_h_12 := h_h_11.later hb
        clear hb B11 h_xn_11 h_xd_11 h_x_11 h_en_11 h_ed_11 h_e_11 h_fn_11 h_fd_11 h_f_11 h_hn_11 h_hd_11 h_h_11
        go_wp2_with fail
        have c := wakes_any w12
        refine c.mono ?_
        rintro e w13 ⟨rfl, hb⟩
        clear c
        have B13 := B12.trans (hb.mono B12.size)
        have h_xn_13 := h_xn_12.below hb
        have h_xd_13 := h_xd_12.below hb
        have h_x_13 := h_x_12.later hb
        have h_en_13 := h_en_12.below hb
        have h_ed_13 := h_ed_12.below hb
        have h_e_13 := h_e_12.later hb
        have h_fn_13 := h_fn_12.below hb
        have h_fd_13 := h_fd_12.below hb
        have h_f_13 := h_f_12.later hb
        have h_hn_13 := h_hn_12.below hb
        have h_hd_13 := h_hd_12.below hb
        have h_h_13 := h_h_12.later hb
        clear hb B12 h_xn_12 h_xd_12 h_x_12 h_en_12 h_ed_12 h_e_12 h_fn_12 h_fd_12 h_f_12 h_hn_12 h_hd_12 h_h_12
        go_wp2_with fail
        go_ret
        exact ⟨rfl, B13⟩
      ·
        have TX := Lib.hid (show textV x = (t, 8) from Prod.ext ht.symm te)
        clear te TR TL ht
        go_enter Tryz.func5, Tryz.ntmps5
        have hb := below_al w (.cells #[.bool (x).neg, .slice a_x n_x c_x, .slice b_x m_x d_x] 24)
        have B1 := B0.trans (hb.mono B0.size)
        have h_xn_1 := h_xn_0.below hb
        have h_xd_1 := h_xd_0.below hb
        clear hb B0 h_xn_0 h_xd_0
        have h_x_1 := Has.new w #[.bool (x).neg, .slice a_x n_x c_x, .slice b_x m_x d_x] 24
        have k_x_0 := h_x_1.cell 0 _ rfl
        have k_x_1 := h_x_1.cell 1 _ rfl
        have k_x_2 := h_x_1.cell 2 _ rfl
        go_wp2_with fail
        clear k_x_0 k_x_1 k_x_2
        generalize (w.alloc (.cells #[.bool (x).neg, .slice a_x n_x c_x, .slice b_x m_x d_x] 24)) = w1 at *
        have c := qlong_any w1 (neg := (x).neg) h_xn_1 h_xd_1
        rw [show (⟨(x).neg, (x).num, (x).den⟩ : QV) = x from rfl] at c
        rw [LT_x.out] at c
        refine c.mono ?_
        rintro e w2 ⟨rfl, hb⟩
        clear c
        have B2 := B1.trans (hb.mono B1.size)
        have h_xn_2 := h_xn_1.below hb
        have h_xd_2 := h_xd_1.below hb
        have h_x_2 := h_x_1.later hb
        clear hb B1 h_xn_1 h_xd_1 h_x_1
        have k_x_0 := h_x_2.cell 0 _ rfl
        have k_x_1 := h_x_2.cell 1 _ rfl
        have k_x_2 := h_x_2.cell 2 _ rfl
        go_wp2_with fail
        clear k_x_0 k_x_1 k_x_2
        have c := ratText_any w2 (g := (x).neg) h_xn_2 h_xd_2
        rw [show (⟨(x).neg, (x).num, (x).den⟩ : QV) = x from rfl] at c
        rw [TX.out] at c
        refine c.mono ?_
        rintro e w3 ⟨rfl, hb⟩
        clear c
        have B3 := B2.trans (hb.mono B2.size)
        have h_xn_3 := h_xn_2.below hb
        have h_xd_3 := h_xd_2.below hb
        have h_x_3 := h_x_2.later hb
        clear hb B2 h_xn_2 h_xd_2 h_x_2
        have k_x_0 := h_x_3.cell 0 _ rfl
        have k_x_1 := h_x_3.cell 1 _ rfl
        have k_x_2 := h_x_3.cell 2 _ rfl
        go_wp2_with fail
        clear k_x_0 k_x_1 k_x_2
        have c := refRatText_any w3 (g := (x).neg) h_xn_3 h_xd_3
        rw [show (⟨(x).neg, (x).num, (x).den⟩ : QV) = x from rfl] at c
        rw [TX.out] at c
        refine c.mono ?_
        rintro e w4 ⟨rfl, hb⟩
        clear c
        have B4 := B3.trans (hb.mono B3.size)
        have h_xn_4 := h_xn_3.below hb
        have h_xd_4 := h_xd_3.below hb
        have h_x_4 := h_x_3.later hb
        clear hb B3 h_xn_3 h_xd_3 h_x_3
        go_wp2_with fail
        have c := ratRead_any w4 ss SB.out SL.out
        rw [RV.out] at c
        refine c.mono ?_
        rintro e w5 ⟨a_e, n_e, c_e, b_e, m_e, d_e, rfl, h_en_5, h_ed_5, hb⟩
        clear c
        have B5 := B4.trans (hb.mono B4.size)
        have h_xn_5 := h_xn_4.below hb
        have h_xd_5 := h_xd_4.below hb
        have h_x_5 := h_x_4.later hb
        clear hb B4 h_xn_4 h_xd_4 h_x_4
        have hb := below_al w5 (.cells #[.bool ((r.1)).neg, .slice a_e n_e c_e, .slice b_e m_e d_e] 24)
        have B6 := B5.trans (hb.mono B5.size)
        have h_xn_6 := h_xn_5.below hb
        have h_xd_6 := h_xd_5.below hb
        have h_x_6 := h_x_5.later hb
        have h_en_6 := h_en_5.below hb
        have h_ed_6 := h_ed_5.below hb
        clear hb B5 h_xn_5 h_xd_5 h_x_5 h_en_5 h_ed_5
        have h_e_6 := Has.new w5 #[.bool ((r.1)).neg, .slice a_e n_e c_e, .slice b_e m_e d_e] 24
        go_wp2_with first | refine wpList_store_new rfl 24 _ _ rfl atRat _ _ _ rfl rfl rfl rfl (rat_one _ _ _ _ _ _ _) ?_
        generalize (w5.alloc (.cells #[.bool ((r.1)).neg, .slice a_e n_e c_e, .slice b_e m_e d_e] 24)) = w6 at *
        have c := refRatRead_any w6 ss SB.out SL.out
        rw [RV.out] at c
        refine c.mono ?_
        rintro e w7 ⟨a_f, n_f, c_f, b_f, m_f, d_f, rfl, h_fn_7, h_fd_7, hb⟩
        clear c
        have B7 := B6.trans (hb.mono B6.size)
        have h_xn_7 := h_xn_6.below hb
        have h_xd_7 := h_xd_6.below hb
        have h_x_7 := h_x_6.later hb
        have h_en_7 := h_en_6.below hb
        have h_ed_7 := h_ed_6.below hb
        have h_e_7 := h_e_6.later hb
        clear hb B6 h_xn_6 h_xd_6 h_x_6 h_en_6 h_ed_6 h_e_6
        have hb := below_al w7 (.cells #[.bool ((r.1)).neg, .slice a_f n_f c_f, .slice b_f m_f d_f] 24)
        have B8 := B7.trans (hb.mono B7.size)
        have h_xn_8 := h_xn_7.below hb
        have h_xd_8 := h_xd_7.below hb
        have h_x_8 := h_x_7.later hb
        have h_en_8 := h_en_7.below hb
        have h_ed_8 := h_ed_7.below hb
        have h_e_8 := h_e_7.later hb
        have h_fn_8 := h_fn_7.below hb
        have h_fd_8 := h_fd_7.below hb
        clear hb B7 h_xn_7 h_xd_7 h_x_7 h_en_7 h_ed_7 h_e_7 h_fn_7 h_fd_7
        have h_f_8 := Has.new w7 #[.bool ((r.1)).neg, .slice a_f n_f c_f, .slice b_f m_f d_f] 24
        have k_e_0 := h_e_8.cell 0 _ rfl
        have k_e_1 := h_e_8.cell 1 _ rfl
        have k_e_2 := h_e_8.cell 2 _ rfl
        have k_f_0 := h_f_8.cell 0 _ rfl
        have k_f_1 := h_f_8.cell 1 _ rfl
        have k_f_2 := h_f_8.cell 2 _ rfl
        go_wp2_with first | refine wpList_store_new rfl 24 _ _ rfl atRat _ _ _ rfl rfl rfl rfl (rat_one _ _ _ _ _ _ _) ?_
        clear k_e_0 k_e_1 k_e_2 k_f_0 k_f_1 k_f_2
        generalize (w7.alloc (.cells #[.bool ((r.1)).neg, .slice a_f n_f c_f, .slice b_f m_f d_f] 24)) = w8 at *
        have c := refRatSame_any w8 (g1 := ((r.1)).neg) (g2 := ((r.1)).neg) h_en_8 h_ed_8 h_fn_8 h_fd_8
        rw [show (⟨((r.1)).neg, ((r.1)).num, ((r.1)).den⟩ : QV) = (r.1) from rfl] at c
        rw [sameV_self] at c
        refine c.mono ?_
        rintro e w9 ⟨rfl, hb⟩
        clear c
        have B9 := B8.trans (hb.mono B8.size)
        have h_xn_9 := h_xn_8.below hb
        have h_xd_9 := h_xd_8.below hb
        have h_x_9 := h_x_8.later hb
        have h_en_9 := h_en_8.below hb
        have h_ed_9 := h_ed_8.below hb
        have h_e_9 := h_e_8.later hb
        have h_fn_9 := h_fn_8.below hb
        have h_fd_9 := h_fd_8.below hb
        have h_f_9 := h_f_8.later hb
        clear hb B8 h_xn_8 h_xd_8 h_x_8 h_en_8 h_ed_8 h_e_8 h_fn_8 h_fd_8 h_f_8
        go_wp2_with fail
        have c := wakes_any w9
        refine c.mono ?_
        rintro e w10 ⟨rfl, hb⟩
        clear c
        have B10 := B9.trans (hb.mono B9.size)
        have h_xn_10 := h_xn_9.below hb
        have h_xd_10 := h_xd_9.below hb
        have h_x_10 := h_x_9.later hb
        have h_en_10 := h_en_9.below hb
        have h_ed_10 := h_ed_9.below hb
        have h_e_10 := h_e_9.later hb
        have h_fn_10 := h_fn_9.below hb
        have h_fd_10 := h_fd_9.below hb
        have h_f_10 := h_f_9.later hb
        clear hb B9 h_xn_9 h_xd_9 h_x_9 h_en_9 h_ed_9 h_e_9 h_fn_9 h_fd_9 h_f_9
        go_wp2_with fail
        go_ret
        exact ⟨rfl, B10⟩

end Go.Proofs.YtdaajeklnhbhjaaGreatDoor
