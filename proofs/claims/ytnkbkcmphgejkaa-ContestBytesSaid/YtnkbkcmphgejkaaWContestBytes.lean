/- The walk of the law ContestBytes: it returns true and turns nothing that was there. No condition. Printed by gen_conlaws.py. -/
import Derived.Test.YtnkbkcmphgejkaaConT
import Derived.BigQuiet
namespace Go.Proofs.Ytnkbkcmphgejkaa
open Go.RowKit Go.Suf
set_option linter.unusedVariables false
set_option linter.unusedSimpArgs false

set_option maxRecDepth 100000 in
set_option maxHeartbeats 8000000 in
theorem contestBytes_walk (w : World) (nm_c : ByteArray) (nl_c : nm_c.size ≤ maxLen) {a_c : Option Addr} {n_c c_c : Nat} {ss_c : List ByteArray} (h_cs : RdS w a_c n_c c_c ss_c) (le_c : ∀ s ∈ ss_c, s.size ≤ maxLen) (se_c : Int) (ba_c : -9223372036854775808 ≤ se_c) (bb_c : se_c ≤ 9223372036854775807) (ru_c : Nat) (rb_c : ru_c < 256) {a_b : Option Addr} {n_b c_b : Nat} {xs_b : List Nat} (h_b : Rd .u8 w a_b n_b c_b xs_b) :
    Calls Try.prog 7 #[.agg #[.string nm_c, .slice a_c n_c c_c, .int .i64 se_c, .int .u8 ((ru_c : Nat) : Int)], .slice a_b n_b c_b] w fun e w' => e = .returned (.bool true) ∧ Below w.heap.size w w' := by
  obtain ⟨K, ke, hK⟩ : ∃ K ke, readC xs_b = (K, ke) := ⟨_, _, rfl⟩
  have HK := Lib.hid hK
  clear hK
  have hrs := rule_lt h_b.bd
  rw [HK.out] at hrs
  have HR := Lib.hid hrs
  clear hrs
  have HL := Lib.hid h_b.len
  have hlt := h_b.lt
  have B0 : Below w.heap.size w w := Below.refl _ _
  have h_cs_0 := h_cs
  have h_b_0 := h_b
  go_enter Try.func7, Try.ntmps7
  have hb := below_al w (.cells #[.string nm_c, .slice a_c n_c c_c, .int .i64 se_c, .int .u8 ((ru_c : Nat) : Int)] 40)
  have B1 := B0.trans (hb.mono B0.size)
  have h_cs_1 := h_cs_0.below hb
  have h_b_1 := h_b_0.below hb
  clear hb B0 h_cs_0 h_b_0
  have h_c_1 := Has.new w #[.string nm_c, .slice a_c n_c c_c, .int .i64 se_c, .int .u8 ((ru_c : Nat) : Int)] 40
  have k_c_0 := h_c_1.cell 0 _ rfl
  have k_c_1 := h_c_1.cell 1 _ rfl
  have k_c_2 := h_c_1.cell 2 _ rfl
  have k_c_3 := h_c_1.cell 3 _ rfl
  go_wp2_with fail
  clear k_c_0 k_c_1 k_c_2 k_c_3
  generalize (w.alloc (.cells #[.string nm_c, .slice a_c n_c c_c, .int .i64 se_c, .int .u8 ((ru_c : Nat) : Int)] 40)) = w1 at *
  have c := Great_any w1 nm_c h_cs_1 se_c ru_c rb_c
  refine c.mono ?_
  rintro e w2 ⟨rfl, hb⟩
  clear c
  have B2 := B1.trans (hb.mono B1.size)
  have h_cs_2 := h_cs_1.below hb
  have h_b_2 := h_b_1.below hb
  have h_c_2 := h_c_1.later hb
  clear hb B1 h_cs_1 h_b_1 h_c_1
  have LG_c := Lib.hid (great_le (nm := nm_c) (ss := ss_c))
  generalize greatC nm_c ss_c = gr_c at *
  cases gr_c with
  | true =>
    go_wp2_with fail
    go_ret
    exact ⟨rfl, B2⟩
  | false =>
    by_cases hbig : 20000 < n_b
    case pos =>
      go_wp2_with fail
      go_ret
      exact ⟨rfl, B2⟩
    have hbi : decide ((n_b : Int) > 20000) = false := decide_eq_false (by omega)
    have hmk := World.ownsRow_made (e := 5) (size := 1) (base := w2.heap.size) w2 #[] 0 (Nat.le_refl _) (by decide) rfl
    have hbl := below_al w2 (.cells #[] 5)
    go_wp2_with (at_builtin; refine wpList_app rfl _ _ 52 rfl etB w2.heap.size rfl hmk rfl (by simpa using h_b_2.len) (h_b_2.below hbl).sl (by unfold maxLen; omega) (by omega) (by simp) ?_; intro a_o c_o wo hown hg hbo; refine Hid.out ?_)
    simp only [Nat.zero_add, List.nil_append] at hown ⊢
    have h_o_3 : Ow .u8 5 w2.heap.size wo a_o n_b c_o xs_b := ⟨h_b_2.len, hown, h_b_2.bd⟩
    have hb := hbl.trans hbo
    clear hown hg hbo hbl hmk
    have B3 := B2.trans (hb.mono B2.size)
    have h_cs_3 := h_cs_2.below hb
    have h_b_3 := h_b_2.below hb
    have h_c_3 := h_c_2.later hb
    clear hb B2 h_cs_2 h_b_2 h_c_2
    refine Lib.hid ?_
    have k_c_0 := h_c_3.cell 0 _ rfl
    have k_c_1 := h_c_3.cell 1 _ rfl
    have k_c_2 := h_c_3.cell 2 _ rfl
    have k_c_3 := h_c_3.cell 3 _ rfl
    go_wp2_with fail
    clear k_c_0 k_c_1 k_c_2 k_c_3
    have c := Bytes_any wo nm_c h_cs_3 se_c ba_c bb_c ru_c rb_c
    refine c.mono ?_
    rintro e w4 ⟨a_x, n_x, c_x, rfl, h_x_4, hb⟩
    clear c
    have B4 := B3.trans (hb.mono B3.size)
    have h_cs_4 := h_cs_3.below hb
    have h_b_4 := h_b_3.below hb
    have h_c_4 := h_c_3.later hb
    have h_o_4 := h_o_3.below hb
    clear hb B3 h_cs_3 h_b_3 h_c_3 h_o_3
    have k_c_0 := h_c_4.cell 0 _ rfl
    have k_c_1 := h_c_4.cell 1 _ rfl
    have k_c_2 := h_c_4.cell 2 _ rfl
    have k_c_3 := h_c_4.cell 3 _ rfl
    go_wp2_with fail
    clear k_c_0 k_c_1 k_c_2 k_c_3
    have c := refBytes_any w4 nm_c h_cs_4 se_c ba_c bb_c ru_c rb_c
    refine c.mono ?_
    rintro e w5 ⟨a_y, n_y, c_y, rfl, h_y_5, hb⟩
    clear c
    have B5 := B4.trans (hb.mono B4.size)
    have h_cs_5 := h_cs_4.below hb
    have h_b_5 := h_b_4.below hb
    have h_c_5 := h_c_4.later hb
    have h_o_5 := h_o_4.below hb
    have h_x_5 := h_x_4.below hb
    clear hb B4 h_cs_4 h_b_4 h_c_4 h_o_4 h_x_4
    generalize bytesC nm_c ss_c se_c ru_c = bc at *
    go_wp2_with fail
    have c := Read_any w5 h_o_5.rd (by omega)
    rw [HK.out] at c
    refine c.mono ?_
    rintro e w6 ⟨a_p, n_p, c_p, rfl, h_ps_6, hb⟩
    clear c
    have B6 := B5.trans (hb.mono B5.size)
    have h_cs_6 := h_cs_5.below hb
    have h_b_6 := h_b_5.below hb
    have h_c_6 := h_c_5.later hb
    have h_o_6 := h_o_5.below hb
    have h_x_6 := h_x_5.below hb
    have h_y_6 := h_y_5.below hb
    clear hb B5 h_cs_5 h_b_5 h_c_5 h_o_5 h_x_5 h_y_5
    have hb := below_al w6 (.cells #[.string (K).nm, .slice a_p n_p c_p, .int .i64 (((K).seats : Nat) : Int), .int .u8 (((K).rule : Nat) : Int)] 40)
    have B7 := B6.trans (hb.mono B6.size)
    have h_cs_7 := h_cs_6.below hb
    have h_b_7 := h_b_6.below hb
    have h_c_7 := h_c_6.later hb
    have h_o_7 := h_o_6.below hb
    have h_x_7 := h_x_6.below hb
    have h_y_7 := h_y_6.below hb
    have h_ps_7 := h_ps_6.below hb
    clear hb B6 h_cs_6 h_b_6 h_c_6 h_o_6 h_x_6 h_y_6 h_ps_6
    have h_p_7 := Has.new w6 #[.string (K).nm, .slice a_p n_p c_p, .int .i64 (((K).seats : Nat) : Int), .int .u8 (((K).rule : Nat) : Int)] 40
    go_wp2_with first | refine wpList_store_new rfl 40 _ _ rfl atCon _ _ _ rfl rfl rfl rfl (con_one _ _ _ _ _ _) ?_
    generalize (w6.alloc (.cells #[.string (K).nm, .slice a_p n_p c_p, .int .i64 (((K).seats : Nat) : Int), .int .u8 (((K).rule : Nat) : Int)] 40)) = w7 at *
    have c := refRead_any w7 h_b_7 (by omega)
    rw [HK.out] at c
    refine c.mono ?_
    rintro e w8 ⟨a_q, n_q, c_q, rfl, h_qs_8, hb⟩
    clear c
    have B8 := B7.trans (hb.mono B7.size)
    have h_cs_8 := h_cs_7.below hb
    have h_b_8 := h_b_7.below hb
    have h_c_8 := h_c_7.later hb
    have h_o_8 := h_o_7.below hb
    have h_x_8 := h_x_7.below hb
    have h_y_8 := h_y_7.below hb
    have h_ps_8 := h_ps_7.below hb
    have h_p_8 := h_p_7.later hb
    clear hb B7 h_cs_7 h_b_7 h_c_7 h_o_7 h_x_7 h_y_7 h_ps_7 h_p_7
    have hb := below_al w8 (.cells #[.string (K).nm, .slice a_q n_q c_q, .int .i64 (((K).seats : Nat) : Int), .int .u8 (((K).rule : Nat) : Int)] 40)
    have B9 := B8.trans (hb.mono B8.size)
    have h_cs_9 := h_cs_8.below hb
    have h_b_9 := h_b_8.below hb
    have h_c_9 := h_c_8.later hb
    have h_o_9 := h_o_8.below hb
    have h_x_9 := h_x_8.below hb
    have h_y_9 := h_y_8.below hb
    have h_ps_9 := h_ps_8.below hb
    have h_p_9 := h_p_8.later hb
    have h_qs_9 := h_qs_8.below hb
    clear hb B8 h_cs_8 h_b_8 h_c_8 h_o_8 h_x_8 h_y_8 h_ps_8 h_p_8 h_qs_8
    have h_q_9 := Has.new w8 #[.string (K).nm, .slice a_q n_q c_q, .int .i64 (((K).seats : Nat) : Int), .int .u8 (((K).rule : Nat) : Int)] 40
    have k_p_0 := h_p_9.cell 0 _ rfl
    have k_p_1 := h_p_9.cell 1 _ rfl
    have k_p_2 := h_p_9.cell 2 _ rfl
    have k_p_3 := h_p_9.cell 3 _ rfl
    have k_q_0 := h_q_9.cell 0 _ rfl
    have k_q_1 := h_q_9.cell 1 _ rfl
    have k_q_2 := h_q_9.cell 2 _ rfl
    have k_q_3 := h_q_9.cell 3 _ rfl
    have cv_x := convB h_x_9.rd
    have cv_y := convB h_y_9.rd
    have cv_o := convB h_o_9.rd
    have cv_b := convB h_b_9
    go_wp2_with first | refine wpList_store_new rfl 40 _ _ rfl atCon _ _ _ rfl rfl rfl rfl (con_one _ _ _ _ _ _) ?_
    clear k_p_0 k_p_1 k_p_2 k_p_3 k_q_0 k_q_1 k_q_2 k_q_3
    generalize (w8.alloc (.cells #[.string (K).nm, .slice a_q n_q c_q, .int .i64 (((K).seats : Nat) : Int), .int .u8 (((K).rule : Nat) : Int)] 40)) = w9 at *
    clear cv_x cv_y cv_o cv_b
    have c := refSame_any w9 K.nm K.nm h_ps_9 h_qs_9 K.seats K.seats K.rule K.rule
    rw [same_self] at c
    refine c.mono ?_
    rintro e w10 ⟨rfl, hb⟩
    clear c
    have B10 := B9.trans (hb.mono B9.size)
    have h_cs_10 := h_cs_9.below hb
    have h_b_10 := h_b_9.below hb
    have h_c_10 := h_c_9.later hb
    have h_o_10 := h_o_9.below hb
    have h_x_10 := h_x_9.below hb
    have h_y_10 := h_y_9.below hb
    have h_ps_10 := h_ps_9.below hb
    have h_p_10 := h_p_9.later hb
    have h_qs_10 := h_qs_9.below hb
    have h_q_10 := h_q_9.later hb
    clear hb B9 h_cs_9 h_b_9 h_c_9 h_o_9 h_x_9 h_y_9 h_ps_9 h_p_9 h_qs_9 h_q_9
    have cv_x := convB h_x_10.rd
    have cv_y := convB h_y_10.rd
    have cv_o := convB h_o_10.rd
    have cv_b := convB h_b_10
    go_wp2_with fail
    go_ret
    exact ⟨rfl, B10⟩

end Go.Proofs.Ytnkbkcmphgejkaa
