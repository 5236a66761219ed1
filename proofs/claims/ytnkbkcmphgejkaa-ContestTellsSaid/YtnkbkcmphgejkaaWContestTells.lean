/- The walk of the law ContestTells: it returns true and turns nothing that was there. No condition. Printed by gen_conlaws.py. -/
import Derived.Test.YtnkbkcmphgejkaaConT
import Derived.BigQuiet
namespace Go.Proofs.Ytnkbkcmphgejkaa
open Go.RowKit Go.Suf
set_option linter.unusedVariables false
set_option linter.unusedSimpArgs false

set_option maxRecDepth 100000 in
set_option maxHeartbeats 8000000 in
theorem contestTells_walk (w : World) (nm_c : ByteArray) (nl_c : nm_c.size ≤ maxLen) {a_c : Option Addr} {n_c c_c : Nat} {ss_c : List ByteArray} (h_cs : RdS w a_c n_c c_c ss_c) (le_c : ∀ s ∈ ss_c, s.size ≤ maxLen) (se_c : Int) (ba_c : -9223372036854775808 ≤ se_c) (bb_c : se_c ≤ 9223372036854775807) (ru_c : Nat) (rb_c : ru_c < 256) (nm_o : ByteArray) (nl_o : nm_o.size ≤ maxLen) {a_o : Option Addr} {n_o c_o : Nat} {ss_o : List ByteArray} (h_os : RdS w a_o n_o c_o ss_o) (le_o : ∀ s ∈ ss_o, s.size ≤ maxLen) (se_o : Int) (ba_o : -9223372036854775808 ≤ se_o) (bb_o : se_o ≤ 9223372036854775807) (ru_o : Nat) (rb_o : ru_o < 256) (name : ByteArray) (nl : name.size ≤ maxLen) :
    Calls Try.prog 4 #[.agg #[.string nm_c, .slice a_c n_c c_c, .int .i64 se_c, .int .u8 ((ru_c : Nat) : Int)], .agg #[.string nm_o, .slice a_o n_o c_o, .int .i64 se_o, .int .u8 ((ru_o : Nat) : Int)], .string name] w fun e w' => e = .returned (.bool true) ∧ Below w.heap.size w w' := by
  have HN := Lib.hid h_cs.len
  have B0 : Below w.heap.size w w := Below.refl _ _
  have h_cs_0 := h_cs
  have h_os_0 := h_os
  go_enter Try.func4, Try.ntmps4
  have hb := below_al w (.cells #[.string nm_c, .slice a_c n_c c_c, .int .i64 se_c, .int .u8 ((ru_c : Nat) : Int)] 40)
  have B1 := B0.trans (hb.mono B0.size)
  have h_cs_1 := h_cs_0.below hb
  have h_os_1 := h_os_0.below hb
  clear hb B0 h_cs_0 h_os_0
  have h_c_1 := Has.new w #[.string nm_c, .slice a_c n_c c_c, .int .i64 se_c, .int .u8 ((ru_c : Nat) : Int)] 40
  have hb := below_al (w.alloc (.cells #[.string nm_c, .slice a_c n_c c_c, .int .i64 se_c, .int .u8 ((ru_c : Nat) : Int)] 40)) (.cells #[.string nm_o, .slice a_o n_o c_o, .int .i64 se_o, .int .u8 ((ru_o : Nat) : Int)] 40)
  have B2 := B1.trans (hb.mono B1.size)
  have h_cs_2 := h_cs_1.below hb
  have h_os_2 := h_os_1.below hb
  have h_c_2 := h_c_1.later hb
  clear hb B1 h_cs_1 h_os_1 h_c_1
  have h_o_2 := Has.new (w.alloc (.cells #[.string nm_c, .slice a_c n_c c_c, .int .i64 se_c, .int .u8 ((ru_c : Nat) : Int)] 40)) #[.string nm_o, .slice a_o n_o c_o, .int .i64 se_o, .int .u8 ((ru_o : Nat) : Int)] 40
  simp only [World.size_alloc] at h_o_2
  have k_c_0 := h_c_2.cell 0 _ rfl
  have k_c_1 := h_c_2.cell 1 _ rfl
  have k_c_2 := h_c_2.cell 2 _ rfl
  have k_c_3 := h_c_2.cell 3 _ rfl
  go_wp2_with fail
  clear k_c_0 k_c_1 k_c_2 k_c_3
  generalize ((w.alloc (.cells #[.string nm_c, .slice a_c n_c c_c, .int .i64 se_c, .int .u8 ((ru_c : Nat) : Int)] 40)).alloc (.cells #[.string nm_o, .slice a_o n_o c_o, .int .i64 se_o, .int .u8 ((ru_o : Nat) : Int)] 40)) = w2 at *
  obtain ⟨gr_c, hgr⟩ : ∃ gr, greatC nm_c ss_c = gr := ⟨_, rfl⟩
  have G_c := Lib.hid hgr
  clear hgr
  have c := Great_any w2 nm_c h_cs_2 se_c ru_c rb_c
  rw [G_c.out] at c
  refine c.mono ?_
  rintro e w3 ⟨rfl, hb⟩
  clear c
  have B3 := B2.trans (hb.mono B2.size)
  have h_cs_3 := h_cs_2.below hb
  have h_os_3 := h_os_2.below hb
  have h_c_3 := h_c_2.later hb
  have h_o_3 := h_o_2.later hb
  clear hb B2 h_cs_2 h_os_2 h_c_2 h_o_2
  cases gr_c with
  | true =>
    go_wp2_with fail
    go_ret
    exact ⟨rfl, B3⟩
  | false =>
    have k_o_0 := h_o_3.cell 0 _ rfl
    have k_o_1 := h_o_3.cell 1 _ rfl
    have k_o_2 := h_o_3.cell 2 _ rfl
    have k_o_3 := h_o_3.cell 3 _ rfl
    go_wp2_with fail
    clear k_o_0 k_o_1 k_o_2 k_o_3
    obtain ⟨gr_o, hgr⟩ : ∃ gr, greatC nm_o ss_o = gr := ⟨_, rfl⟩
    have G_o := Lib.hid hgr
    clear hgr
    have c := Great_any w3 nm_o h_os_3 se_o ru_o rb_o
    rw [G_o.out] at c
    refine c.mono ?_
    rintro e w4 ⟨rfl, hb⟩
    clear c
    have B4 := B3.trans (hb.mono B3.size)
    have h_cs_4 := h_cs_3.below hb
    have h_os_4 := h_os_3.below hb
    have h_c_4 := h_c_3.later hb
    have h_o_4 := h_o_3.later hb
    clear hb B3 h_cs_3 h_os_3 h_c_3 h_o_3
    cases gr_o with
    | true =>
      go_wp2_with fail
      go_ret
      exact ⟨rfl, B4⟩
    | false =>
      by_cases hbig : 1000 < name.size
      case pos =>
        go_wp2_with fail
        go_ret
        exact ⟨rfl, B4⟩
      have hbi : decide ((name.size : Int) > 1000) = false := decide_eq_false (by omega)
      have hn : n_c ≤ 1099511627776 := by have := great_le G_c.out; have := HN.out; omega
      have k_c_0 := h_c_4.cell 0 _ rfl
      have k_c_1 := h_c_4.cell 1 _ rfl
      have k_c_2 := h_c_4.cell 2 _ rfl
      have k_c_3 := h_c_4.cell 3 _ rfl
      go_wp2_with fail
      clear k_c_0 k_c_1 k_c_2 k_c_3
      have c := refTwin_any w4 nm_c h_cs_4 hn se_c ru_c
      refine c.mono ?_
      rintro e w5 ⟨a_v, c_v, rfl, h_vs_5, hb⟩
      clear c
      have B5 := B4.trans (hb.mono B4.size)
      have h_cs_5 := h_cs_4.below hb
      have h_os_5 := h_os_4.below hb
      have h_c_5 := h_c_4.later hb
      have h_o_5 := h_o_4.later hb
      clear hb B4 h_cs_4 h_os_4 h_c_4 h_o_4
      have hb := below_al w5 (.cells #[.string nm_c, .slice a_v n_c c_v, .int .i64 se_c, .int .u8 ((ru_c : Nat) : Int)] 40)
      have B6 := B5.trans (hb.mono B5.size)
      have h_cs_6 := h_cs_5.below hb
      have h_os_6 := h_os_5.below hb
      have h_c_6 := h_c_5.later hb
      have h_o_6 := h_o_5.later hb
      have h_vs_6 := h_vs_5.below hb
      clear hb B5 h_cs_5 h_os_5 h_c_5 h_o_5 h_vs_5
      have h_v_6 := Has.new w5 #[.string nm_c, .slice a_v n_c c_v, .int .i64 se_c, .int .u8 ((ru_c : Nat) : Int)] 40
      have h_vp_6 := PRow.new 40 w5 #[.string nm_c, .slice a_v n_c c_v, .int .i64 se_c, .int .u8 ((ru_c : Nat) : Int)]
      have k_v_0 := h_v_6.cell 0 _ rfl
      have k_v_1 := h_v_6.cell 1 _ rfl
      have k_v_2 := h_v_6.cell 2 _ rfl
      have k_v_3 := h_v_6.cell 3 _ rfl
      go_wp2_with first | refine wpList_store_new rfl 40 _ _ rfl atCon _ _ _ rfl rfl rfl rfl (con_one _ _ _ _ _ _) ?_
      clear k_v_0 k_v_1 k_v_2 k_v_3
      generalize (w5.alloc (.cells #[.string nm_c, .slice a_v n_c c_v, .int .i64 se_c, .int .u8 ((ru_c : Nat) : Int)] 40)) = w6 at *
      have c := Place_any w6 nm_c h_vs_6.rd se_c ba_c bb_c ru_c rb_c name
      refine c.mono ?_
      rintro e w7 ⟨rfl, hb⟩
      clear c
      have B7 := B6.trans (hb.mono B6.size)
      have h_cs_7 := h_cs_6.below hb
      have h_os_7 := h_os_6.below hb
      have h_c_7 := h_c_6.later hb
      have h_o_7 := h_o_6.later hb
      have h_vs_7 := h_vs_6.below hb
      have h_v_7 := h_v_6.later hb
      have h_vp_7 := h_vp_6.later hb
      clear hb B6 h_cs_6 h_os_6 h_c_6 h_o_6 h_vs_6 h_v_6 h_vp_6
      have k_c_0 := h_c_7.cell 0 _ rfl
      have k_c_1 := h_c_7.cell 1 _ rfl
      have k_c_2 := h_c_7.cell 2 _ rfl
      have k_c_3 := h_c_7.cell 3 _ rfl
      go_wp2_with fail
      clear k_c_0 k_c_1 k_c_2 k_c_3
      have c := refPlace_any w7 nm_c h_cs_7 se_c ba_c bb_c ru_c rb_c name
      refine c.mono ?_
      rintro e w8 ⟨rfl, hb⟩
      clear c
      have B8 := B7.trans (hb.mono B7.size)
      have h_cs_8 := h_cs_7.below hb
      have h_os_8 := h_os_7.below hb
      have h_c_8 := h_c_7.later hb
      have h_o_8 := h_o_7.later hb
      have h_vs_8 := h_vs_7.below hb
      have h_v_8 := h_v_7.later hb
      have h_vp_8 := h_vp_7.later hb
      clear hb B7 h_cs_7 h_os_7 h_c_7 h_o_7 h_vs_7 h_v_7 h_vp_7
      generalize placeC nm_c ss_c se_c ru_c name = pl at *
      have k_v_0 := h_v_8.cell 0 _ rfl
      have k_v_1 := h_v_8.cell 1 _ rfl
      have k_v_2 := h_v_8.cell 2 _ rfl
      have k_v_3 := h_v_8.cell 3 _ rfl
      go_wp2_with fail
      clear k_v_0 k_v_1 k_v_2 k_v_3
      have h_T_8 := Below.refl w8.heap.size w8
      have SB := Lib.hid B8
      have S_cs := Lib.hid h_cs_8
      have S_vs := Lib.hid h_vs_8
      have S_c := Lib.hid h_c_8
      have S_v := Lib.hid h_v_8
      have c := Twin_any w8 nm_c h_vs_8.rd hn se_c ru_c
      refine c.mono ?_
      rintro e w9 ⟨a_t, c_t, rfl, h_ts_9, hb⟩
      clear c
      have B9 := B8.trans (hb.mono B8.size)
      have h_cs_9 := h_cs_8.below hb
      have h_os_9 := h_os_8.below hb
      have h_c_9 := h_c_8.later hb
      have h_o_9 := h_o_8.later hb
      have h_vs_9 := h_vs_8.below hb
      have h_v_9 := h_v_8.later hb
      have h_vp_9 := h_vp_8.later hb
      have h_T_9 := h_T_8.trans (hb.mono h_T_8.size)
      clear hb B8 h_cs_8 h_os_8 h_c_8 h_o_8 h_vs_8 h_v_8 h_vp_8 h_T_8
      have BTK := Lib.hid h_T_9.size
      have hb := below_al w9 (.cells #[.string nm_c, .slice a_t n_c c_t, .int .i64 se_c, .int .u8 ((ru_c : Nat) : Int)] 40)
      have B10 := B9.trans (hb.mono B9.size)
      have h_cs_10 := h_cs_9.below hb
      have h_os_10 := h_os_9.below hb
      have h_c_10 := h_c_9.later hb
      have h_o_10 := h_o_9.later hb
      have h_vs_10 := h_vs_9.below hb
      have h_v_10 := h_v_9.later hb
      have h_vp_10 := h_vp_9.later hb
      have h_T_10 := h_T_9.trans (hb.mono h_T_9.size)
      have h_ts_10 := h_ts_9.below hb
      clear hb B9 h_cs_9 h_os_9 h_c_9 h_o_9 h_vs_9 h_v_9 h_vp_9 h_T_9 h_ts_9
      have h_t_10 := Has.new w9 #[.string nm_c, .slice a_t n_c c_t, .int .i64 se_c, .int .u8 ((ru_c : Nat) : Int)] 40
      have h_tp_10 := PRow.new 40 w9 #[.string nm_c, .slice a_t n_c c_t, .int .i64 se_c, .int .u8 ((ru_c : Nat) : Int)]
      obtain ⟨so, hso⟩ : ∃ so, sameC nm_c ss_c se_c ru_c nm_o ss_o se_o ru_o = so := ⟨_, rfl⟩
      have HSO := Lib.hid hso
      clear hso
      go_wp2_with first | refine wpList_store_new rfl 40 _ _ rfl atCon _ _ _ rfl rfl rfl rfl (con_one _ _ _ _ _ _) ?_
      generalize (w9.alloc (.cells #[.string nm_c, .slice a_t n_c c_t, .int .i64 se_c, .int .u8 ((ru_c : Nat) : Int)] 40)) = w10 at *
      generalize hck : checkC nm_c ss_c se_c ru_c = ck at *
      have HCK := Lib.hid hck
      clear hck
      have hb := (Below.refl w10.heap.size w10).drew
      have B11 := B10.trans (hb.mono B10.size)
      have h_cs_11 := h_cs_10.below hb
      have h_os_11 := h_os_10.below hb
      have h_c_11 := h_c_10.later hb
      have h_o_11 := h_o_10.later hb
      have h_vs_11 := h_vs_10.below hb
      have h_v_11 := h_v_10.later hb
      have h_vp_11 := h_vp_10.later hb
      have h_T_11 := h_T_10.trans (hb.mono h_T_10.size)
      have h_ts_11 := h_ts_10.below hb
      have h_t_11 := h_t_10.later hb
      have h_tp_11 := h_tp_10.later hb
      clear hb B10 h_cs_10 h_os_10 h_c_10 h_o_10 h_vs_10 h_v_10 h_vp_10 h_T_10 h_ts_10 h_t_10 h_tp_10
      refine wp_region_held_drew (S := (fun w' => w'.cell? ⟨w5.heap.size, 0, none⟩ = some (.string nm_c) ∧ w'.cell? ⟨w5.heap.size, 1, none⟩ = some (.slice a_v n_c c_v) ∧ w'.cell? ⟨w5.heap.size, 2, none⟩ = some (.int .i64 se_c) ∧ w'.cell? ⟨w5.heap.size, 3, none⟩ = some (.int .u8 ((ru_c : Nat) : Int)) ∧ w'.cell? ⟨w.heap.size, 0, none⟩ = some (.string nm_c) ∧ w'.cell? ⟨w.heap.size, 1, none⟩ = some (.slice a_c n_c c_c) ∧ w'.cell? ⟨w.heap.size, 2, none⟩ = some (.int .i64 se_c) ∧ w'.cell? ⟨w.heap.size, 3, none⟩ = some (.int .u8 ((ru_c : Nat) : Int)) ∧ w'.cell? ⟨w.heap.size + 1, 0, none⟩ = some (.string nm_o) ∧ w'.cell? ⟨w.heap.size + 1, 1, none⟩ = some (.slice a_o n_o c_o) ∧ w'.cell? ⟨w.heap.size + 1, 2, none⟩ = some (.int .i64 se_o) ∧ w'.cell? ⟨w.heap.size + 1, 3, none⟩ = some (.int .u8 ((ru_o : Nat) : Int)) ∧ w'.cell? ⟨w9.heap.size, 0, none⟩ = some (.string nm_c) ∧ w'.cell? ⟨w9.heap.size, 1, none⟩ = some (.slice a_t n_c c_t) ∧ w'.cell? ⟨w9.heap.size, 2, none⟩ = some (.int .i64 se_c) ∧ w'.cell? ⟨w9.heap.size, 3, none⟩ = some (.int .u8 ((ru_c : Nat) : Int)) ∧ True)) (by kernel_rfl) ?_ (fun hHeld => ?_)
      · exact ⟨h_v_11.cell 0 _ rfl, h_v_11.cell 1 _ rfl, h_v_11.cell 2 _ rfl, h_v_11.cell 3 _ rfl, h_c_11.cell 0 _ rfl, h_c_11.cell 1 _ rfl, h_c_11.cell 2 _ rfl, h_c_11.cell 3 _ rfl, h_o_11.cell 0 _ rfl, h_o_11.cell 1 _ rfl, h_o_11.cell 2 _ rfl, h_o_11.cell 3 _ rfl, h_t_11.cell 0 _ rfl, h_t_11.cell 1 _ rfl, h_t_11.cell 2 _ rfl, h_t_11.cell 3 _ rfl, trivial⟩
      generalize w10.drew = w11 at *
      refine wpAnyH_take (i := 0) (oi := ?oir1_0) (v := ?vr1_0) ?hir1_0 (by kernel_rfl) (by kernel_rfl) (by kernel_rfl) ?hqr1_0 ?hyr1_0 (by assumption) ?restr1_0
      case hir1_0 => simp only [List.getElem?_toArray, List.getElem?_cons_succ, List.getElem?_cons_zero]; rfl
      case hqr1_0 => exact fun _ _ _ h => h
      case hyr1_0 => (refine Or.inl ⟨by rfl, ?_⟩; intro w hSw; (try dsimp only at hSw); go_simp; all_goals with_reducible rfl)
      try simp only [Act.put, List.setIfInBounds_toArray, List.set_cons_zero, List.set_cons_succ]
      refine wpAnyH_take (i := 2) (oi := ?oir1_2) (v := ?vr1_2) ?hir1_2 (by kernel_rfl) (by kernel_rfl) (by kernel_rfl) ?hqr1_2 ?hyr1_2 (by assumption) ?restr1_2
      case hir1_2 => simp only [List.getElem?_toArray, List.getElem?_cons_succ, List.getElem?_cons_zero]; rfl
      case hqr1_2 => exact fun _ _ _ h => h
      case hyr1_2 => (refine Or.inl ⟨by rfl, ?_⟩; intro w hSw; (try dsimp only at hSw); go_simp; all_goals with_reducible rfl)
      try simp only [Act.put, List.setIfInBounds_toArray, List.set_cons_zero, List.set_cons_succ]
      refine wpAnyH_ready (rs := [1]) (by kernel_rfl) (by simp) ?_
      refine AllReadyH.cons (o := ?or2_1) ?hor2_1 (fun K hK => ?kr2_1) AllReadyH.nil
      case hor2_1 => simp only [List.getElem?_toArray, List.getElem?_cons_succ, List.getElem?_cons_zero]; rfl
      go_simp
      have c := Check_any w11 nm_c h_vs_11.rd se_c ba_c bb_c ru_c rb_c
      rw [HCK.out] at c
      refine c.mono ?_
      rintro e w12 ⟨rfl, hb⟩
      clear c
      have B12 := B11.trans (hb.mono B11.size)
      have h_cs_12 := h_cs_11.below hb
      have h_os_12 := h_os_11.below hb
      have h_c_12 := h_c_11.later hb
      have h_o_12 := h_o_11.later hb
      have h_vs_12 := h_vs_11.below hb
      have h_v_12 := h_v_11.later hb
      have h_vp_12 := h_vp_11.later hb
      have h_T_12 := h_T_11.trans (hb.mono h_T_11.size)
      have h_ts_12 := h_ts_11.below hb
      have h_t_12 := h_t_11.later hb
      have h_tp_12 := h_tp_11.later hb
      clear hb B11 h_cs_11 h_os_11 h_c_11 h_o_11 h_vs_11 h_v_11 h_vp_11 h_T_11 h_ts_11 h_t_11 h_tp_11
      go_wp2_with fail
      clear hHeld
      refine hK.out _ _ ?_ (fun hHeld => ?_)
      · exact ⟨h_v_12.cell 0 _ rfl, h_v_12.cell 1 _ rfl, h_v_12.cell 2 _ rfl, h_v_12.cell 3 _ rfl, h_c_12.cell 0 _ rfl, h_c_12.cell 1 _ rfl, h_c_12.cell 2 _ rfl, h_c_12.cell 3 _ rfl, h_o_12.cell 0 _ rfl, h_o_12.cell 1 _ rfl, h_o_12.cell 2 _ rfl, h_o_12.cell 3 _ rfl, h_t_12.cell 0 _ rfl, h_t_12.cell 1 _ rfl, h_t_12.cell 2 _ rfl, h_t_12.cell 3 _ rfl, trivial⟩
      clear hK K
      try simp only [Act.put, List.setIfInBounds_toArray, List.set_cons_zero, List.set_cons_succ]
      refine wpAnyH_ready (rs := [3]) (by kernel_rfl) (by simp) ?_
      refine AllReadyH.cons (o := ?or3_3) ?hor3_3 (fun K hK => ?kr3_3) AllReadyH.nil
      case hor3_3 => simp only [List.getElem?_toArray, List.getElem?_cons_succ, List.getElem?_cons_zero]; rfl
      go_simp
      have c := refCheck_any w12 nm_c h_cs_12 se_c ba_c bb_c ru_c rb_c
      rw [HCK.out] at c
      refine c.mono ?_
      rintro e w13 ⟨rfl, hb⟩
      clear c
      have B13 := B12.trans (hb.mono B12.size)
      have h_cs_13 := h_cs_12.below hb
      have h_os_13 := h_os_12.below hb
      have h_c_13 := h_c_12.later hb
      have h_o_13 := h_o_12.later hb
      have h_vs_13 := h_vs_12.below hb
      have h_v_13 := h_v_12.later hb
      have h_vp_13 := h_vp_12.later hb
      have h_T_13 := h_T_12.trans (hb.mono h_T_12.size)
      have h_ts_13 := h_ts_12.below hb
      have h_t_13 := h_t_12.later hb
      have h_tp_13 := h_tp_12.later hb
      clear hb B12 h_cs_12 h_os_12 h_c_12 h_o_12 h_vs_12 h_v_12 h_vp_12 h_T_12 h_ts_12 h_t_12 h_tp_12
      go_wp2_with fail
      clear hHeld
      refine hK.out _ _ ?_ (fun hHeld => ?_)
      · exact ⟨h_v_13.cell 0 _ rfl, h_v_13.cell 1 _ rfl, h_v_13.cell 2 _ rfl, h_v_13.cell 3 _ rfl, h_c_13.cell 0 _ rfl, h_c_13.cell 1 _ rfl, h_c_13.cell 2 _ rfl, h_c_13.cell 3 _ rfl, h_o_13.cell 0 _ rfl, h_o_13.cell 1 _ rfl, h_o_13.cell 2 _ rfl, h_o_13.cell 3 _ rfl, h_t_13.cell 0 _ rfl, h_t_13.cell 1 _ rfl, h_t_13.cell 2 _ rfl, h_t_13.cell 3 _ rfl, trivial⟩
      clear hK K
      try simp only [Act.put, List.setIfInBounds_toArray, List.set_cons_zero, List.set_cons_succ]
      refine wpAnyH_take (i := 4) (oi := ?oir4_4) (v := ?vr4_4) ?hir4_4 (by kernel_rfl) (by kernel_rfl) (by kernel_rfl) ?hqr4_4 ?hyr4_4 (by assumption) ?restr4_4
      case hir4_4 => simp only [List.getElem?_toArray, List.getElem?_cons_succ, List.getElem?_cons_zero]; rfl
      case hqr4_4 => exact fun _ _ _ h => h
      case hyr4_4 => (refine Or.inl ⟨by rfl, ?_⟩; intro w hSw; (try dsimp only at hSw); go_simp; all_goals with_reducible rfl)
      try simp only [Act.put, List.setIfInBounds_toArray, List.set_cons_zero, List.set_cons_succ]
      refine wpAnyH_take (i := 5) (oi := ?oir4_5) (v := ?vr4_5) ?hir4_5 (by kernel_rfl) (by kernel_rfl) (by kernel_rfl) ?hqr4_5 ?hyr4_5 (by assumption) ?restr4_5
      case hir4_5 => simp only [List.getElem?_toArray, List.getElem?_cons_succ, List.getElem?_cons_zero]; rfl
      case hqr4_5 => exact fun _ _ _ h => h
      case hyr4_5 => (refine Or.inl ⟨by rfl, ?_⟩; intro w hSw; (try dsimp only at hSw); go_simp; all_goals with_reducible rfl)
      try simp only [Act.put, List.setIfInBounds_toArray, List.set_cons_zero, List.set_cons_succ]
      refine wpAnyH_take (i := 6) (oi := ?oir4_6) (v := ?vr4_6) ?hir4_6 (by kernel_rfl) (by kernel_rfl) (by kernel_rfl) ?hqr4_6 ?hyr4_6 (by assumption) ?restr4_6
      case hir4_6 => simp only [List.getElem?_toArray, List.getElem?_cons_succ, List.getElem?_cons_zero]; rfl
      case hqr4_6 => exact fun _ _ _ h => h
      case hyr4_6 => (refine Or.inl ⟨by rfl, ?_⟩; intro w hSw; (try dsimp only at hSw); go_simp; all_goals with_reducible rfl)
      try simp only [Act.put, List.setIfInBounds_toArray, List.set_cons_zero, List.set_cons_succ]
      refine wpAnyH_take (i := 7) (oi := ?oir4_7) (v := ?vr4_7) ?hir4_7 (by kernel_rfl) (by kernel_rfl) (by kernel_rfl) ?hqr4_7 ?hyr4_7 (by assumption) ?restr4_7
      case hir4_7 => simp only [List.getElem?_toArray, List.getElem?_cons_succ, List.getElem?_cons_zero]; rfl
      case hqr4_7 => exact fun _ _ _ h => h
      case hyr4_7 => (refine Or.inl ⟨by rfl, ?_⟩; intro w hSw; (try dsimp only at hSw); go_simp; all_goals with_reducible rfl)
      try simp only [Act.put, List.setIfInBounds_toArray, List.set_cons_zero, List.set_cons_succ]
      refine wpAnyH_take (i := 8) (oi := ?oir4_8) (v := ?vr4_8) ?hir4_8 (by kernel_rfl) (by kernel_rfl) (by kernel_rfl) ?hqr4_8 ?hyr4_8 (by assumption) ?restr4_8
      case hir4_8 => simp only [List.getElem?_toArray, List.getElem?_cons_succ, List.getElem?_cons_zero]; rfl
      case hqr4_8 => exact fun _ _ _ h => h
      case hyr4_8 => (refine Or.inl ⟨by rfl, ?_⟩; intro w hSw; (try dsimp only at hSw); go_simp; all_goals with_reducible rfl)
      try simp only [Act.put, List.setIfInBounds_toArray, List.set_cons_zero, List.set_cons_succ]
      refine wpAnyH_take (i := 9) (oi := ?oir4_9) (v := ?vr4_9) ?hir4_9 (by kernel_rfl) (by kernel_rfl) (by kernel_rfl) ?hqr4_9 ?hyr4_9 (by assumption) ?restr4_9
      case hir4_9 => simp only [List.getElem?_toArray, List.getElem?_cons_succ, List.getElem?_cons_zero]; rfl
      case hqr4_9 => exact fun _ _ _ h => h
      case hyr4_9 => (refine Or.inl ⟨by rfl, ?_⟩; intro w hSw; (try dsimp only at hSw); go_simp; all_goals with_reducible rfl)
      try simp only [Act.put, List.setIfInBounds_toArray, List.set_cons_zero, List.set_cons_succ]
      refine wpAnyH_take (i := 10) (oi := ?oir4_10) (v := ?vr4_10) ?hir4_10 (by kernel_rfl) (by kernel_rfl) (by kernel_rfl) ?hqr4_10 ?hyr4_10 (by assumption) ?restr4_10
      case hir4_10 => simp only [List.getElem?_toArray, List.getElem?_cons_succ, List.getElem?_cons_zero]; rfl
      case hqr4_10 => exact fun _ _ _ h => h
      case hyr4_10 => (refine Or.inl ⟨by rfl, ?_⟩; intro w hSw; (try dsimp only at hSw); go_simp; all_goals with_reducible rfl)
      try simp only [Act.put, List.setIfInBounds_toArray, List.set_cons_zero, List.set_cons_succ]
      refine wpAnyH_take (i := 11) (oi := ?oir4_11) (v := ?vr4_11) ?hir4_11 (by kernel_rfl) (by kernel_rfl) (by kernel_rfl) ?hqr4_11 ?hyr4_11 (by assumption) ?restr4_11
      case hir4_11 => simp only [List.getElem?_toArray, List.getElem?_cons_succ, List.getElem?_cons_zero]; rfl
      case hqr4_11 => exact fun _ _ _ h => h
      case hyr4_11 => (refine Or.inl ⟨by rfl, ?_⟩; intro w hSw; (try dsimp only at hSw); go_simp; all_goals with_reducible rfl)
      try simp only [Act.put, List.setIfInBounds_toArray, List.set_cons_zero, List.set_cons_succ]
      refine wpAnyH_take (i := 12) (oi := ?oir4_12) (v := ?vr4_12) ?hir4_12 (by kernel_rfl) (by kernel_rfl) (by kernel_rfl) ?hqr4_12 ?hyr4_12 (by assumption) ?restr4_12
      case hir4_12 => simp only [List.getElem?_toArray, List.getElem?_cons_succ, List.getElem?_cons_zero]; rfl
      case hqr4_12 => exact fun _ _ _ h => h
      case hyr4_12 => (refine Or.inl ⟨by rfl, ?_⟩; intro w hSw; (try dsimp only at hSw); go_simp; all_goals with_reducible rfl)
      try simp only [Act.put, List.setIfInBounds_toArray, List.set_cons_zero, List.set_cons_succ]
      refine wpAnyH_take (i := 13) (oi := ?oir4_13) (v := ?vr4_13) ?hir4_13 (by kernel_rfl) (by kernel_rfl) (by kernel_rfl) ?hqr4_13 ?hyr4_13 (by assumption) ?restr4_13
      case hir4_13 => simp only [List.getElem?_toArray, List.getElem?_cons_succ, List.getElem?_cons_zero]; rfl
      case hqr4_13 => exact fun _ _ _ h => h
      case hyr4_13 => (refine Or.inl ⟨by rfl, ?_⟩; intro w hSw; (try dsimp only at hSw); go_simp; all_goals with_reducible rfl)
      try simp only [Act.put, List.setIfInBounds_toArray, List.set_cons_zero, List.set_cons_succ]
      refine wpAnyH_take (i := 14) (oi := ?oir4_14) (v := ?vr4_14) ?hir4_14 (by kernel_rfl) (by kernel_rfl) (by kernel_rfl) ?hqr4_14 ?hyr4_14 (by assumption) ?restr4_14
      case hir4_14 => simp only [List.getElem?_toArray, List.getElem?_cons_succ, List.getElem?_cons_zero]; rfl
      case hqr4_14 => exact fun _ _ _ h => h
      case hyr4_14 => (refine Or.inl ⟨by rfl, ?_⟩; intro w hSw; (try dsimp only at hSw); go_simp; all_goals with_reducible rfl)
      try simp only [Act.put, List.setIfInBounds_toArray, List.set_cons_zero, List.set_cons_succ]
      refine wpAnyH_take (i := 15) (oi := ?oir4_15) (v := ?vr4_15) ?hir4_15 (by kernel_rfl) (by kernel_rfl) (by kernel_rfl) ?hqr4_15 ?hyr4_15 (by assumption) ?restr4_15
      case hir4_15 => simp only [List.getElem?_toArray, List.getElem?_cons_succ, List.getElem?_cons_zero]; rfl
      case hqr4_15 => exact fun _ _ _ h => h
      case hyr4_15 => (refine Or.inl ⟨by rfl, ?_⟩; intro w hSw; (try dsimp only at hSw); go_simp; all_goals with_reducible rfl)
      try simp only [Act.put, List.setIfInBounds_toArray, List.set_cons_zero, List.set_cons_succ]
      refine wpAnyH_take (i := 16) (oi := ?oir4_16) (v := ?vr4_16) ?hir4_16 (by kernel_rfl) (by kernel_rfl) (by kernel_rfl) ?hqr4_16 ?hyr4_16 (by assumption) ?restr4_16
      case hir4_16 => simp only [List.getElem?_toArray, List.getElem?_cons_succ, List.getElem?_cons_zero]; rfl
      case hqr4_16 => exact fun _ _ _ h => h
      case hyr4_16 => (refine Or.inl ⟨by rfl, ?_⟩; intro w hSw; (try dsimp only at hSw); go_simp; all_goals with_reducible rfl)
      try simp only [Act.put, List.setIfInBounds_toArray, List.set_cons_zero, List.set_cons_succ]
      refine wpAnyH_take (i := 17) (oi := ?oir4_17) (v := ?vr4_17) ?hir4_17 (by kernel_rfl) (by kernel_rfl) (by kernel_rfl) ?hqr4_17 ?hyr4_17 (by assumption) ?restr4_17
      case hir4_17 => simp only [List.getElem?_toArray, List.getElem?_cons_succ, List.getElem?_cons_zero]; rfl
      case hqr4_17 => exact fun _ _ _ h => h
      case hyr4_17 => (refine Or.inl ⟨by rfl, ?_⟩; intro w hSw; (try dsimp only at hSw); go_simp; all_goals with_reducible rfl)
      try simp only [Act.put, List.setIfInBounds_toArray, List.set_cons_zero, List.set_cons_succ]
      refine wpAnyH_take (i := 19) (oi := ?oir4_19) (v := ?vr4_19) ?hir4_19 (by kernel_rfl) (by kernel_rfl) (by kernel_rfl) ?hqr4_19 ?hyr4_19 (by assumption) ?restr4_19
      case hir4_19 => simp only [List.getElem?_toArray, List.getElem?_cons_succ, List.getElem?_cons_zero]; rfl
      case hqr4_19 => exact fun _ _ _ h => h
      case hyr4_19 => (refine Or.inl ⟨by rfl, ?_⟩; intro w hSw; (try dsimp only at hSw); go_simp; all_goals with_reducible rfl)
      try simp only [Act.put, List.setIfInBounds_toArray, List.set_cons_zero, List.set_cons_succ]
      refine wpAnyH_take (i := 20) (oi := ?oir4_20) (v := ?vr4_20) ?hir4_20 (by kernel_rfl) (by kernel_rfl) (by kernel_rfl) ?hqr4_20 ?hyr4_20 (by assumption) ?restr4_20
      case hir4_20 => simp only [List.getElem?_toArray, List.getElem?_cons_succ, List.getElem?_cons_zero]; rfl
      case hqr4_20 => exact fun _ _ _ h => h
      case hyr4_20 => (refine Or.inl ⟨by rfl, ?_⟩; intro w hSw; (try dsimp only at hSw); go_simp; all_goals with_reducible rfl)
      try simp only [Act.put, List.setIfInBounds_toArray, List.set_cons_zero, List.set_cons_succ]
      refine wpAnyH_ready (rs := [18]) (by kernel_rfl) (by simp) ?_
      refine AllReadyH.cons (o := ?or5_18) ?hor5_18 (fun K hK => ?kr5_18) AllReadyH.nil
      case hor5_18 => simp only [List.getElem?_toArray, List.getElem?_cons_succ, List.getElem?_cons_zero]; rfl
      go_simp
      have c := Same_any w13 nm_c nm_o h_vs_13.rd h_os_13 se_c se_o ru_c ru_o
      rw [HSO.out] at c
      refine c.mono ?_
      rintro e w14 ⟨rfl, hb⟩
      clear c
      have B14 := B13.trans (hb.mono B13.size)
      have h_cs_14 := h_cs_13.below hb
      have h_os_14 := h_os_13.below hb
      have h_c_14 := h_c_13.later hb
      have h_o_14 := h_o_13.later hb
      have h_vs_14 := h_vs_13.below hb
      have h_v_14 := h_v_13.later hb
      have h_vp_14 := h_vp_13.later hb
      have h_T_14 := h_T_13.trans (hb.mono h_T_13.size)
      have h_ts_14 := h_ts_13.below hb
      have h_t_14 := h_t_13.later hb
      have h_tp_14 := h_tp_13.later hb
      clear hb B13 h_cs_13 h_os_13 h_c_13 h_o_13 h_vs_13 h_v_13 h_vp_13 h_T_13 h_ts_13 h_t_13 h_tp_13
      go_wp2_with fail
      clear hHeld
      refine hK.out _ _ ?_ (fun hHeld => ?_)
      · exact ⟨h_v_14.cell 0 _ rfl, h_v_14.cell 1 _ rfl, h_v_14.cell 2 _ rfl, h_v_14.cell 3 _ rfl, h_c_14.cell 0 _ rfl, h_c_14.cell 1 _ rfl, h_c_14.cell 2 _ rfl, h_c_14.cell 3 _ rfl, h_o_14.cell 0 _ rfl, h_o_14.cell 1 _ rfl, h_o_14.cell 2 _ rfl, h_o_14.cell 3 _ rfl, h_t_14.cell 0 _ rfl, h_t_14.cell 1 _ rfl, h_t_14.cell 2 _ rfl, h_t_14.cell 3 _ rfl, trivial⟩
      clear hK K
      try simp only [Act.put, List.setIfInBounds_toArray, List.set_cons_zero, List.set_cons_succ]
      refine wpAnyH_ready (rs := [21]) (by kernel_rfl) (by simp) ?_
      refine AllReadyH.cons (o := ?or6_21) ?hor6_21 (fun K hK => ?kr6_21) AllReadyH.nil
      case hor6_21 => simp only [List.getElem?_toArray, List.getElem?_cons_succ, List.getElem?_cons_zero]; rfl
      go_simp
      have c := refSame_any w14 nm_c nm_o h_cs_14 h_os_14 se_c se_o ru_c ru_o
      rw [HSO.out] at c
      refine c.mono ?_
      rintro e w15 ⟨rfl, hb⟩
      clear c
      have B15 := B14.trans (hb.mono B14.size)
      have h_cs_15 := h_cs_14.below hb
      have h_os_15 := h_os_14.below hb
      have h_c_15 := h_c_14.later hb
      have h_o_15 := h_o_14.later hb
      have h_vs_15 := h_vs_14.below hb
      have h_v_15 := h_v_14.later hb
      have h_vp_15 := h_vp_14.later hb
      have h_T_15 := h_T_14.trans (hb.mono h_T_14.size)
      have h_ts_15 := h_ts_14.below hb
      have h_t_15 := h_t_14.later hb
      have h_tp_15 := h_tp_14.later hb
      clear hb B14 h_cs_14 h_os_14 h_c_14 h_o_14 h_vs_14 h_v_14 h_vp_14 h_T_14 h_ts_14 h_t_14 h_tp_14
      go_wp2_with fail
      clear hHeld
      refine hK.out _ _ ?_ (fun hHeld => ?_)
      · exact ⟨h_v_15.cell 0 _ rfl, h_v_15.cell 1 _ rfl, h_v_15.cell 2 _ rfl, h_v_15.cell 3 _ rfl, h_c_15.cell 0 _ rfl, h_c_15.cell 1 _ rfl, h_c_15.cell 2 _ rfl, h_c_15.cell 3 _ rfl, h_o_15.cell 0 _ rfl, h_o_15.cell 1 _ rfl, h_o_15.cell 2 _ rfl, h_o_15.cell 3 _ rfl, h_t_15.cell 0 _ rfl, h_t_15.cell 1 _ rfl, h_t_15.cell 2 _ rfl, h_t_15.cell 3 _ rfl, trivial⟩
      clear hK K
      try simp only [Act.put, List.setIfInBounds_toArray, List.set_cons_zero, List.set_cons_succ]
      refine wpAnyH_take (i := 22) (oi := ?oir7_22) (v := ?vr7_22) ?hir7_22 (by kernel_rfl) (by kernel_rfl) (by kernel_rfl) ?hqr7_22 ?hyr7_22 (by assumption) ?restr7_22
      case hir7_22 => simp only [List.getElem?_toArray, List.getElem?_cons_succ, List.getElem?_cons_zero]; rfl
      case hqr7_22 => exact fun _ _ _ h => h
      case hyr7_22 => (refine Or.inl ⟨by rfl, ?_⟩; intro w hSw; (try dsimp only at hSw); go_simp; all_goals with_reducible rfl)
      try simp only [Act.put, List.setIfInBounds_toArray, List.set_cons_zero, List.set_cons_succ]
      refine wpAnyH_take (i := 23) (oi := ?oir7_23) (v := ?vr7_23) ?hir7_23 (by kernel_rfl) (by kernel_rfl) (by kernel_rfl) ?hqr7_23 ?hyr7_23 (by assumption) ?restr7_23
      case hir7_23 => simp only [List.getElem?_toArray, List.getElem?_cons_succ, List.getElem?_cons_zero]; rfl
      case hqr7_23 => exact fun _ _ _ h => h
      case hyr7_23 => (refine Or.inl ⟨by rfl, ?_⟩; intro w hSw; (try dsimp only at hSw); go_simp; all_goals with_reducible rfl)
      try simp only [Act.put, List.setIfInBounds_toArray, List.set_cons_zero, List.set_cons_succ]
      refine wpAnyH_take (i := 24) (oi := ?oir7_24) (v := ?vr7_24) ?hir7_24 (by kernel_rfl) (by kernel_rfl) (by kernel_rfl) ?hqr7_24 ?hyr7_24 (by assumption) ?restr7_24
      case hir7_24 => simp only [List.getElem?_toArray, List.getElem?_cons_succ, List.getElem?_cons_zero]; rfl
      case hqr7_24 => exact fun _ _ _ h => h
      case hyr7_24 => (refine Or.inl ⟨by rfl, ?_⟩; intro w hSw; (try dsimp only at hSw); go_simp; all_goals with_reducible rfl)
      try simp only [Act.put, List.setIfInBounds_toArray, List.set_cons_zero, List.set_cons_succ]
      refine wpAnyH_take (i := 25) (oi := ?oir7_25) (v := ?vr7_25) ?hir7_25 (by kernel_rfl) (by kernel_rfl) (by kernel_rfl) ?hqr7_25 ?hyr7_25 (by assumption) ?restr7_25
      case hir7_25 => simp only [List.getElem?_toArray, List.getElem?_cons_succ, List.getElem?_cons_zero]; rfl
      case hqr7_25 => exact fun _ _ _ h => h
      case hyr7_25 => (refine Or.inl ⟨by rfl, ?_⟩; intro w hSw; (try dsimp only at hSw); go_simp; all_goals with_reducible rfl)
      try simp only [Act.put, List.setIfInBounds_toArray, List.set_cons_zero, List.set_cons_succ]
      refine wpAnyH_take (i := 26) (oi := ?oir7_26) (v := ?vr7_26) ?hir7_26 (by kernel_rfl) (by kernel_rfl) (by kernel_rfl) ?hqr7_26 ?hyr7_26 (by assumption) ?restr7_26
      case hir7_26 => simp only [List.getElem?_toArray, List.getElem?_cons_succ, List.getElem?_cons_zero]; rfl
      case hqr7_26 => exact fun _ _ _ h => h
      case hyr7_26 => (refine Or.inl ⟨by rfl, ?_⟩; intro w hSw; (try dsimp only at hSw); go_simp; all_goals with_reducible rfl)
      try simp only [Act.put, List.setIfInBounds_toArray, List.set_cons_zero, List.set_cons_succ]
      refine wpAnyH_ready (rs := [27]) (by kernel_rfl) (by simp) ?_
      refine AllReadyH.cons (o := ?or8_27) ?hor8_27 (fun K hK => ?kr8_27) AllReadyH.nil
      case hor8_27 => simp only [List.getElem?_toArray, List.getElem?_cons_succ, List.getElem?_cons_zero]; rfl
      go_simp
      have c := Same_any w15 nm_c nm_c h_vs_15.rd h_cs_15 se_c se_c ru_c ru_c
      rw [same_self] at c
      refine c.mono ?_
      rintro e w16 ⟨rfl, hb⟩
      clear c
      have B16 := B15.trans (hb.mono B15.size)
      have h_cs_16 := h_cs_15.below hb
      have h_os_16 := h_os_15.below hb
      have h_c_16 := h_c_15.later hb
      have h_o_16 := h_o_15.later hb
      have h_vs_16 := h_vs_15.below hb
      have h_v_16 := h_v_15.later hb
      have h_vp_16 := h_vp_15.later hb
      have h_T_16 := h_T_15.trans (hb.mono h_T_15.size)
      have h_ts_16 := h_ts_15.below hb
      have h_t_16 := h_t_15.later hb
      have h_tp_16 := h_tp_15.later hb
      clear hb B15 h_cs_15 h_os_15 h_c_15 h_o_15 h_vs_15 h_v_15 h_vp_15 h_T_15 h_ts_15 h_t_15 h_tp_15
      go_wp2_with fail
      clear hHeld
      refine hK.out _ _ ?_ (fun hHeld => ?_)
      · exact ⟨h_v_16.cell 0 _ rfl, h_v_16.cell 1 _ rfl, h_v_16.cell 2 _ rfl, h_v_16.cell 3 _ rfl, h_c_16.cell 0 _ rfl, h_c_16.cell 1 _ rfl, h_c_16.cell 2 _ rfl, h_c_16.cell 3 _ rfl, h_o_16.cell 0 _ rfl, h_o_16.cell 1 _ rfl, h_o_16.cell 2 _ rfl, h_o_16.cell 3 _ rfl, h_t_16.cell 0 _ rfl, h_t_16.cell 1 _ rfl, h_t_16.cell 2 _ rfl, h_t_16.cell 3 _ rfl, trivial⟩
      clear hK K
      try simp only [Act.put, List.setIfInBounds_toArray, List.set_cons_zero, List.set_cons_succ]
      refine wpAnyH_take (i := 28) (oi := ?oir9_28) (v := ?vr9_28) ?hir9_28 (by kernel_rfl) (by kernel_rfl) (by kernel_rfl) ?hqr9_28 ?hyr9_28 (by assumption) ?restr9_28
      case hir9_28 => simp only [List.getElem?_toArray, List.getElem?_cons_succ, List.getElem?_cons_zero]; rfl
      case hqr9_28 => exact fun _ _ _ h => h
      case hyr9_28 => (refine Or.inl ⟨by rfl, ?_⟩; intro w hSw; (try dsimp only at hSw); go_simp; all_goals with_reducible rfl)
      try simp only [Act.put, List.setIfInBounds_toArray, List.set_cons_zero, List.set_cons_succ]
      refine wpAnyH_take (i := 29) (oi := ?oir9_29) (v := ?vr9_29) ?hir9_29 (by kernel_rfl) (by kernel_rfl) (by kernel_rfl) ?hqr9_29 ?hyr9_29 (by assumption) ?restr9_29
      case hir9_29 => simp only [List.getElem?_toArray, List.getElem?_cons_succ, List.getElem?_cons_zero]; rfl
      case hqr9_29 => exact fun _ _ _ h => h
      case hyr9_29 => (refine Or.inl ⟨by rfl, ?_⟩; intro w hSw; (try dsimp only at hSw); go_simp; all_goals with_reducible rfl)
      try simp only [Act.put, List.setIfInBounds_toArray, List.set_cons_zero, List.set_cons_succ]
      refine wpAnyH_take (i := 30) (oi := ?oir9_30) (v := ?vr9_30) ?hir9_30 (by kernel_rfl) (by kernel_rfl) (by kernel_rfl) ?hqr9_30 ?hyr9_30 (by assumption) ?restr9_30
      case hir9_30 => simp only [List.getElem?_toArray, List.getElem?_cons_succ, List.getElem?_cons_zero]; rfl
      case hqr9_30 => exact fun _ _ _ h => h
      case hyr9_30 => (refine Or.inl ⟨by rfl, ?_⟩; intro w hSw; (try dsimp only at hSw); go_simp; all_goals with_reducible rfl)
      try simp only [Act.put, List.setIfInBounds_toArray, List.set_cons_zero, List.set_cons_succ]
      refine wpAnyH_take (i := 31) (oi := ?oir9_31) (v := ?vr9_31) ?hir9_31 (by kernel_rfl) (by kernel_rfl) (by kernel_rfl) ?hqr9_31 ?hyr9_31 (by assumption) ?restr9_31
      case hir9_31 => simp only [List.getElem?_toArray, List.getElem?_cons_succ, List.getElem?_cons_zero]; rfl
      case hqr9_31 => exact fun _ _ _ h => h
      case hyr9_31 => (refine Or.inl ⟨by rfl, ?_⟩; intro w hSw; (try dsimp only at hSw); go_simp; all_goals with_reducible rfl)
      try simp only [Act.put, List.setIfInBounds_toArray, List.set_cons_zero, List.set_cons_succ]
      refine wpAnyH_ready (rs := [32]) (by kernel_rfl) (by simp) ?_
      refine AllReadyH.cons (o := ?or10_32) ?hor10_32 (fun K hK => ?kr10_32) AllReadyH.nil
      case hor10_32 => simp only [List.getElem?_toArray, List.getElem?_cons_succ, List.getElem?_cons_zero]; rfl
      go_simp
      have c := refSame_any w16 nm_c nm_c h_ts_16.rd h_cs_16 se_c se_c ru_c ru_c
      rw [same_self] at c
      refine c.mono ?_
      rintro e w17 ⟨rfl, hb⟩
      clear c
      have B17 := B16.trans (hb.mono B16.size)
      have h_cs_17 := h_cs_16.below hb
      have h_os_17 := h_os_16.below hb
      have h_c_17 := h_c_16.later hb
      have h_o_17 := h_o_16.later hb
      have h_vs_17 := h_vs_16.below hb
      have h_v_17 := h_v_16.later hb
      have h_vp_17 := h_vp_16.later hb
      have h_T_17 := h_T_16.trans (hb.mono h_T_16.size)
      have h_ts_17 := h_ts_16.below hb
      have h_t_17 := h_t_16.later hb
      have h_tp_17 := h_tp_16.later hb
      clear hb B16 h_cs_16 h_os_16 h_c_16 h_o_16 h_vs_16 h_v_16 h_vp_16 h_T_16 h_ts_16 h_t_16 h_tp_16
      go_wp2_with fail
      clear hHeld
      refine hK.out _ _ ?_ (fun hHeld => ?_)
      · exact ⟨h_v_17.cell 0 _ rfl, h_v_17.cell 1 _ rfl, h_v_17.cell 2 _ rfl, h_v_17.cell 3 _ rfl, h_c_17.cell 0 _ rfl, h_c_17.cell 1 _ rfl, h_c_17.cell 2 _ rfl, h_c_17.cell 3 _ rfl, h_o_17.cell 0 _ rfl, h_o_17.cell 1 _ rfl, h_o_17.cell 2 _ rfl, h_o_17.cell 3 _ rfl, h_t_17.cell 0 _ rfl, h_t_17.cell 1 _ rfl, h_t_17.cell 2 _ rfl, h_t_17.cell 3 _ rfl, trivial⟩
      clear hK K
      try simp only [Act.put, List.setIfInBounds_toArray, List.set_cons_zero, List.set_cons_succ]
      refine wpAnyH_take (i := 33) (oi := ?oir11_33) (v := ?vr11_33) ?hir11_33 (by kernel_rfl) (by kernel_rfl) (by kernel_rfl) ?hqr11_33 ?hyr11_33 (by assumption) ?restr11_33
      case hir11_33 => simp only [List.getElem?_toArray, List.getElem?_cons_succ, List.getElem?_cons_zero]; rfl
      case hqr11_33 => exact fun _ _ _ h => h
      case hyr11_33 => (refine Or.inl ⟨by rfl, ?_⟩; intro w hSw; (try dsimp only at hSw); go_simp; all_goals with_reducible rfl)
      try simp only [Act.put, List.setIfInBounds_toArray, List.set_cons_zero, List.set_cons_succ]
      refine wpAnyH_take (i := 34) (oi := ?oir11_34) (v := ?vr11_34) ?hir11_34 (by kernel_rfl) (by kernel_rfl) (by kernel_rfl) ?hqr11_34 ?hyr11_34 (by assumption) ?restr11_34
      case hir11_34 => simp only [List.getElem?_toArray, List.getElem?_cons_succ, List.getElem?_cons_zero]; rfl
      case hqr11_34 => exact fun _ _ _ h => h
      case hyr11_34 => (refine Or.inl ⟨by rfl, ?_⟩; intro w hSw; (try dsimp only at hSw); go_simp; all_goals with_reducible rfl)
      try simp only [Act.put, List.setIfInBounds_toArray, List.set_cons_zero, List.set_cons_succ]
      refine wpAnyH_done (by kernel_rfl) ?_ _
      clear hHeld
      go_wp2_with fail
      have hrow : PRow 40 w8 w17 w9.heap.size #[.string nm_c, .slice a_t n_c c_t, .int .i64 se_c, .int .u8 ((ru_c : Nat) : Int)] := h_tp_17.rebase h_T_17 BTK.out
      have hg0 : 0 < n_c → ∃ g cs', a_t = some ⟨g, 0, none⟩ ∧ w8.heap.size ≤ g ∧ w17.heap[g]? = some (.cells cs' 9 (0, 0)) ∧ n_c ≤ cs'.size := by
        intro hp
        obtain ⟨g, e, hg, hlt⟩ := own_block h_ts_17.own hp
        subst e
        obtain ⟨cs', hc'⟩ := own_cells h_ts_17.own g rfl
        refine ⟨g, cs', rfl, hg, hc', ?_⟩
        obtain ⟨b, off, e, hcell⟩ := h_ts_17.rd.cell (n_c - 1) (by omega)
        obtain ⟨rfl, rfl⟩ : g = b ∧ 0 = off := by simpa using e
        simp only [World.cell?, hc', Nat.zero_add] at hcell
        have := (Array.getElem?_eq_some_iff.1 (by simpa using hcell)).1
        omega
      have BT := h_T_17
      clear B17 h_cs_17 h_os_17 h_c_17 h_o_17 h_vs_17 h_v_17 h_vp_17 h_T_17 h_ts_17 h_t_17 h_tp_17
      go_loopw [14] (fun j wr => ∃ i, i ≤ n_c ∧ j = .int .i64 (i : Nat) ∧ PRow 40 w8 wr w9.heap.size #[.string nm_c, .slice a_t n_c c_t, .int .i64 se_c, .int .u8 ((ru_c : Nat) : Int)] ∧ Below w8.heap.size w8 wr ∧ (0 < n_c → ∃ g cs', a_t = some ⟨g, 0, none⟩ ∧ w8.heap.size ≤ g ∧ wr.heap[g]? = some (.cells cs' 9 (0, 0)) ∧ n_c ≤ cs'.size)) (fun j _ => n_c - (intOf j).toNat)
      case atStart => exact ⟨0, Nat.zero_le _, rfl, hrow, BT, hg0⟩
      clear hrow BT hg0
      case round =>
        rename_i wr _
        obtain ⟨i, hi, rfl, RT, BT, hg⟩ := hrel
        have k1 := RT.cell 1 _ rfl
        by_cases hlt : i < n_c
        case pos =>
          obtain ⟨g, cs', rfl, hgl, hgh, hgn⟩ := hg (by omega)
          have hne : w9.heap.size ≠ g := by
            intro e
            have h1 := RT.row
            rw [e, hgh] at h1
            simp at h1
          have kx : wr.cell? ⟨g, i, none⟩ = some (cs'[i]'(by omega)) := by
            simp only [World.cell?, hgh]
            exact Array.getElem?_eq_getElem (by omega)
          have fx : wr.frozen? ⟨g, i, none⟩ = false := frozen_of_row wr g i _ _ hgh
          go_wp2_with fail
          go_roundw
          case rel => exact ⟨i + 1, by omega, by go_num, RT.other (p := ⟨g, i, none⟩) hne hgl _, BT.setCell hgl _, fun _ => ⟨g, _, rfl, hgl, heap_setCell_same wr g i cs' _ _ hgh, by simpa using hgn⟩⟩
          case measure => simp [intOf]; omega
        case neg =>
          obtain rfl : i = n_c := by omega
          have h_c := S_c.out.later BT
          have h_v := S_v.out.later BT
          have k_c_0 := h_c.cell 0 _ rfl
          have k_c_1 := h_c.cell 1 _ rfl
          have k_c_2 := h_c.cell 2 _ rfl
          have k_c_3 := h_c.cell 3 _ rfl
          have k_v_0 := h_v.cell 0 _ rfl
          have k_v_1 := h_v.cell 1 _ rfl
          have k_v_2 := h_v.cell 2 _ rfl
          have k_v_3 := h_v.cell 3 _ rfl
          go_wp2_with fail
          have c := refSame_any wr nm_c nm_c (S_vs.out.below BT).rd (S_cs.out.below BT) se_c se_c ru_c ru_c
          rw [same_self] at c
          refine c.mono ?_
          rintro e we ⟨rfl, hb⟩
          clear c
          have BE := SB.out.trans ((BT.trans (hb.mono BT.size)).mono SB.out.size)
          clear k_c_0 k_c_1 k_c_2 k_c_3 k_v_0 k_v_1 k_v_2 k_v_3
          go_wp2_with fail
          go_ret
          exact ⟨rfl, BE⟩

end Go.Proofs.Ytnkbkcmphgejkaa
