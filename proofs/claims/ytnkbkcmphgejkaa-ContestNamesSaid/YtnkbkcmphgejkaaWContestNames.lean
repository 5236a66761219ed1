/- The walk of the law ContestNames: it returns true and turns nothing that was there. No condition. Printed by gen_conlaws.py. -/
import Derived.Test.YtnkbkcmphgejkaaConU
import Derived.BigQuiet
import Derived.Deep.CutRange
namespace Go.Proofs.Ytnkbkcmphgejkaa
open Go.RowKit Go.Suf
set_option linter.unusedVariables false
set_option linter.unusedSimpArgs false

theorem pl_bob : placeC mayorS [annS, bobS] 1 7 ⟨#[98, 111, 98]⟩ = (1, 0) := by
  unfold placeC
  rw [if_pos (show checkC mayorS [annS, bobS] 1 7 = 0 by unfold checkC; rw [twice_mayor, show oddL [mayorS] = false from by kernel_rfl, show oddL [annS, bobS] = false from by kernel_rfl, show fitsC [annS, bobS].length 1 7 = true from by kernel_rfl]; simp), show idxI [annS, bobS] ⟨#[98, 111, 98]⟩ = 1 from by kernel_rfl]
  rfl
theorem pl_cat : placeC mayorS [annS, bobS] 1 7 ⟨#[99, 97, 116]⟩ = (0, 6) := by
  unfold placeC
  rw [if_pos (show checkC mayorS [annS, bobS] 1 7 = 0 by unfold checkC; rw [twice_mayor, show oddL [mayorS] = false from by kernel_rfl, show oddL [annS, bobS] = false from by kernel_rfl, show fitsC [annS, bobS].length 1 7 = true from by kernel_rfl]; simp), show idxI [annS, bobS] ⟨#[99, 97, 116]⟩ = -1 from by kernel_rfl]
  rfl
theorem ru_meek : ruleC ⟨#[109, 101, 101, 107]⟩ = (12, 0) := by kernel_rfl
theorem ru_none : ruleC ⟨#[]⟩ = (0, 6) := by kernel_rfl
theorem rd_short : readC [0, 1, 65, 0, 2, 1, 1, 0, 1] = (zeroK, 10) := by kernel_rfl
theorem rd_form : readC [0, 1, 65, 0, 2, 1, 1] = (zeroK, 11) := by kernel_rfl

set_option maxRecDepth 100000 in
set_option maxHeartbeats 8000000 in
theorem contestNames_walk (w : World) :
    Calls Try.prog 9 #[] w fun e w' => e = .returned (.bool true) ∧ Below w.heap.size w w' := by
  have B0 : Below w.heap.size w w := Below.refl _ _
  go_enter Try.func9, Try.ntmps9
  go_wp2_with fail
  have c := turned2_any w
  refine c.mono ?_
  rintro e w1 ⟨rfl, hb⟩
  clear c
  have B1 := B0.trans (hb.mono B0.size)
  clear hb B0
  go_wp2_with fail
  have c := turned3_any w1
  refine c.mono ?_
  rintro e w2 ⟨rfl, hb⟩
  clear c
  have B2 := B1.trans (hb.mono B1.size)
  clear hb B1
  go_wp2_with fail
  have c := turned4_any w2
  refine c.mono ?_
  rintro e w3 ⟨rfl, hb⟩
  clear c
  have B3 := B2.trans (hb.mono B2.size)
  clear hb B2
  go_wp2_with fail
  have c := turned5_any w3
  refine c.mono ?_
  rintro e w4 ⟨rfl, hb⟩
  clear c
  have B4 := B3.trans (hb.mono B3.size)
  clear hb B3
  go_wp2_with fail
  have c := turned6_any w4
  refine c.mono ?_
  rintro e w5 ⟨rfl, hb⟩
  clear c
  have B5 := B4.trans (hb.mono B4.size)
  clear hb B4
  go_wp2_with fail
  have c := turned7_any w5
  refine c.mono ?_
  rintro e w6 ⟨rfl, hb⟩
  clear c
  have B6 := B5.trans (hb.mono B5.size)
  clear hb B5
  go_wp2_with fail
  have c := turned8_any w6
  refine c.mono ?_
  rintro e w7 ⟨rfl, hb⟩
  clear c
  have B7 := B6.trans (hb.mono B6.size)
  clear hb B6
  go_wp2_with fail
  have c := turned9_any w7
  refine c.mono ?_
  rintro e w8 ⟨rfl, hb⟩
  clear c
  have B8 := B7.trans (hb.mono B7.size)
  clear hb B7
  go_wp2_with fail
  have c := turned10_any w8
  refine c.mono ?_
  rintro e w9 ⟨rfl, hb⟩
  clear c
  have B9 := B8.trans (hb.mono B8.size)
  clear hb B8
  go_wp2_with fail
  have c := mayor_any w9
  refine c.mono ?_
  rintro e w10 ⟨a_m, rfl, h_m_10, hb⟩
  clear c
  have B10 := B9.trans (hb.mono B9.size)
  clear hb B9
  go_wp2_with fail
  have c := Place_any w10 mayorS h_m_10 1 (by decide) (by decide) 7 (by decide) ⟨#[98, 111, 98]⟩
  rw [pl_bob] at c
  refine c.mono ?_
  rintro e w11 ⟨rfl, hb⟩
  clear c
  have B11 := B10.trans (hb.mono B10.size)
  have h_m_11 := h_m_10.below hb
  clear hb B10 h_m_10
  go_wp2_with fail
  have c := mayor_any w11
  refine c.mono ?_
  rintro e w12 ⟨a_n, rfl, h_n_12, hb⟩
  clear c
  have B12 := B11.trans (hb.mono B11.size)
  have h_m_12 := h_m_11.below hb
  clear hb B11 h_m_11
  go_wp2_with fail
  have c := Place_any w12 mayorS h_n_12 1 (by decide) (by decide) 7 (by decide) ⟨#[99, 97, 116]⟩
  rw [pl_cat] at c
  refine c.mono ?_
  rintro e w13 ⟨rfl, hb⟩
  clear c
  have B13 := B12.trans (hb.mono B12.size)
  have h_m_13 := h_m_12.below hb
  have h_n_13 := h_n_12.below hb
  clear hb B12 h_m_12 h_n_12
  go_wp2_with fail
  have c := Rule_any w13 ⟨#[109, 101, 101, 107]⟩
  rw [ru_meek] at c
  refine c.mono ?_
  rintro e w14 ⟨rfl, hb⟩
  clear c
  have B14 := B13.trans (hb.mono B13.size)
  have h_m_14 := h_m_13.below hb
  have h_n_14 := h_n_13.below hb
  clear hb B13 h_m_13 h_n_13
  go_wp2_with fail
  have c := Rule_any w14 ⟨#[]⟩
  rw [ru_none] at c
  refine c.mono ?_
  rintro e w15 ⟨rfl, hb⟩
  clear c
  have B15 := B14.trans (hb.mono B14.size)
  have h_m_15 := h_m_14.below hb
  have h_n_15 := h_n_14.below hb
  clear hb B14 h_m_14 h_n_14
  have hb := below_al w15 (.cells #[.int .u8 0, .int .u8 1, .int .u8 65, .int .u8 0, .int .u8 2, .int .u8 1, .int .u8 1, .int .u8 0, .int .u8 1] 5)
  have B16 := B15.trans (hb.mono B15.size)
  have h_m_16 := h_m_15.below hb
  have h_n_16 := h_n_15.below hb
  clear hb B15 h_m_15 h_n_15
  have h_p_16 := (show Rd .u8 (w15.alloc (.cells #[.int .u8 0, .int .u8 1, .int .u8 65, .int .u8 0, .int .u8 2, .int .u8 1, .int .u8 1, .int .u8 0, .int .u8 1] 5)) (some ⟨w15.heap.size, 0, none⟩) 9 9 [0, 1, 65, 0, 2, 1, 1, 0, 1] from rd_lit .u8 w15 [0, 1, 65, 0, 2, 1, 1, 0, 1] 5 9 rfl (by decide) (by decide))
  go_wp2_with fail
  generalize (w15.alloc (.cells #[.int .u8 0, .int .u8 1, .int .u8 65, .int .u8 0, .int .u8 2, .int .u8 1, .int .u8 1, .int .u8 0, .int .u8 1] 5)) = w16 at *
  have c := Read_any w16 h_p_16 (by decide)
  rw [rd_short] at c
  refine c.mono ?_
  rintro e w17 ⟨a_pk, n_pk, c_pk, rfl, h_pks_17, hb⟩
  clear c
  have B17 := B16.trans (hb.mono B16.size)
  have h_m_17 := h_m_16.below hb
  have h_n_17 := h_n_16.below hb
  have h_p_17 := h_p_16.below hb
  clear hb B16 h_m_16 h_n_16 h_p_16
  have hb := below_al w17 (.cells #[.string (zeroK).nm, .slice a_pk n_pk c_pk, .int .i64 (((zeroK).seats : Nat) : Int), .int .u8 (((zeroK).rule : Nat) : Int)] 40)
  have B18 := B17.trans (hb.mono B17.size)
  have h_m_18 := h_m_17.below hb
  have h_n_18 := h_n_17.below hb
  have h_p_18 := h_p_17.below hb
  have h_pks_18 := h_pks_17.below hb
  clear hb B17 h_m_17 h_n_17 h_p_17 h_pks_17
  have h_pk_18 := Has.new w17 #[.string (zeroK).nm, .slice a_pk n_pk c_pk, .int .i64 (((zeroK).seats : Nat) : Int), .int .u8 (((zeroK).rule : Nat) : Int)] 40
  have hb := below_al (w17.alloc (.cells #[.string (zeroK).nm, .slice a_pk n_pk c_pk, .int .i64 (((zeroK).seats : Nat) : Int), .int .u8 (((zeroK).rule : Nat) : Int)] 40)) (.cells #[.int .u8 0, .int .u8 1, .int .u8 65, .int .u8 0, .int .u8 2, .int .u8 1, .int .u8 1] 5)
  have B19 := B18.trans (hb.mono B18.size)
  have h_m_19 := h_m_18.below hb
  have h_n_19 := h_n_18.below hb
  have h_p_19 := h_p_18.below hb
  have h_pks_19 := h_pks_18.below hb
  have h_pk_19 := h_pk_18.later hb
  clear hb B18 h_m_18 h_n_18 h_p_18 h_pks_18 h_pk_18
  have h_q_19 := (show Rd .u8 ((w17.alloc (.cells #[.string (zeroK).nm, .slice a_pk n_pk c_pk, .int .i64 (((zeroK).seats : Nat) : Int), .int .u8 (((zeroK).rule : Nat) : Int)] 40)).alloc (.cells #[.int .u8 0, .int .u8 1, .int .u8 65, .int .u8 0, .int .u8 2, .int .u8 1, .int .u8 1] 5)) (some ⟨(w17.alloc (.cells #[.string (zeroK).nm, .slice a_pk n_pk c_pk, .int .i64 (((zeroK).seats : Nat) : Int), .int .u8 (((zeroK).rule : Nat) : Int)] 40)).heap.size, 0, none⟩) 7 7 [0, 1, 65, 0, 2, 1, 1] from rd_lit .u8 (w17.alloc (.cells #[.string (zeroK).nm, .slice a_pk n_pk c_pk, .int .i64 (((zeroK).seats : Nat) : Int), .int .u8 (((zeroK).rule : Nat) : Int)] 40)) [0, 1, 65, 0, 2, 1, 1] 5 7 rfl (by decide) (by decide))
  simp only [World.size_alloc] at h_q_19
  go_wp2_with first | refine wpList_store_new rfl 40 _ _ rfl atCon _ _ _ rfl rfl rfl rfl (con_one _ _ _ _ _ _) ?_
  generalize ((w17.alloc (.cells #[.string (zeroK).nm, .slice a_pk n_pk c_pk, .int .i64 (((zeroK).seats : Nat) : Int), .int .u8 (((zeroK).rule : Nat) : Int)] 40)).alloc (.cells #[.int .u8 0, .int .u8 1, .int .u8 65, .int .u8 0, .int .u8 2, .int .u8 1, .int .u8 1] 5)) = w19 at *
  have c := Read_any w19 h_q_19 (by decide)
  rw [rd_form] at c
  refine c.mono ?_
  rintro e w20 ⟨a_qk, n_qk, c_qk, rfl, h_qks_20, hb⟩
  clear c
  have B20 := B19.trans (hb.mono B19.size)
  have h_m_20 := h_m_19.below hb
  have h_n_20 := h_n_19.below hb
  have h_p_20 := h_p_19.below hb
  have h_pks_20 := h_pks_19.below hb
  have h_pk_20 := h_pk_19.later hb
  have h_q_20 := h_q_19.below hb
  clear hb B19 h_m_19 h_n_19 h_p_19 h_pks_19 h_pk_19 h_q_19
  have hb := below_al w20 (.cells #[.string (zeroK).nm, .slice a_qk n_qk c_qk, .int .i64 (((zeroK).seats : Nat) : Int), .int .u8 (((zeroK).rule : Nat) : Int)] 40)
  have B21 := B20.trans (hb.mono B20.size)
  have h_m_21 := h_m_20.below hb
  have h_n_21 := h_n_20.below hb
  have h_p_21 := h_p_20.below hb
  have h_pks_21 := h_pks_20.below hb
  have h_pk_21 := h_pk_20.later hb
  have h_q_21 := h_q_20.below hb
  have h_qks_21 := h_qks_20.below hb
  clear hb B20 h_m_20 h_n_20 h_p_20 h_pks_20 h_pk_20 h_q_20 h_qks_20
  have h_qk_21 := Has.new w20 #[.string (zeroK).nm, .slice a_qk n_qk c_qk, .int .i64 (((zeroK).seats : Nat) : Int), .int .u8 (((zeroK).rule : Nat) : Int)] 40
  go_wp2_with first | refine wpList_store_new rfl 40 _ _ rfl atCon _ _ _ rfl rfl rfl rfl (con_one _ _ _ _ _ _) ?_
  generalize (w20.alloc (.cells #[.string (zeroK).nm, .slice a_qk n_qk c_qk, .int .i64 (((zeroK).seats : Nat) : Int), .int .u8 (((zeroK).rule : Nat) : Int)] 40)) = w21 at *
  have c := alive_any w21
  refine c.mono ?_
  rintro e w22 ⟨rfl, hb⟩
  clear c
  have B22 := B21.trans (hb.mono B21.size)
  have h_m_22 := h_m_21.below hb
  have h_n_22 := h_n_21.below hb
  have h_p_22 := h_p_21.below hb
  have h_pks_22 := h_pks_21.below hb
  have h_pk_22 := h_pk_21.later hb
  have h_q_22 := h_q_21.below hb
  have h_qks_22 := h_qks_21.below hb
  have h_qk_22 := h_qk_21.later hb
  clear hb B21 h_m_21 h_n_21 h_p_21 h_pks_21 h_pk_21 h_q_21 h_qks_21 h_qk_21
  go_wp2_with fail
  go_ret
  exact ⟨rfl, B22⟩

end Go.Proofs.Ytnkbkcmphgejkaa
