/- The walk of the law RollNames: it returns true and turns nothing that was there. No condition. Printed by gen_rollaws.py. -/
import Derived.Test.YtnjkfjecnicccaaRolY
import Derived.BigQuiet
import Derived.Test.YtnjkfjecnicccaaRolO
import Derived.Test.YtnjkfjecnicccaaMem
import Derived.Deep.CutRange
namespace Go.Proofs.Ytnjkfjecnicccaa
open Go.RowKit Go.Suf
set_option linter.unusedVariables false
set_option linter.unusedSimpArgs false

set_option maxRecDepth 100000 in
set_option maxHeartbeats 8000000 in
theorem rollNames_walk (w : World) :
    Calls Try.prog 9 #[] w fun e w' => e = .returned (.bool true) ∧ Below w.heap.size w w' := by
  have B0 : Below w.heap.size w w := Below.refl _ _
  go_enter Try.func9, Try.ntmps9
  go_wp2_with fail
  have c := two_any w
  refine c.mono ?_
  rintro e w1 ⟨a_l, c_l, rfl, h_l_1, hb⟩
  clear c
  have B1 := B0.trans (hb.mono B0.size)
  clear hb B0
  go_wp2_with fail
  have c := Add_any w1 h_l_1.rd annS 0 (by decide) (by decide)
  rw [ex_e] at c
  refine c.mono ?_
  rintro e w2 ⟨a_e, n_e, c_e, rfl, h_e_2, hb⟩
  clear c
  have B2 := B1.trans (hb.mono B1.size)
  have h_l_2 := h_l_1.below hb
  clear hb B1 h_l_1
  go_wp2_with fail
  have c := Add_any w2 h_l_2.rd catS 8 (by decide) (by decide)
  rw [ex_f] at c
  refine c.mono ?_
  rintro e w3 ⟨a_f, n_f, c_f, rfl, h_f_3, hb⟩
  clear c
  have B3 := B2.trans (hb.mono B2.size)
  have h_l_3 := h_l_2.below hb
  have h_e_3 := h_e_2.below hb
  clear hb B2 h_l_2 h_e_2
  go_wp2_with fail
  have c := Add_any w3 h_l_3.rd noS 0 (by decide) (by decide)
  rw [ex_g] at c
  refine c.mono ?_
  rintro e w4 ⟨a_g, n_g, c_g, rfl, h_g_4, hb⟩
  clear c
  have B4 := B3.trans (hb.mono B3.size)
  have h_l_4 := h_l_3.below hb
  have h_e_4 := h_e_3.below hb
  have h_f_4 := h_f_3.below hb
  clear hb B3 h_l_3 h_e_3 h_f_3
  go_wp2_with fail
  have c := Vote_any w4 h_l_4.rd annS
  rw [ex_h] at c
  refine c.mono ?_
  rintro e w5 ⟨a_h, n_h, c_h, rfl, h_h_5, hb⟩
  clear c
  have B5 := B4.trans (hb.mono B4.size)
  have h_l_5 := h_l_4.below hb
  have h_e_5 := h_e_4.below hb
  have h_f_5 := h_f_4.below hb
  have h_g_5 := h_g_4.below hb
  clear hb B4 h_l_4 h_e_4 h_f_4 h_g_4
  go_wp2_with fail
  have c := Return_any w5 h_l_5.rd bobS
  rw [ex_i] at c
  refine c.mono ?_
  rintro e w6 ⟨a_i, n_i, c_i, rfl, h_i_6, hb⟩
  clear c
  have B6 := B5.trans (hb.mono B5.size)
  have h_l_6 := h_l_5.below hb
  have h_e_6 := h_e_5.below hb
  have h_f_6 := h_f_5.below hb
  have h_g_6 := h_g_5.below hb
  have h_h_6 := h_h_5.below hb
  clear hb B5 h_l_5 h_e_5 h_f_5 h_g_5 h_h_5
  go_wp2_with fail
  have c := Strike_any w6 h_l_6.rd annS
  rw [ex_j] at c
  refine c.mono ?_
  rintro e w7 ⟨a_s, n_s, c_s, rfl, h_s_7, hb⟩
  clear c
  have B7 := B6.trans (hb.mono B6.size)
  have h_l_7 := h_l_6.below hb
  have h_e_7 := h_e_6.below hb
  have h_f_7 := h_f_6.below hb
  have h_g_7 := h_g_6.below hb
  have h_h_7 := h_h_6.below hb
  have h_i_7 := h_i_6.below hb
  clear hb B6 h_l_6 h_e_6 h_f_6 h_g_6 h_h_6 h_i_6
  obtain rfl : 2 = n_s := h_s_7.len
  go_wp2_with fail
  have c := Restore_any w7 h_s_7.rd annS
  rw [ex_k] at c
  refine c.mono ?_
  rintro e w8 ⟨a_r, n_r, c_r, rfl, h_r_8, hb⟩
  clear c
  have B8 := B7.trans (hb.mono B7.size)
  have h_l_8 := h_l_7.below hb
  have h_e_8 := h_e_7.below hb
  have h_f_8 := h_f_7.below hb
  have h_g_8 := h_g_7.below hb
  have h_h_8 := h_h_7.below hb
  have h_i_8 := h_i_7.below hb
  have h_s_8 := h_s_7.below hb
  clear hb B7 h_l_7 h_e_7 h_f_7 h_g_7 h_h_7 h_i_7 h_s_7
  obtain rfl : 2 = n_r := h_r_8.len
  go_wp2_with fail
  have c := Strike_any w8 h_l_8.rd danS
  rw [ex_m] at c
  refine c.mono ?_
  rintro e w9 ⟨a_m, n_m, c_m, rfl, h_m_9, hb⟩
  clear c
  have B9 := B8.trans (hb.mono B8.size)
  have h_l_9 := h_l_8.below hb
  have h_e_9 := h_e_8.below hb
  have h_f_9 := h_f_8.below hb
  have h_g_9 := h_g_8.below hb
  have h_h_9 := h_h_8.below hb
  have h_i_9 := h_i_8.below hb
  have h_s_9 := h_s_8.below hb
  have h_r_9 := h_r_8.below hb
  clear hb B8 h_l_8 h_e_8 h_f_8 h_g_8 h_h_8 h_i_8 h_s_8 h_r_8
  go_wp2_with fail
  have c := Find_any w9 h_l_9.rd danS
  rw [ex_n] at c
  refine c.mono ?_
  rintro e w10 ⟨rfl, hb⟩
  clear c
  have B10 := B9.trans (hb.mono B9.size)
  have h_l_10 := h_l_9.below hb
  have h_s_10 := h_s_9.below hb
  have h_r_10 := h_r_9.below hb
  clear hb B9 h_l_9 h_s_9 h_r_9
  have hb := below_al w10 (.cells #[.string (zeroVQ).nm, .int .i64 (zeroVQ).pc, .int .u8 (((zeroVQ).st : Nat) : Int)] 32)
  have B11 := B10.trans (hb.mono B10.size)
  have h_l_11 := h_l_10.below hb
  have h_s_11 := h_s_10.below hb
  have h_r_11 := h_r_10.below hb
  clear hb B10 h_l_10 h_s_10 h_r_10
  have h_n_11 := PRow.new 32 w10 #[.string (zeroVQ).nm, .int .i64 (zeroVQ).pc, .int .u8 (((zeroVQ).st : Nat) : Int)]
  go_wp2_with first | refine wpList_store_new rfl 32 _ _ rfl atVot _ _ _ rfl rfl rfl rfl (vot_one (zeroVQ)) ?_
  generalize (w10.alloc (.cells #[.string (zeroVQ).nm, .int .i64 (zeroVQ).pc, .int .u8 (((zeroVQ).st : Nat) : Int)] 32)) = w11 at *
  have c := Count_any w11 h_l_11.rd 8 (by decide) (by decide)
  rw [ex_o] at c
  refine c.mono ?_
  rintro e w12 ⟨rfl, hb⟩
  clear c
  have B12 := B11.trans (hb.mono B11.size)
  have h_l_12 := h_l_11.below hb
  have h_s_12 := h_s_11.below hb
  have h_r_12 := h_r_11.below hb
  clear hb B11 h_l_11 h_s_11 h_r_11
  have hb := below_al w12 (.cells #[.int .i64 (((((0, 0, 0, 0) : Nat × Nat × Nat × Nat)).1 : Nat) : Int), .int .i64 (((((0, 0, 0, 0) : Nat × Nat × Nat × Nat)).2.1 : Nat) : Int), .int .i64 (((((0, 0, 0, 0) : Nat × Nat × Nat × Nat)).2.2.1 : Nat) : Int), .int .i64 (((((0, 0, 0, 0) : Nat × Nat × Nat × Nat)).2.2.2 : Nat) : Int)] 47)
  have B13 := B12.trans (hb.mono B12.size)
  have h_l_13 := h_l_12.below hb
  have h_s_13 := h_s_12.below hb
  have h_r_13 := h_r_12.below hb
  clear hb B12 h_l_12 h_s_12 h_r_12
  have h_o_13 := PRow.new 47 w12 #[.int .i64 (((((0, 0, 0, 0) : Nat × Nat × Nat × Nat)).1 : Nat) : Int), .int .i64 (((((0, 0, 0, 0) : Nat × Nat × Nat × Nat)).2.1 : Nat) : Int), .int .i64 (((((0, 0, 0, 0) : Nat × Nat × Nat × Nat)).2.2.1 : Nat) : Int), .int .i64 (((((0, 0, 0, 0) : Nat × Nat × Nat × Nat)).2.2.2 : Nat) : Int)]
  go_wp2_with first | refine wpList_store_new rfl 47 _ _ rfl atTur _ _ _ rfl rfl rfl rfl (tur_one _ _ _ _) ?_
  generalize (w12.alloc (.cells #[.int .i64 (((((0, 0, 0, 0) : Nat × Nat × Nat × Nat)).1 : Nat) : Int), .int .i64 (((((0, 0, 0, 0) : Nat × Nat × Nat × Nat)).2.1 : Nat) : Int), .int .i64 (((((0, 0, 0, 0) : Nat × Nat × Nat × Nat)).2.2.1 : Nat) : Int), .int .i64 (((((0, 0, 0, 0) : Nat × Nat × Nat × Nat)).2.2.2 : Nat) : Int)] 47)) = w13 at *
  have c := Count_any w13 h_l_13.rd (-2) (by decide) (by decide)
  rw [ex_p] at c
  refine c.mono ?_
  rintro e w14 ⟨rfl, hb⟩
  clear c
  have B14 := B13.trans (hb.mono B13.size)
  have h_l_14 := h_l_13.below hb
  have h_s_14 := h_s_13.below hb
  have h_r_14 := h_r_13.below hb
  clear hb B13 h_l_13 h_s_13 h_r_13
  have hb := below_al w14 (.cells #[.int .i64 (((((0, 0, 0, 0) : Nat × Nat × Nat × Nat)).1 : Nat) : Int), .int .i64 (((((0, 0, 0, 0) : Nat × Nat × Nat × Nat)).2.1 : Nat) : Int), .int .i64 (((((0, 0, 0, 0) : Nat × Nat × Nat × Nat)).2.2.1 : Nat) : Int), .int .i64 (((((0, 0, 0, 0) : Nat × Nat × Nat × Nat)).2.2.2 : Nat) : Int)] 47)
  have B15 := B14.trans (hb.mono B14.size)
  have h_l_15 := h_l_14.below hb
  have h_s_15 := h_s_14.below hb
  have h_r_15 := h_r_14.below hb
  clear hb B14 h_l_14 h_s_14 h_r_14
  have h_p_15 := PRow.new 47 w14 #[.int .i64 (((((0, 0, 0, 0) : Nat × Nat × Nat × Nat)).1 : Nat) : Int), .int .i64 (((((0, 0, 0, 0) : Nat × Nat × Nat × Nat)).2.1 : Nat) : Int), .int .i64 (((((0, 0, 0, 0) : Nat × Nat × Nat × Nat)).2.2.1 : Nat) : Int), .int .i64 (((((0, 0, 0, 0) : Nat × Nat × Nat × Nat)).2.2.2 : Nat) : Int)]
  go_upto_region 13 with (first | refine wpList_store_new rfl 47 _ _ rfl atTur _ _ _ rfl rfl rfl rfl (tur_one _ _ _ _) ?_)
  generalize (w14.alloc (.cells #[.int .i64 (((((0, 0, 0, 0) : Nat × Nat × Nat × Nat)).1 : Nat) : Int), .int .i64 (((((0, 0, 0, 0) : Nat × Nat × Nat × Nat)).2.1 : Nat) : Int), .int .i64 (((((0, 0, 0, 0) : Nat × Nat × Nat × Nat)).2.2.1 : Nat) : Int), .int .i64 (((((0, 0, 0, 0) : Nat × Nat × Nat × Nat)).2.2.2 : Nat) : Int)] 47)) = w15 at *
  have mk := fun w => run_make64 w
  have HLK := Lib.hid h_l_15
  have HSK := Lib.hid h_s_15
  have HRK := Lib.hid h_r_15
  have HBK := Lib.hid B15
  have PG := PRow.new 32 w15 (vflat (midV 0)).toArray
  clear h_l_15 h_s_15 h_r_15 B15
  go_wp2_with fail
  clear mk
  obtain ⟨g, hg⟩ : ∃ g, g = w15.heap.size := ⟨_, rfl⟩
  have HG := Lib.hid hg
  rw [← hg] at PG ⊢
  clear hg
  generalize w15.alloc (.cells (vflat (midV 0)).toArray 32) = wg at *
  go_loopw [26] (fun j wr => ∃ i : Nat, i ≤ 64 ∧ j = .int .i64 (i : Nat) ∧ PRow 32 w15 wr g (vflat (midV i)).toArray) (fun j _ => 64 - (intOf j).toNat)
  case atStart => exact ⟨0, by decide, rfl, PG⟩
  clear PG
  case round =>
    rename World => wr
    obtain ⟨i, hi, rfl, PS⟩ := hrel
    by_cases hlt : i < 64
    case pos =>
      have hd : decide (((i : Nat) : Int) < 64) = true := decide_eq_true (by omega)
      have q1 : IntKind.u8.wrap ((i : Nat) : Int) = ((i : Nat) : Int) := by rw [IntKind.wrap_u8]; omega
      have q2 : IntKind.u8.wrap (33 + ((i : Nat) : Int)) = 33 + ((i : Nat) : Int) := by rw [IntKind.wrap_u8]; omega
      have hL := below_al wr (.cells #[.int .u8 (33 + ((i : Nat) : Int))] 5)
      have e33 : ((33 + i : Nat) : Int) = 33 + ((i : Nat) : Int) := by omega
      have hrd : Rd .u8 (wr.alloc (.cells #[.int .u8 ((33 + i : Nat) : Int)] 5)) (some ⟨wr.heap.size, 0, none⟩) 1 1 [33 + i] := rd_lit .u8 wr [33 + i] 5 1 rfl (by decide) (fun y hy => by simp at hy; subst hy; show 33 + i < 256; omega)
      rw [e33] at hrd
      clear e33
      have cv := convB hrd
      have PS2 := PS.later hL
      have hsz : i * 3 + 3 ≤ (vflat (midV i)).toArray.size := by simp [vflat_length, midV_len]; omega
      go_wp2_with first | refine wpList_store_part rfl 32 _ _ rfl atVot _ _ _ PS2.row rfl rfl rfl hsz (vot_one ⟨strB [33 + i], 0, 1⟩) ?_
      have h5 := PS2.put ((vflat (midV i)).toArray.toList.take (i * 3) ++ (vcells ⟨strB [33 + i], 0, 1⟩) ++ (vflat (midV i)).toArray.toList.drop (i * 3 + 3)).toArray
      have h6 : (vflat (midV i)).toArray.toList.take (i * 3) ++ (vcells ⟨strB [33 + i], 0, 1⟩) ++ (vflat (midV i)).toArray.toList.drop (i * 3 + 3) = vflat (midV (i + 1)) := by
        rw [midV_step hlt, vflat_setV _ _ _ (by rw [midV_len]; exact hlt)]
        rfl
      have h7 := h5
      rw [h6] at h7
      have h8 : (vflat (midV i)).take (i * 3) ++ Value.string (strB [33 + i]) :: Value.int .i64 0 :: Value.int .u8 1 :: (vflat (midV i)).drop (i * 3 + 3) = vflat (midV (i + 1)) := by rw [← h6]; simp [vcells]
      clear cv hrd
      go_roundw
      case rel =>
        refine ⟨i + 1, by omega, by go_num, ?_⟩
        rw [h8]
        exact h7
      case measure => simp [intOf]; omega
    case neg =>
      obtain rfl : 64 = i := by omega
      rw [midV_all] at PS
      have BT := PS.below
      have hfl : (vflat fullV).length = 192 := rfl
      have B500 := HBK.out.trans (BT.mono HBK.out.size)
      have h_l_500 := HLK.out.below BT
      have h_s_500 := HSK.out.below BT
      have h_r_500 := HRK.out.below BT
      have h_u_500 : OwV w15.heap.size wr (some ⟨g, 0, none⟩) 64 64 fullV := owV_of PS.row PS.lo rfl (Nat.le_refl _) (by decide) rfl (List.take_of_length_le (Nat.le_of_eq hfl)) fullV_wf
      clear BT PS hfl
      go_wp2_with fail
      have c := Add_any wr h_u_500.rd zzS 0 (by decide) (by decide)
      rw [ex_q] at c
      refine c.mono ?_
      rintro e w501 ⟨a_q, n_q, c_q, rfl, h_q_501, hb⟩
      clear c
      have B501 := B500.trans (hb.mono B500.size)
      have h_l_501 := h_l_500.below hb
      have h_s_501 := h_s_500.below hb
      have h_r_501 := h_r_500.below hb
      have h_u_501 := h_u_500.below hb
      clear hb B500 h_l_500 h_s_500 h_r_500 h_u_500
      have hrz := rdV_new w501 ⟨zzS, 0, 1⟩ ⟨by decide, by decide, by decide⟩
      have hbz := below_al w501 (.cells #[.string zzS, .int .i64 0, .int .u8 1] 32)
      have hou := (h_u_501.below hbz).rd
      go_wp2_with first | (at_builtin; refine wpList_appVgrow rfl _ _ rfl rfl hou rfl hrz (by decide) (by decide) ?_; intro a_z c_z wz hown hgz; refine Hid.out ?_)
      have hb := hbz.trans (hgz.mono hbz.size)
      clear hbz hgz hrz hou
      have B502 := B501.trans (hb.mono B501.size)
      have h_l_502 := h_l_501.below hb
      have h_s_502 := h_s_501.below hb
      have h_r_502 := h_r_501.below hb
      have h_u_502 := h_u_501.below hb
      clear hb B501 h_l_501 h_s_501 h_r_501 h_u_501
      have h_z_502 := hown
      clear hown
      refine Lib.hid ?_
      go_wp2_with fail
      have c := Add_any wz h_z_502.rd zzzS 0 (by decide) (by decide)
      rw [ex_t] at c
      refine c.mono ?_
      rintro e w503 ⟨a_t, n_t, c_t, rfl, h_t_503, hb⟩
      clear c
      have B503 := B502.trans (hb.mono B502.size)
      have h_l_503 := h_l_502.below hb
      have h_s_503 := h_s_502.below hb
      have h_r_503 := h_r_502.below hb
      have h_u_503 := h_u_502.below hb
      have h_z_503 := h_z_502.below hb
      clear hb B502 h_l_502 h_s_502 h_r_502 h_u_502 h_z_502
      have hb := below_al w503 (.cells #[.string ⟨#[98]⟩, .int .i64 0, .int .u8 1, .string ⟨#[97]⟩, .int .i64 0, .int .u8 1] 32)
      have B504 := B503.trans (hb.mono B503.size)
      have h_l_504 := h_l_503.below hb
      have h_s_504 := h_s_503.below hb
      have h_r_504 := h_r_503.below hb
      have h_u_504 := h_u_503.below hb
      clear hb B503 h_l_503 h_s_503 h_r_503 h_u_503
      have h_b_504 := show RdV (w503.alloc (.cells #[.string ⟨#[98]⟩, .int .i64 0, .int .u8 1, .string ⟨#[97]⟩, .int .i64 0, .int .u8 1] 32)) (some ⟨w503.heap.size, 0, none⟩) 2 2 [⟨bS, 0, 1⟩, ⟨aS, 0, 1⟩] from rdV_pair w503 ⟨bS, 0, 1⟩ ⟨aS, 0, 1⟩ ⟨by decide, by decide, by decide⟩ ⟨by decide, by decide, by decide⟩
      go_wp2_with fail
      generalize (w503.alloc (.cells #[.string ⟨#[98]⟩, .int .i64 0, .int .u8 1, .string ⟨#[97]⟩, .int .i64 0, .int .u8 1] 32)) = w504 at *
      have c := Add_any w504 h_b_504 cS 0 (by decide) (by decide)
      rw [ex_u] at c
      refine c.mono ?_
      rintro e w505 ⟨a_v, n_v, c_v, rfl, h_v_505, hb⟩
      clear c
      have B505 := B504.trans (hb.mono B504.size)
      have h_l_505 := h_l_504.below hb
      have h_s_505 := h_s_504.below hb
      have h_r_505 := h_r_504.below hb
      have h_u_505 := h_u_504.below hb
      have h_b_505 := h_b_504.below hb
      clear hb B504 h_l_504 h_s_504 h_r_504 h_u_504 h_b_504
      have hb := below_al w505 (.cells #[.int .u8 0, .int .u8 1, .int .u8 0] 5)
      have B506 := B505.trans (hb.mono B505.size)
      have h_l_506 := h_l_505.below hb
      have h_s_506 := h_s_505.below hb
      have h_r_506 := h_r_505.below hb
      have h_u_506 := h_u_505.below hb
      clear hb B505 h_l_505 h_s_505 h_r_505 h_u_505
      have h_y_506 := show Rd .u8 (w505.alloc (.cells #[.int .u8 0, .int .u8 1, .int .u8 0] 5)) (some ⟨w505.heap.size, 0, none⟩) 3 3 [0, 1, 0] from rd_lit .u8 w505 [0, 1, 0] 5 3 rfl (by decide) (by decide)
      go_wp2_with fail
      generalize (w505.alloc (.cells #[.int .u8 0, .int .u8 1, .int .u8 0] 5)) = w506 at *
      have c := Read_any w506 h_y_506 (by decide)
      rw [ex_v] at c
      refine c.mono ?_
      rintro e w507 ⟨a_x, n_x, c_x, rfl, h_x_507, hb⟩
      clear c
      have B507 := B506.trans (hb.mono B506.size)
      have h_l_507 := h_l_506.below hb
      have h_s_507 := h_s_506.below hb
      have h_r_507 := h_r_506.below hb
      have h_u_507 := h_u_506.below hb
      have h_y_507 := h_y_506.below hb
      clear hb B506 h_l_506 h_s_506 h_r_506 h_u_506 h_y_506
      go_wp2_with fail
      have c := aliveR_any w507
      refine c.mono ?_
      rintro e w508 ⟨rfl, hb⟩
      clear c
      have B508 := B507.trans (hb.mono B507.size)
      have h_l_508 := h_l_507.below hb
      have h_s_508 := h_s_507.below hb
      have h_r_508 := h_r_507.below hb
      have h_u_508 := h_u_507.below hb
      clear hb B507 h_l_507 h_s_507 h_r_507 h_u_507
      obtain ⟨bs, os, rfl, hcs⟩ := h_s_508.rd.addr (by decide)
      obtain ⟨-, -, ks⟩ := hcs 0 (by decide)
      replace ks : World.cell? _ ⟨bs, os + 2, none⟩ = some (.int .u8 4) := ks
      clear hcs
      go_wp2_with fail
      have c := Same_any w508 h_r_508.rd h_l_508.rd
      rw [show decide (twoV = twoV) = true from decide_eq_true rfl] at c
      refine c.mono ?_
      rintro e w509 ⟨rfl, hb⟩
      clear c
      have B509 := B508.trans (hb.mono B508.size)
      have h_l_509 := h_l_508.below hb
      have h_s_509 := h_s_508.below hb
      have h_r_509 := h_r_508.below hb
      have h_u_509 := h_u_508.below hb
      clear hb B508 h_l_508 h_s_508 h_r_508 h_u_508
      go_wp2_with fail
      have c := Check_any w509 h_u_509.rd
      rw [ex_full] at c
      refine c.mono ?_
      rintro e w510 ⟨rfl, hb⟩
      clear c
      have B510 := B509.trans (hb.mono B509.size)
      have h_l_510 := h_l_509.below hb
      have h_s_510 := h_s_509.below hb
      have h_r_510 := h_r_509.below hb
      have h_u_510 := h_u_509.below hb
      clear hb B509 h_l_509 h_s_509 h_r_509 h_u_509
      go_wp2_with fail
      go_ret
      exact ⟨rfl, B510⟩

end Go.Proofs.Ytnjkfjecnicccaa
