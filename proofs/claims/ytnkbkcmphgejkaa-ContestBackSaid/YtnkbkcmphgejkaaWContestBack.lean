/- The walk of the law ContestBack: it returns true and turns nothing that was there. No condition. Printed by gen_conlaws.py. -/
import Derived.Test.YtnkbkcmphgejkaaConT
import Derived.BigQuiet
namespace Go.Proofs.Ytnkbkcmphgejkaa
open Go.RowKit Go.Suf
set_option linter.unusedVariables false
set_option linter.unusedSimpArgs false

set_option maxRecDepth 100000 in
set_option maxHeartbeats 8000000 in
theorem contestBack_walk (w : World) (nm_c : ByteArray) (nl_c : nm_c.size ≤ maxLen) {a_c : Option Addr} {n_c c_c : Nat} {ss_c : List ByteArray} (h_cs : RdS w a_c n_c c_c ss_c) (le_c : ∀ s ∈ ss_c, s.size ≤ maxLen) (se_c : Int) (ba_c : -9223372036854775808 ≤ se_c) (bb_c : se_c ≤ 9223372036854775807) (ru_c : Nat) (rb_c : ru_c < 256) {a_b : Option Addr} {n_b c_b : Nat} {xs_b : List Nat} (h_b : Rd .u8 w a_b n_b c_b xs_b) :
    Calls Try.prog 8 #[.agg #[.string nm_c, .slice a_c n_c c_c, .int .i64 se_c, .int .u8 ((ru_c : Nat) : Int)], .slice a_b n_b c_b] w fun e w' => e = .returned (.bool true) ∧ Below w.heap.size w w' := by
  obtain ⟨K, ke, hK⟩ : ∃ K ke, readC xs_b = (K, ke) := ⟨_, _, rfl⟩
  have HK := Lib.hid hK
  have hrs := rule_lt h_b.bd
  rw [hK] at hrs
  have hbr := bytes_read h_b.bd
  rw [hK] at hbr
  have HR := Lib.hid hrs
  have HBR := Lib.hid hbr
  clear hK hrs hbr
  have HL := Lib.hid h_b.len
  have hlt := h_b.lt
  obtain ⟨ck, hck⟩ : ∃ ck, checkC nm_c ss_c se_c ru_c = ck := ⟨_, rfl⟩
  have HC := Lib.hid hck
  clear hck
  have B0 : Below w.heap.size w w := Below.refl _ _
  have h_cs_0 := h_cs
  have h_b_0 := h_b
  go_enter Try.func8, Try.ntmps8
  have hb := below_al w (.cells #[.string nm_c, .slice a_c n_c c_c, .int .i64 se_c, .int .u8 ((ru_c : Nat) : Int)] 40)
  have B1 := B0.trans (hb.mono B0.size)
  have h_cs_1 := h_cs_0.below hb
  have h_b_1 := h_b_0.below hb
  clear hb B0 h_cs_0 h_b_0
  have h_c_1 := Has.new w #[.string nm_c, .slice a_c n_c c_c, .int .i64 se_c, .int .u8 ((ru_c : Nat) : Int)] 40
  go_wp2_with fail
  generalize (w.alloc (.cells #[.string nm_c, .slice a_c n_c c_c, .int .i64 se_c, .int .u8 ((ru_c : Nat) : Int)] 40)) = w1 at *
  have c := alive_any w1
  refine c.mono ?_
  rintro e w2 ⟨rfl, hb⟩
  clear c
  have B2 := B1.trans (hb.mono B1.size)
  have h_cs_2 := h_cs_1.below hb
  have h_b_2 := h_b_1.below hb
  have h_c_2 := h_c_1.later hb
  clear hb B1 h_cs_1 h_b_1 h_c_1
  have k_c_0 := h_c_2.cell 0 _ rfl
  have k_c_1 := h_c_2.cell 1 _ rfl
  have k_c_2 := h_c_2.cell 2 _ rfl
  have k_c_3 := h_c_2.cell 3 _ rfl
  go_wp2_with fail
  clear k_c_0 k_c_1 k_c_2 k_c_3
  have c := Great_any w2 nm_c h_cs_2 se_c ru_c rb_c
  refine c.mono ?_
  rintro e w3 ⟨rfl, hb⟩
  clear c
  have B3 := B2.trans (hb.mono B2.size)
  have h_cs_3 := h_cs_2.below hb
  have h_b_3 := h_b_2.below hb
  have h_c_3 := h_c_2.later hb
  clear hb B2 h_cs_2 h_b_2 h_c_2
  have LG_c := Lib.hid (great_le (nm := nm_c) (ss := ss_c))
  generalize greatC nm_c ss_c = gr_c at *
  cases gr_c with
  | true =>
    go_wp2_with fail
    go_ret
    exact ⟨rfl, B3⟩
  | false =>
    by_cases hbig : 20000 < n_b
    case pos =>
      go_wp2_with fail
      go_ret
      exact ⟨rfl, B3⟩
    have hbi : decide ((n_b : Int) > 20000) = false := decide_eq_false (by omega)
    by_cases hc : ck = 0
    case pos =>
      subst hc
      obtain ⟨xf, hxf⟩ : ∃ xf, bytesC nm_c ss_c se_c ru_c = (xf, 0) := ⟨_, (bytesC_ok HC.out).1⟩
      have HX := Lib.hid hxf
      have hr := read_bytes HC.out
      have hj := (bytesC_ok HC.out).2
      rw [← (bytesC_ok HC.out).1, hxf] at hj
      have hlj := joinX_length (fieldsC nm_c ss_c se_c.toNat ru_c)
      rw [hj] at hlj
      rw [hxf] at hr
      obtain ⟨sn, hsn⟩ : ∃ sn, se_c.toNat = sn := ⟨_, rfl⟩
      have hsz := (seats_of_check HC.out).1
      rw [hsn] at hr hsz
      have HSZ := Lib.hid hsz
      have HXR := Lib.hid hr
      have HLJ := Lib.hid hlj
      clear hsz hsn
      clear hr hj hlj hxf
      have k_c_0 := h_c_3.cell 0 _ rfl
      have k_c_1 := h_c_3.cell 1 _ rfl
      have k_c_2 := h_c_3.cell 2 _ rfl
      have k_c_3 := h_c_3.cell 3 _ rfl
      go_wp2_with fail
      clear k_c_0 k_c_1 k_c_2 k_c_3
      have c := Bytes_any w3 nm_c h_cs_3 se_c ba_c bb_c ru_c rb_c
      rw [HX.out] at c
      refine c.mono ?_
      rintro e w4 ⟨a_x, n_x, c_x, rfl, h_x_4, hb⟩
      clear c
      have B4 := B3.trans (hb.mono B3.size)
      have h_cs_4 := h_cs_3.below hb
      have h_b_4 := h_b_3.below hb
      have h_c_4 := h_c_3.later hb
      clear hb B3 h_cs_3 h_b_3 h_c_3
      have HXN := Lib.hid h_x_4.len
      go_wp2_with fail
      have c := Read_any w4 h_x_4.rd (by have := HLJ.out; have := HXN.out; omega)
      rw [HXR.out] at c
      refine c.mono ?_
      rintro e w5 ⟨a_d, n_d, c_d, rfl, h_ds_5, hb⟩
      clear c
      have B5 := B4.trans (hb.mono B4.size)
      have h_cs_5 := h_cs_4.below hb
      have h_b_5 := h_b_4.below hb
      have h_c_5 := h_c_4.later hb
      have h_x_5 := h_x_4.below hb
      clear hb B4 h_cs_4 h_b_4 h_c_4 h_x_4
      have hb := below_al w5 (.cells #[.string ((⟨nm_c, ss_c, sn, ru_c⟩ : CQ)).nm, .slice a_d n_d c_d, .int .i64 ((((⟨nm_c, ss_c, sn, ru_c⟩ : CQ)).seats : Nat) : Int), .int .u8 ((((⟨nm_c, ss_c, sn, ru_c⟩ : CQ)).rule : Nat) : Int)] 40)
      have B6 := B5.trans (hb.mono B5.size)
      have h_cs_6 := h_cs_5.below hb
      have h_b_6 := h_b_5.below hb
      have h_c_6 := h_c_5.later hb
      have h_x_6 := h_x_5.below hb
      have h_ds_6 := h_ds_5.below hb
      clear hb B5 h_cs_5 h_b_5 h_c_5 h_x_5 h_ds_5
      have h_d_6 := Has.new w5 #[.string ((⟨nm_c, ss_c, sn, ru_c⟩ : CQ)).nm, .slice a_d n_d c_d, .int .i64 ((((⟨nm_c, ss_c, sn, ru_c⟩ : CQ)).seats : Nat) : Int), .int .u8 ((((⟨nm_c, ss_c, sn, ru_c⟩ : CQ)).rule : Nat) : Int)] 40
      have k_c_0 := h_c_6.cell 0 _ rfl
      have k_c_1 := h_c_6.cell 1 _ rfl
      have k_c_2 := h_c_6.cell 2 _ rfl
      have k_c_3 := h_c_6.cell 3 _ rfl
      have k_d_0 := h_d_6.cell 0 _ rfl
      have k_d_1 := h_d_6.cell 1 _ rfl
      have k_d_2 := h_d_6.cell 2 _ rfl
      have k_d_3 := h_d_6.cell 3 _ rfl
      go_wp2_with first | refine wpList_store_new rfl 40 _ _ rfl atCon _ _ _ rfl rfl rfl rfl (con_one _ _ _ _ _ _) ?_
      clear k_c_0 k_c_1 k_c_2 k_c_3 k_d_0 k_d_1 k_d_2 k_d_3
      generalize (w5.alloc (.cells #[.string ((⟨nm_c, ss_c, sn, ru_c⟩ : CQ)).nm, .slice a_d n_d c_d, .int .i64 ((((⟨nm_c, ss_c, sn, ru_c⟩ : CQ)).seats : Nat) : Int), .int .u8 ((((⟨nm_c, ss_c, sn, ru_c⟩ : CQ)).rule : Nat) : Int)] 40)) = w6 at *
      have c := Same_any w6 nm_c nm_c h_cs_6 h_ds_6 se_c sn ru_c ru_c
      rw [show sameC nm_c ss_c se_c ru_c nm_c ss_c ((sn : Nat) : Int) ru_c = true by rw [HSZ.out]; exact same_self _ _ _ _] at c
      refine c.mono ?_
      rintro e w7 ⟨rfl, hb⟩
      clear c
      have B7 := B6.trans (hb.mono B6.size)
      have h_cs_7 := h_cs_6.below hb
      have h_b_7 := h_b_6.below hb
      have h_c_7 := h_c_6.later hb
      have h_x_7 := h_x_6.below hb
      have h_ds_7 := h_ds_6.below hb
      have h_d_7 := h_d_6.later hb
      clear hb B6 h_cs_6 h_b_6 h_c_6 h_x_6 h_ds_6 h_d_6
      go_wp2_with fail
      have c := Read_any w7 h_b_7 (by omega)
      rw [HK.out] at c
      refine c.mono ?_
      rintro e w8 ⟨a_y, n_y, c_y, rfl, h_ys_8, hb⟩
      clear c
      have B8 := B7.trans (hb.mono B7.size)
      have h_cs_8 := h_cs_7.below hb
      have h_b_8 := h_b_7.below hb
      have h_c_8 := h_c_7.later hb
      have h_x_8 := h_x_7.below hb
      have h_ds_8 := h_ds_7.below hb
      have h_d_8 := h_d_7.later hb
      clear hb B7 h_cs_7 h_b_7 h_c_7 h_x_7 h_ds_7 h_d_7
      have hb := below_al w8 (.cells #[.string (K).nm, .slice a_y n_y c_y, .int .i64 (((K).seats : Nat) : Int), .int .u8 (((K).rule : Nat) : Int)] 40)
      have B9 := B8.trans (hb.mono B8.size)
      have h_cs_9 := h_cs_8.below hb
      have h_b_9 := h_b_8.below hb
      have h_c_9 := h_c_8.later hb
      have h_x_9 := h_x_8.below hb
      have h_ds_9 := h_ds_8.below hb
      have h_d_9 := h_d_8.later hb
      have h_ys_9 := h_ys_8.below hb
      clear hb B8 h_cs_8 h_b_8 h_c_8 h_x_8 h_ds_8 h_d_8 h_ys_8
      have h_y_9 := Has.new w8 #[.string (K).nm, .slice a_y n_y c_y, .int .i64 (((K).seats : Nat) : Int), .int .u8 (((K).rule : Nat) : Int)] 40
      rcases HBR.out with ⟨hk0, hk1, hk2⟩ | ⟨hk0, hk1⟩
      ·
        have hk0 : ke = 0 := hk0
        subst hk0
        have HB := Lib.hid hk2
        clear hk1 hk2
        have k_y_0 := h_y_9.cell 0 _ rfl
        have k_y_1 := h_y_9.cell 1 _ rfl
        have k_y_2 := h_y_9.cell 2 _ rfl
        have k_y_3 := h_y_9.cell 3 _ rfl
        go_wp2_with first | refine wpList_store_new rfl 40 _ _ rfl atCon _ _ _ rfl rfl rfl rfl (con_one _ _ _ _ _ _) ?_
        clear k_y_0 k_y_1 k_y_2 k_y_3
        generalize (w8.alloc (.cells #[.string (K).nm, .slice a_y n_y c_y, .int .i64 (((K).seats : Nat) : Int), .int .u8 (((K).rule : Nat) : Int)] 40)) = w9 at *
        have c := Bytes_any w9 K.nm h_ys_9 K.seats (by omega) (by have := HR.out.2; omega) K.rule HR.out.1
        rw [HB.out] at c
        refine c.mono ?_
        rintro e w10 ⟨a_z, n_z, c_z, rfl, h_z_10, hb⟩
        clear c
        have B10 := B9.trans (hb.mono B9.size)
        have h_cs_10 := h_cs_9.below hb
        have h_b_10 := h_b_9.below hb
        have h_c_10 := h_c_9.later hb
        have h_x_10 := h_x_9.below hb
        have h_ds_10 := h_ds_9.below hb
        have h_d_10 := h_d_9.later hb
        have h_ys_10 := h_ys_9.below hb
        have h_y_10 := h_y_9.later hb
        clear hb B9 h_cs_9 h_b_9 h_c_9 h_x_9 h_ds_9 h_d_9 h_ys_9 h_y_9
        have cv_z := convB h_z_10.rd
        have cv_b := convB h_b_10
        go_wp2_with fail
        go_ret
        exact ⟨rfl, B10⟩
      ·
        have HKZ : Hid (K = zeroK) := Lib.hid hk1
        clear hk1
        replace hk0 : ¬ ke = 0 := hk0
        have k_y_0 := h_y_9.cell 0 _ rfl
        have k_y_1 := h_y_9.cell 1 _ rfl
        have k_y_2 := h_y_9.cell 2 _ rfl
        have k_y_3 := h_y_9.cell 3 _ rfl
        go_wp2_with first | refine wpList_store_new rfl 40 _ _ rfl atCon _ _ _ rfl rfl rfl rfl (con_one _ _ _ _ _ _) ?_
        clear k_y_0 k_y_1 k_y_2 k_y_3
        generalize (w8.alloc (.cells #[.string (K).nm, .slice a_y n_y c_y, .int .i64 (((K).seats : Nat) : Int), .int .u8 (((K).rule : Nat) : Int)] 40)) = w9 at *
        have c := Bytes_any w9 K.nm h_ys_9 K.seats (by omega) (by have := HR.out.2; omega) K.rule HR.out.1
        refine c.mono ?_
        rintro e w10 ⟨a_z, n_z, c_z, rfl, h_z_10, hb⟩
        clear c
        have B10 := B9.trans (hb.mono B9.size)
        have h_cs_10 := h_cs_9.below hb
        have h_b_10 := h_b_9.below hb
        have h_c_10 := h_c_9.later hb
        have h_x_10 := h_x_9.below hb
        have h_ds_10 := h_ds_9.below hb
        have h_d_10 := h_d_9.later hb
        have h_ys_10 := h_ys_9.below hb
        have h_y_10 := h_y_9.later hb
        clear hb B9 h_cs_9 h_b_9 h_c_9 h_x_9 h_ds_9 h_d_9 h_ys_9 h_y_9
        generalize bytesC K.nm K.ss ((K.seats : Nat) : Int) K.rule = bz at *
        have k_y_0 := h_y_10.cell 0 _ rfl
        have k_y_1 := h_y_10.cell 1 _ rfl
        have k_y_2 := h_y_10.cell 2 _ rfl
        have k_y_3 := h_y_10.cell 3 _ rfl
        go_wp2_with fail
        clear k_y_0 k_y_1 k_y_2 k_y_3
        have c := Same_any w10 K.nm ⟨#[]⟩ (a' := none) (n' := 0) (cap' := 0) (ss' := []) h_ys_10 ⟨rfl, Sl.empty _ _ _ (Nat.zero_le _) (fun _ => rfl)⟩ K.seats 0 K.rule 0
        rw [show sameC K.nm K.ss ((K.seats : Nat) : Int) K.rule ⟨#[]⟩ [] 0 0 = true by rw [HKZ.out]; exact same_self _ _ _ _] at c
        refine c.mono ?_
        rintro e w11 ⟨rfl, hb⟩
        clear c
        have B11 := B10.trans (hb.mono B10.size)
        have h_cs_11 := h_cs_10.below hb
        have h_b_11 := h_b_10.below hb
        have h_c_11 := h_c_10.later hb
        have h_x_11 := h_x_10.below hb
        have h_ds_11 := h_ds_10.below hb
        have h_d_11 := h_d_10.later hb
        have h_ys_11 := h_ys_10.below hb
        have h_y_11 := h_y_10.later hb
        have h_z_11 := h_z_10.below hb
        clear hb B10 h_cs_10 h_b_10 h_c_10 h_x_10 h_ds_10 h_d_10 h_ys_10 h_y_10 h_z_10
        go_wp2_with fail
        go_ret
        exact ⟨rfl, B11⟩
    case neg =>
      have HX : Hid (bytesC nm_c ss_c se_c ru_c = ([], ck)) := Lib.hid (by rw [bytesC, HC.out, if_neg hc])
      obtain ⟨K0, k0, hK0⟩ : ∃ K0 k0, readC [] = (K0, k0) := ⟨_, _, rfl⟩
      have HK0 := Lib.hid hK0
      clear hK0
      have k_c_0 := h_c_3.cell 0 _ rfl
      have k_c_1 := h_c_3.cell 1 _ rfl
      have k_c_2 := h_c_3.cell 2 _ rfl
      have k_c_3 := h_c_3.cell 3 _ rfl
      go_wp2_with fail
      clear k_c_0 k_c_1 k_c_2 k_c_3
      have c := Bytes_any w3 nm_c h_cs_3 se_c ba_c bb_c ru_c rb_c
      rw [HX.out] at c
      refine c.mono ?_
      rintro e w4 ⟨a_x, n_x, c_x, rfl, h_x_4, hb⟩
      clear c
      have B4 := B3.trans (hb.mono B3.size)
      have h_cs_4 := h_cs_3.below hb
      have h_b_4 := h_b_3.below hb
      have h_c_4 := h_c_3.later hb
      clear hb B3 h_cs_3 h_b_3 h_c_3
      obtain rfl : n_x = 0 := h_x_4.len.symm
      go_wp2_with fail
      have c := Read_any w4 h_x_4.rd (by omega)
      rw [HK0.out] at c
      refine c.mono ?_
      rintro e w5 ⟨a_d, n_d, c_d, rfl, h_ds_5, hb⟩
      clear c
      have B5 := B4.trans (hb.mono B4.size)
      have h_cs_5 := h_cs_4.below hb
      have h_b_5 := h_b_4.below hb
      have h_c_5 := h_c_4.later hb
      have h_x_5 := h_x_4.below hb
      clear hb B4 h_cs_4 h_b_4 h_c_4 h_x_4
      have hb := below_al w5 (.cells #[.string (K0).nm, .slice a_d n_d c_d, .int .i64 (((K0).seats : Nat) : Int), .int .u8 (((K0).rule : Nat) : Int)] 40)
      have B6 := B5.trans (hb.mono B5.size)
      have h_cs_6 := h_cs_5.below hb
      have h_b_6 := h_b_5.below hb
      have h_c_6 := h_c_5.later hb
      have h_x_6 := h_x_5.below hb
      have h_ds_6 := h_ds_5.below hb
      clear hb B5 h_cs_5 h_b_5 h_c_5 h_x_5 h_ds_5
      have h_d_6 := Has.new w5 #[.string (K0).nm, .slice a_d n_d c_d, .int .i64 (((K0).seats : Nat) : Int), .int .u8 (((K0).rule : Nat) : Int)] 40
      have k_c_0 := h_c_6.cell 0 _ rfl
      have k_c_1 := h_c_6.cell 1 _ rfl
      have k_c_2 := h_c_6.cell 2 _ rfl
      have k_c_3 := h_c_6.cell 3 _ rfl
      have k_d_0 := h_d_6.cell 0 _ rfl
      have k_d_1 := h_d_6.cell 1 _ rfl
      have k_d_2 := h_d_6.cell 2 _ rfl
      have k_d_3 := h_d_6.cell 3 _ rfl
      go_wp2_with first | refine wpList_store_new rfl 40 _ _ rfl atCon _ _ _ rfl rfl rfl rfl (con_one _ _ _ _ _ _) ?_
      clear k_c_0 k_c_1 k_c_2 k_c_3 k_d_0 k_d_1 k_d_2 k_d_3
      generalize (w5.alloc (.cells #[.string (K0).nm, .slice a_d n_d c_d, .int .i64 (((K0).seats : Nat) : Int), .int .u8 (((K0).rule : Nat) : Int)] 40)) = w6 at *
      have c := Check_any w6 nm_c h_cs_6 se_c ba_c bb_c ru_c rb_c
      rw [HC.out] at c
      refine c.mono ?_
      rintro e w7 ⟨rfl, hb⟩
      clear c
      have B7 := B6.trans (hb.mono B6.size)
      have h_cs_7 := h_cs_6.below hb
      have h_b_7 := h_b_6.below hb
      have h_c_7 := h_c_6.later hb
      have h_x_7 := h_x_6.below hb
      have h_ds_7 := h_ds_6.below hb
      have h_d_7 := h_d_6.later hb
      clear hb B6 h_cs_6 h_b_6 h_c_6 h_x_6 h_ds_6 h_d_6
      go_wp2_with fail
      have c := Read_any w7 h_b_7 (by omega)
      rw [HK.out] at c
      refine c.mono ?_
      rintro e w8 ⟨a_y, n_y, c_y, rfl, h_ys_8, hb⟩
      clear c
      have B8 := B7.trans (hb.mono B7.size)
      have h_cs_8 := h_cs_7.below hb
      have h_b_8 := h_b_7.below hb
      have h_c_8 := h_c_7.later hb
      have h_x_8 := h_x_7.below hb
      have h_ds_8 := h_ds_7.below hb
      have h_d_8 := h_d_7.later hb
      clear hb B7 h_cs_7 h_b_7 h_c_7 h_x_7 h_ds_7 h_d_7
      have hb := below_al w8 (.cells #[.string (K).nm, .slice a_y n_y c_y, .int .i64 (((K).seats : Nat) : Int), .int .u8 (((K).rule : Nat) : Int)] 40)
      have B9 := B8.trans (hb.mono B8.size)
      have h_cs_9 := h_cs_8.below hb
      have h_b_9 := h_b_8.below hb
      have h_c_9 := h_c_8.later hb
      have h_x_9 := h_x_8.below hb
      have h_ds_9 := h_ds_8.below hb
      have h_d_9 := h_d_8.later hb
      have h_ys_9 := h_ys_8.below hb
      clear hb B8 h_cs_8 h_b_8 h_c_8 h_x_8 h_ds_8 h_d_8 h_ys_8
      have h_y_9 := Has.new w8 #[.string (K).nm, .slice a_y n_y c_y, .int .i64 (((K).seats : Nat) : Int), .int .u8 (((K).rule : Nat) : Int)] 40
      rcases HBR.out with ⟨hk0, hk1, hk2⟩ | ⟨hk0, hk1⟩
      ·
        have hk0 : ke = 0 := hk0
        subst hk0
        have HB := Lib.hid hk2
        clear hk1 hk2
        have k_y_0 := h_y_9.cell 0 _ rfl
        have k_y_1 := h_y_9.cell 1 _ rfl
        have k_y_2 := h_y_9.cell 2 _ rfl
        have k_y_3 := h_y_9.cell 3 _ rfl
        go_wp2_with first | refine wpList_store_new rfl 40 _ _ rfl atCon _ _ _ rfl rfl rfl rfl (con_one _ _ _ _ _ _) ?_
        clear k_y_0 k_y_1 k_y_2 k_y_3
        generalize (w8.alloc (.cells #[.string (K).nm, .slice a_y n_y c_y, .int .i64 (((K).seats : Nat) : Int), .int .u8 (((K).rule : Nat) : Int)] 40)) = w9 at *
        have c := Bytes_any w9 K.nm h_ys_9 K.seats (by omega) (by have := HR.out.2; omega) K.rule HR.out.1
        rw [HB.out] at c
        refine c.mono ?_
        rintro e w10 ⟨a_z, n_z, c_z, rfl, h_z_10, hb⟩
        clear c
        have B10 := B9.trans (hb.mono B9.size)
        have h_cs_10 := h_cs_9.below hb
        have h_b_10 := h_b_9.below hb
        have h_c_10 := h_c_9.later hb
        have h_x_10 := h_x_9.below hb
        have h_ds_10 := h_ds_9.below hb
        have h_d_10 := h_d_9.later hb
        have h_ys_10 := h_ys_9.below hb
        have h_y_10 := h_y_9.later hb
        clear hb B9 h_cs_9 h_b_9 h_c_9 h_x_9 h_ds_9 h_d_9 h_ys_9 h_y_9
        have cv_z := convB h_z_10.rd
        have cv_b := convB h_b_10
        go_wp2_with fail
        go_ret
        exact ⟨rfl, B10⟩
      ·
        have HKZ : Hid (K = zeroK) := Lib.hid hk1
        clear hk1
        replace hk0 : ¬ ke = 0 := hk0
        have k_y_0 := h_y_9.cell 0 _ rfl
        have k_y_1 := h_y_9.cell 1 _ rfl
        have k_y_2 := h_y_9.cell 2 _ rfl
        have k_y_3 := h_y_9.cell 3 _ rfl
        go_wp2_with first | refine wpList_store_new rfl 40 _ _ rfl atCon _ _ _ rfl rfl rfl rfl (con_one _ _ _ _ _ _) ?_
        clear k_y_0 k_y_1 k_y_2 k_y_3
        generalize (w8.alloc (.cells #[.string (K).nm, .slice a_y n_y c_y, .int .i64 (((K).seats : Nat) : Int), .int .u8 (((K).rule : Nat) : Int)] 40)) = w9 at *
        have c := Bytes_any w9 K.nm h_ys_9 K.seats (by omega) (by have := HR.out.2; omega) K.rule HR.out.1
        refine c.mono ?_
        rintro e w10 ⟨a_z, n_z, c_z, rfl, h_z_10, hb⟩
        clear c
        have B10 := B9.trans (hb.mono B9.size)
        have h_cs_10 := h_cs_9.below hb
        have h_b_10 := h_b_9.below hb
        have h_c_10 := h_c_9.later hb
        have h_x_10 := h_x_9.below hb
        have h_ds_10 := h_ds_9.below hb
        have h_d_10 := h_d_9.later hb
        have h_ys_10 := h_ys_9.below hb
        have h_y_10 := h_y_9.later hb
        clear hb B9 h_cs_9 h_b_9 h_c_9 h_x_9 h_ds_9 h_d_9 h_ys_9 h_y_9
        generalize bytesC K.nm K.ss ((K.seats : Nat) : Int) K.rule = bz at *
        have k_y_0 := h_y_10.cell 0 _ rfl
        have k_y_1 := h_y_10.cell 1 _ rfl
        have k_y_2 := h_y_10.cell 2 _ rfl
        have k_y_3 := h_y_10.cell 3 _ rfl
        go_wp2_with fail
        clear k_y_0 k_y_1 k_y_2 k_y_3
        have c := Same_any w10 K.nm ⟨#[]⟩ (a' := none) (n' := 0) (cap' := 0) (ss' := []) h_ys_10 ⟨rfl, Sl.empty _ _ _ (Nat.zero_le _) (fun _ => rfl)⟩ K.seats 0 K.rule 0
        rw [show sameC K.nm K.ss ((K.seats : Nat) : Int) K.rule ⟨#[]⟩ [] 0 0 = true by rw [HKZ.out]; exact same_self _ _ _ _] at c
        refine c.mono ?_
        rintro e w11 ⟨rfl, hb⟩
        clear c
        have B11 := B10.trans (hb.mono B10.size)
        have h_cs_11 := h_cs_10.below hb
        have h_b_11 := h_b_10.below hb
        have h_c_11 := h_c_10.later hb
        have h_x_11 := h_x_10.below hb
        have h_ds_11 := h_ds_10.below hb
        have h_d_11 := h_d_10.later hb
        have h_ys_11 := h_ys_10.below hb
        have h_y_11 := h_y_10.later hb
        have h_z_11 := h_z_10.below hb
        clear hb B10 h_cs_10 h_b_10 h_c_10 h_x_10 h_ds_10 h_d_10 h_ys_10 h_y_10 h_z_10
        go_wp2_with fail
        go_ret
        exact ⟨rfl, B11⟩

end Go.Proofs.Ytnkbkcmphgejkaa
