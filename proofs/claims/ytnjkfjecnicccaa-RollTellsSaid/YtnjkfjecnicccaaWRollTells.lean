/- The walk of the law RollTells: it returns true and turns nothing that was there. No condition. Printed by gen_rollaws.py. -/
import Derived.Test.YtnjkfjecnicccaaRolW
import Derived.BigQuiet
import Derived.Test.YtnjkfjecnicccaaRolL
import Derived.Test.YtnjkfjecnicccaaRolK
import Derived.Deep.CutRange
namespace Go.Proofs.Ytnjkfjecnicccaa
open Go.RowKit Go.Suf
set_option linter.unusedVariables false
set_option linter.unusedSimpArgs false

set_option maxRecDepth 100000 in
set_option maxHeartbeats 8000000 in
theorem rollTells_walk (w : World) {a_l : Option Addr} {n_l c_l : Nat} {vs : List VQ} (h_l : RdV w a_l n_l c_l vs) (name : ByteArray) (nl : name.size ≤ maxLen) (pc : Int) (h_pc1 : -9223372036854775808 ≤ pc) (h_pc2 : pc ≤ 9223372036854775807) :
    Calls Try.prog 5 #[.slice a_l n_l c_l, .string name, .int .i64 pc] w fun e w' => e = .returned (.bool true) ∧ Below w.heap.size w w' := by
  have HN := Lib.hid h_l.len
  have B0 : Below w.heap.size w w := Below.refl _ _
  have h_l_0 := h_l
  go_enter Try.func5, Try.ntmps5
  go_wp2_with fail
  obtain ⟨gr, hgr⟩ : ∃ gr, greatV vs = gr := ⟨_, rfl⟩
  have GR := Lib.hid hgr
  clear hgr
  have c := Great_any w h_l_0
  rw [GR.out] at c
  refine c.mono ?_
  rintro e w1 ⟨rfl, hb⟩
  clear c
  have B1 := B0.trans (hb.mono B0.size)
  have h_l_1 := h_l_0.below hb
  clear hb B0 h_l_0
  cases gr with
  | true =>
    go_wp2_with fail
    go_ret
    exact ⟨rfl, B1⟩
  | false =>
    by_cases hbig : 1000 < name.size
    case pos =>
      go_wp2_with fail
      go_ret
      exact ⟨rfl, B1⟩
    have hbi : decide ((name.size : Int) > 1000) = false := decide_eq_false (by omega)
    have hn : n_l ≤ 1099511627776 := by have := great_len GR.out; have := HN.out; omega
    obtain ⟨fd, hfd⟩ : ∃ fd, fndV vs name = fd := ⟨_, rfl⟩
    have HFD := Lib.hid hfd
    clear hfd
    obtain ⟨ct, hct⟩ : ∃ ct, cntV vs pc = ct := ⟨_, rfl⟩
    have HCT := Lib.hid hct
    clear hct
    obtain ⟨ad, had⟩ : ∃ ad, addV vs name pc = ad := ⟨_, rfl⟩
    have HAD := Lib.hid had
    clear had
    obtain ⟨ck, hck⟩ : ∃ ck, chkV vs = ck := ⟨_, rfl⟩
    have HCK := Lib.hid hck
    clear hck
    go_wp2_with fail
    have c := twinV_any w1 h_l_1 hn
    refine c.mono ?_
    rintro e w2 ⟨a_o, c_o, rfl, h_o_2, hb⟩
    clear c
    have B2 := B1.trans (hb.mono B1.size)
    have h_l_2 := h_l_1.below hb
    clear hb B1 h_l_1
    go_wp2_with fail
    have c := Find_any w2 h_o_2.rd name
    rw [HFD.out] at c
    refine c.mono ?_
    rintro e w3 ⟨rfl, hb⟩
    clear c
    have B3 := B2.trans (hb.mono B2.size)
    have h_l_3 := h_l_2.below hb
    have h_o_3 := h_o_2.below hb
    clear hb B2 h_l_2 h_o_2
    have hb := below_al w3 (.cells #[.string (fd.1).nm, .int .i64 (fd.1).pc, .int .u8 (((fd.1).st : Nat) : Int)] 32)
    have B4 := B3.trans (hb.mono B3.size)
    have h_l_4 := h_l_3.below hb
    have h_o_4 := h_o_3.below hb
    clear hb B3 h_l_3 h_o_3
    have h_v_4 := PRow.new 32 w3 #[.string (fd.1).nm, .int .i64 (fd.1).pc, .int .u8 (((fd.1).st : Nat) : Int)]
    go_wp2_with first | refine wpList_store_new rfl 32 _ _ rfl atVot _ _ _ rfl rfl rfl rfl (vot_one (fd.1)) ?_
    generalize (w3.alloc (.cells #[.string (fd.1).nm, .int .i64 (fd.1).pc, .int .u8 (((fd.1).st : Nat) : Int)] 32)) = w4 at *
    have c := refFind_any w4 h_l_4 name
    rw [HFD.out] at c
    refine c.mono ?_
    rintro e w5 ⟨rfl, hb⟩
    clear c
    have B5 := B4.trans (hb.mono B4.size)
    have h_l_5 := h_l_4.below hb
    have h_o_5 := h_o_4.below hb
    have h_v_5 := h_v_4.later hb
    clear hb B4 h_l_4 h_o_4 h_v_4
    have hb := below_al w5 (.cells #[.string (fd.1).nm, .int .i64 (fd.1).pc, .int .u8 (((fd.1).st : Nat) : Int)] 32)
    have B6 := B5.trans (hb.mono B5.size)
    have h_l_6 := h_l_5.below hb
    have h_o_6 := h_o_5.below hb
    have h_v_6 := h_v_5.later hb
    clear hb B5 h_l_5 h_o_5 h_v_5
    have h_f_6 := PRow.new 32 w5 #[.string (fd.1).nm, .int .i64 (fd.1).pc, .int .u8 (((fd.1).st : Nat) : Int)]
    go_wp2_with first | refine wpList_store_new rfl 32 _ _ rfl atVot _ _ _ rfl rfl rfl rfl (vot_one (fd.1)) ?_
    generalize (w5.alloc (.cells #[.string (fd.1).nm, .int .i64 (fd.1).pc, .int .u8 (((fd.1).st : Nat) : Int)] 32)) = w6 at *
    have c := Count_any w6 h_o_6.rd pc h_pc1 h_pc2
    rw [HCT.out] at c
    refine c.mono ?_
    rintro e w7 ⟨rfl, hb⟩
    clear c
    have B7 := B6.trans (hb.mono B6.size)
    have h_l_7 := h_l_6.below hb
    have h_o_7 := h_o_6.below hb
    have h_v_7 := h_v_6.later hb
    have h_f_7 := h_f_6.later hb
    clear hb B6 h_l_6 h_o_6 h_v_6 h_f_6
    have hb := below_al w7 (.cells #[.int .i64 (((ct.1).1 : Nat) : Int), .int .i64 (((ct.1).2.1 : Nat) : Int), .int .i64 (((ct.1).2.2.1 : Nat) : Int), .int .i64 (((ct.1).2.2.2 : Nat) : Int)] 47)
    have B8 := B7.trans (hb.mono B7.size)
    have h_l_8 := h_l_7.below hb
    have h_o_8 := h_o_7.below hb
    have h_v_8 := h_v_7.later hb
    have h_f_8 := h_f_7.later hb
    clear hb B7 h_l_7 h_o_7 h_v_7 h_f_7
    have h_a_8 := PRow.new 47 w7 #[.int .i64 (((ct.1).1 : Nat) : Int), .int .i64 (((ct.1).2.1 : Nat) : Int), .int .i64 (((ct.1).2.2.1 : Nat) : Int), .int .i64 (((ct.1).2.2.2 : Nat) : Int)]
    go_wp2_with first | refine wpList_store_new rfl 47 _ _ rfl atTur _ _ _ rfl rfl rfl rfl (tur_one _ _ _ _) ?_
    generalize (w7.alloc (.cells #[.int .i64 (((ct.1).1 : Nat) : Int), .int .i64 (((ct.1).2.1 : Nat) : Int), .int .i64 (((ct.1).2.2.1 : Nat) : Int), .int .i64 (((ct.1).2.2.2 : Nat) : Int)] 47)) = w8 at *
    have c := refCount_any w8 h_l_8 pc h_pc1 h_pc2
    rw [HCT.out] at c
    refine c.mono ?_
    rintro e w9 ⟨rfl, hb⟩
    clear c
    have B9 := B8.trans (hb.mono B8.size)
    have h_l_9 := h_l_8.below hb
    have h_o_9 := h_o_8.below hb
    have h_v_9 := h_v_8.later hb
    have h_f_9 := h_f_8.later hb
    have h_a_9 := h_a_8.later hb
    clear hb B8 h_l_8 h_o_8 h_v_8 h_f_8 h_a_8
    have hb := below_al w9 (.cells #[.int .i64 (((ct.1).1 : Nat) : Int), .int .i64 (((ct.1).2.1 : Nat) : Int), .int .i64 (((ct.1).2.2.1 : Nat) : Int), .int .i64 (((ct.1).2.2.2 : Nat) : Int)] 47)
    have B10 := B9.trans (hb.mono B9.size)
    have h_l_10 := h_l_9.below hb
    have h_o_10 := h_o_9.below hb
    have h_v_10 := h_v_9.later hb
    have h_f_10 := h_f_9.later hb
    have h_a_10 := h_a_9.later hb
    clear hb B9 h_l_9 h_o_9 h_v_9 h_f_9 h_a_9
    have h_g_10 := PRow.new 47 w9 #[.int .i64 (((ct.1).1 : Nat) : Int), .int .i64 (((ct.1).2.1 : Nat) : Int), .int .i64 (((ct.1).2.2.1 : Nat) : Int), .int .i64 (((ct.1).2.2.2 : Nat) : Int)]
    go_wp2_with first | refine wpList_store_new rfl 47 _ _ rfl atTur _ _ _ rfl rfl rfl rfl (tur_one _ _ _ _) ?_
    generalize (w9.alloc (.cells #[.int .i64 (((ct.1).1 : Nat) : Int), .int .i64 (((ct.1).2.1 : Nat) : Int), .int .i64 (((ct.1).2.2.1 : Nat) : Int), .int .i64 (((ct.1).2.2.2 : Nat) : Int)] 47)) = w10 at *
    have HOK := Lib.hid h_o_10
    have HLK := Lib.hid h_l_10
    have HBK := Lib.hid B10
    have BT := Below.refl w10.heap.size w10
    have h_t_10 := BT
    clear BT
    have c := Add_any w10 h_o_10.rd name pc h_pc1 h_pc2
    rw [HAD.out] at c
    refine c.mono ?_
    rintro e w11 ⟨a_x, n_x, c_x, rfl, h_x_11, hb⟩
    clear c
    have B11 := B10.trans (hb.mono B10.size)
    have h_l_11 := h_l_10.below hb
    have h_o_11 := h_o_10.below hb
    have h_v_11 := h_v_10.later hb
    have h_f_11 := h_f_10.later hb
    have h_a_11 := h_a_10.later hb
    have h_g_11 := h_g_10.later hb
    have h_t_11 := h_t_10.trans (hb.mono h_t_10.size)
    clear hb B10 h_l_10 h_o_10 h_v_10 h_f_10 h_a_10 h_g_10 h_t_10
    go_wp2_with fail
    have c := refAdd_any w11 h_l_11 name pc h_pc1 h_pc2
    rw [HAD.out] at c
    refine c.mono ?_
    rintro e w12 ⟨a_y, n_y, c_y, rfl, h_y_12, hb⟩
    clear c
    have B12 := B11.trans (hb.mono B11.size)
    have h_l_12 := h_l_11.below hb
    have h_o_12 := h_o_11.below hb
    have h_v_12 := h_v_11.later hb
    have h_f_12 := h_f_11.later hb
    have h_a_12 := h_a_11.later hb
    have h_g_12 := h_g_11.later hb
    have h_t_12 := h_t_11.trans (hb.mono h_t_11.size)
    have h_x_12 := h_x_11.below hb
    clear hb B11 h_l_11 h_o_11 h_v_11 h_f_11 h_a_11 h_g_11 h_t_11 h_x_11
    go_wp2_with fail
    have c := Check_any w12 h_o_12.rd
    rw [HCK.out] at c
    refine c.mono ?_
    rintro e w13 ⟨rfl, hb⟩
    clear c
    have B13 := B12.trans (hb.mono B12.size)
    have h_l_13 := h_l_12.below hb
    have h_o_13 := h_o_12.below hb
    have h_v_13 := h_v_12.later hb
    have h_f_13 := h_f_12.later hb
    have h_a_13 := h_a_12.later hb
    have h_g_13 := h_g_12.later hb
    have h_t_13 := h_t_12.trans (hb.mono h_t_12.size)
    have h_x_13 := h_x_12.below hb
    have h_y_13 := h_y_12.below hb
    clear hb B12 h_l_12 h_o_12 h_v_12 h_f_12 h_a_12 h_g_12 h_t_12 h_x_12 h_y_12
    go_wp2_with fail
    have c := refCheck_any w13 h_l_13
    rw [HCK.out] at c
    refine c.mono ?_
    rintro e w14 ⟨rfl, hb⟩
    clear c
    have B14 := B13.trans (hb.mono B13.size)
    have h_l_14 := h_l_13.below hb
    have h_o_14 := h_o_13.below hb
    have h_v_14 := h_v_13.later hb
    have h_f_14 := h_f_13.later hb
    have h_a_14 := h_a_13.later hb
    have h_g_14 := h_g_13.later hb
    have h_t_14 := h_t_13.trans (hb.mono h_t_13.size)
    have h_x_14 := h_x_13.below hb
    have h_y_14 := h_y_13.below hb
    clear hb B13 h_l_13 h_o_13 h_v_13 h_f_13 h_a_13 h_g_13 h_t_13 h_x_13 h_y_13
    have k_v_0 := h_v_14.cell 0 _ rfl
    have k_v_1 := h_v_14.cell 1 _ rfl
    have k_v_2 := h_v_14.cell 2 _ rfl
    have k_f_0 := h_f_14.cell 0 _ rfl
    have k_f_1 := h_f_14.cell 1 _ rfl
    have k_f_2 := h_f_14.cell 2 _ rfl
    have k_a_0 := h_a_14.cell 0 _ rfl
    have k_a_1 := h_a_14.cell 1 _ rfl
    have k_a_2 := h_a_14.cell 2 _ rfl
    have k_a_3 := h_a_14.cell 3 _ rfl
    have k_g_0 := h_g_14.cell 0 _ rfl
    have k_g_1 := h_g_14.cell 1 _ rfl
    have k_g_2 := h_g_14.cell 2 _ rfl
    have k_g_3 := h_g_14.cell 3 _ rfl
    go_wp2_with fail
    clear k_v_0 k_v_1 k_v_2 k_f_0 k_f_1 k_f_2 k_a_0 k_a_1 k_a_2 k_a_3 k_g_0 k_g_1 k_g_2 k_g_3
    have c := Same_any w14 h_x_14.rd h_y_14.rd
    rw [show decide (ad.1 = ad.1) = true from decide_eq_true rfl] at c
    refine c.mono ?_
    rintro e w15 ⟨rfl, hb⟩
    clear c
    have B15 := B14.trans (hb.mono B14.size)
    have h_l_15 := h_l_14.below hb
    have h_o_15 := h_o_14.below hb
    have h_v_15 := h_v_14.later hb
    have h_f_15 := h_f_14.later hb
    have h_a_15 := h_a_14.later hb
    have h_g_15 := h_g_14.later hb
    have h_t_15 := h_t_14.trans (hb.mono h_t_14.size)
    have h_x_15 := h_x_14.below hb
    have h_y_15 := h_y_14.below hb
    clear hb B14 h_l_14 h_o_14 h_v_14 h_f_14 h_a_14 h_g_14 h_t_14 h_x_14 h_y_14
    go_wp2_with fail
    have BT := h_t_15
    clear h_t_15 h_o_15 h_l_15 h_y_15 B15
    have hn_x := h_x_15.rd.lt
    have hg0 : 0 < n_x → ∃ g cur, a_x = some ⟨g, 0, none⟩ ∧ w10.heap.size ≤ g ∧ w15.heap[g]? = some (.cells cur 32 (0, 0)) ∧ n_x * 3 ≤ cur.size := by
      intro hp
      obtain ⟨g, cur, e, hgl, hgh, hnc, -, hsz, -⟩ := h_x_15.row hp
      exact ⟨g, cur, e, Nat.le_trans (Nat.le_refl _) hgl, hgh, by rw [hsz]; omega⟩
    go_loopw [21] (fun j wr => ∃ i, i ≤ n_x ∧ j = .int .i64 (i : Nat) ∧ Below w10.heap.size w10 wr ∧ (0 < n_x → ∃ g cur, a_x = some ⟨g, 0, none⟩ ∧ w10.heap.size ≤ g ∧ wr.heap[g]? = some (.cells cur 32 (0, 0)) ∧ n_x * 3 ≤ cur.size)) (fun j _ => n_x - (intOf j).toNat)
    case atStart => exact ⟨0, Nat.zero_le _, rfl, BT, hg0⟩
    clear hg0 BT
    case round =>
      rename_i wr _
      obtain ⟨i, hi, rfl, BT, hg⟩ := hrel
      by_cases hlt : i < n_x
      case pos =>
        obtain ⟨g, cur, rfl, hgl, hgh, hgn⟩ := hg (by omega)
        have kx : wr.cell? ⟨g, i * 3 + 2, none⟩ = some (cur[i * 3 + 2]'(by omega)) := by
          simp only [World.cell?, hgh]
          exact Array.getElem?_eq_getElem (by omega)
        have fx : wr.frozen? ⟨g, i * 3 + 2, none⟩ = false := frozen_of_row wr g _ _ _ hgh
        go_wp2_with fail
        go_roundw
        case rel => exact ⟨i + 1, by omega, by go_num, BT.setCell hgl _, fun _ => ⟨g, _, rfl, hgl, heap_setCell_same wr g (i * 3 + 2) cur _ _ hgh, by simpa using hgn⟩⟩
        case measure => simp [intOf]; omega
      case neg =>
        obtain rfl : i = n_x := by omega
        go_wp2_with fail
        have c := Same_any wr (HOK.out.below BT).rd (HLK.out.below BT)
        rw [show decide (vs = vs) = true from decide_eq_true rfl] at c
        refine c.mono ?_
        rintro e we ⟨rfl, hb⟩
        clear c
        have BE := HBK.out.trans ((BT.trans (hb.mono BT.size)).mono HBK.out.size)
        go_wp2_with fail
        go_ret
        exact ⟨rfl, BE⟩

end Go.Proofs.Ytnjkfjecnicccaa
