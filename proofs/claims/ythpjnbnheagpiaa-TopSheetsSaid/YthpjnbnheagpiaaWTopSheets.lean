/- The walk of the law TopSheets: it returns true and turns nothing that was there. No condition. Printed by gen_touw.py. -/
import Derived.Test.YthpjnbnheagpiaaTouA
import Derived.Test.YthpjnbnheagpiaaSheU
import Derived.BigQuiet
import Derived.Deep.CutRange
namespace Go.Proofs.Ythpjnbnheagpiaa
open Go.RowKit Go.Suf
set_option linter.unusedVariables false
set_option linter.unusedSimpArgs false

set_option maxRecDepth 100000 in
set_option maxHeartbeats 16000000 in
theorem topSheets_walk (w : World) (nm : ByteArray) (hnl : nm.size ≤ maxLen) {a_s : Option Addr} {n_s c_s : Nat} {ss : List ByteArray} (h_s : RdS w a_s n_s c_s ss) (hsl : ∀ s ∈ ss, s.size ≤ maxLen) (seats : Int) (hs1 : -9223372036854775808 ≤ seats) (hs2 : seats ≤ 9223372036854775807) (rule : Nat) (hr : rule < 256) (p : PQ) (pw : PW p) {a_l : Option Addr} {n_l c_l : Nat} {l : List BQ} (h_l : RdQ w a_l n_l c_l l) :
    Calls Try.prog 3 #[.agg #[.string nm, .slice a_s n_s c_s, .int .i64 seats, .int .u8 ((rule : Nat) : Int)], .agg (polc p), .slice a_l n_l c_l] w fun e w' => e = .returned (.bool true) ∧ Below w.heap.size w w' := by
  have HN := Lib.hid h_s.len
  have HLL := Lib.hid h_l.len
  have hns := h_s.lt
  have hnl2 := h_l.lt
  have PWW := Lib.hid pw
  have B0 : Below w.heap.size w w := Below.refl _ _
  have h_s_0 := h_s
  have h_l_0 := h_l
  go_enter Try.func3, Try.ntmps3
  have hb := below_al w (.cells #[.string nm, .slice a_s n_s c_s, .int .i64 seats, .int .u8 ((rule : Nat) : Int)] 24)
  have B1 := B0.trans (hb.mono B0.size)
  have h_s_1 := h_s_0.below hb
  have h_l_1 := h_l_0.below balE_lasts hb
  clear hb B0 h_s_0 h_l_0
  have h_c_1 := PRow.new 24 w #[.string nm, .slice a_s n_s c_s, .int .i64 seats, .int .u8 ((rule : Nat) : Int)]
  have hb := below_al (w.alloc (.cells #[.string nm, .slice a_s n_s c_s, .int .i64 seats, .int .u8 ((rule : Nat) : Int)] 24)) (.cells (polc p) 26)
  have B2 := B1.trans (hb.mono B1.size)
  have h_s_2 := h_s_1.below hb
  have h_l_2 := h_l_1.below balE_lasts hb
  have h_c_2 := h_c_1.later hb
  clear hb B1 h_s_1 h_l_1 h_c_1
  have h_p_2 := PRow.new 26 (w.alloc (.cells #[.string nm, .slice a_s n_s c_s, .int .i64 seats, .int .u8 ((rule : Nat) : Int)] 24)) (polc p)
  simp only [World.size_alloc] at h_p_2
  have k_c_0 := h_c_2.cell 0 _ rfl
  have k_c_1 := h_c_2.cell 1 _ rfl
  have k_c_2 := h_c_2.cell 2 _ rfl
  have k_c_3 := h_c_2.cell 3 _ rfl
  go_wp2_with fail
  clear k_c_0 k_c_1 k_c_2 k_c_3
  generalize ((w.alloc (.cells #[.string nm, .slice a_s n_s c_s, .int .i64 seats, .int .u8 ((rule : Nat) : Int)] 24)).alloc (.cells (polc p) 26)) = w2 at *
  obtain ⟨gr, hgr⟩ : ∃ gr, greatC nm ss = gr := ⟨_, rfl⟩
  have GR := Lib.hid hgr
  clear hgr
  have c := Great_any w2 nm h_s_2 seats rule hr
  rw [GR.out] at c
  refine c.mono ?_
  rintro e w3 ⟨rfl, hb⟩
  clear c
  have B3 := B2.trans (hb.mono B2.size)
  have h_s_3 := h_s_2.below hb
  have h_l_3 := h_l_2.below balE_lasts hb
  have h_c_3 := h_c_2.later hb
  have h_p_3 := h_p_2.later hb
  clear hb B2 h_s_2 h_l_2 h_c_2 h_p_2
  cases gr with
  | true =>
    go_wp2_with fail
    go_ret
    exact ⟨rfl, B3⟩
  | false =>
    by_cases hbig : 100 < n_l
    case pos =>
      go_wp2_with fail
      go_ret
      exact ⟨rfl, B3⟩
    have hbigd : decide ((n_l : Int) > 100) = false := decide_eq_false (by omega)
    obtain ⟨ck, hck⟩ : ∃ ck, checkC nm ss seats rule = ck := ⟨_, rfl⟩
    have HCK := Lib.hid hck
    clear hck
    have k_c_0 := h_c_3.cell 0 _ rfl
    have k_c_1 := h_c_3.cell 1 _ rfl
    have k_c_2 := h_c_3.cell 2 _ rfl
    have k_c_3 := h_c_3.cell 3 _ rfl
    go_wp2_with fail
    clear k_c_0 k_c_1 k_c_2 k_c_3
    have c := Check_any w3 nm h_s_3 seats hs1 hs2 rule hr
    rw [HCK.out] at c
    refine c.mono ?_
    rintro e w4 ⟨rfl, hb⟩
    clear c
    have B4 := B3.trans (hb.mono B3.size)
    have h_s_4 := h_s_3.below hb
    have h_l_4 := h_l_3.below balE_lasts hb
    have h_c_4 := h_c_3.later hb
    have h_p_4 := h_p_3.later hb
    clear hb B3 h_s_3 h_l_3 h_c_3 h_p_3
    by_cases hck : ck = 0
    case neg =>
      have e1 : (ck == (0 : Int)) = false := by simpa using hck
      have e2 : (ck != (0 : Int)) = true := by simpa using hck
      clear hck
      go_wp2_with fail
      go_ret
      exact ⟨rfl, B4⟩
    subst hck
    obtain ⟨kd, hkd⟩ : ∃ kd, kindN rule = kd := ⟨_, rfl⟩
    have HKD := Lib.hid hkd
    have hrr := chk_rule HCK.out
    have hki := kind_in hrr.2.2
    rw [hkd] at hki
    have hk1 : 1 ≤ kd := by omega
    have hk2 : kd ≤ 3 := by omega
    have HKC := Lib.hid (show kindC rule = (kd, 0) by unfold kindC; rw [if_pos hrr.2.2, hkd])
    have hns1 : 1 ≤ n_s := by rw [← HN.out]; exact hrr.2.1
    have hns2 : n_s ≤ 10 := by rw [← HN.out]; exact hrr.1
    clear hkd hrr hki
    have k_c_0 := h_c_4.cell 0 _ rfl
    have k_c_1 := h_c_4.cell 1 _ rfl
    have k_c_2 := h_c_4.cell 2 _ rfl
    have k_c_3 := h_c_4.cell 3 _ rfl
    go_wp2_with fail
    clear k_c_0 k_c_1 k_c_2 k_c_3
    have c := Kind_any w4 rule hr
    rw [HKC.out] at c
    refine c.mono ?_
    rintro e w5 ⟨rfl, hb⟩
    clear c
    have B5 := B4.trans (hb.mono B4.size)
    have h_s_5 := h_s_4.below hb
    have h_l_5 := h_l_4.below balE_lasts hb
    have h_c_5 := h_c_4.later hb
    have h_p_5 := h_p_4.later hb
    clear hb B4 h_s_4 h_l_4 h_c_4 h_p_4
    have HBN := Lib.hid B5
    have hb := below_al w5 (.cells #[.string ⟨#[97]⟩, .string ⟨#[98]⟩, .string ⟨#[99]⟩] 9)
    have B6 := B5.trans (hb.mono B5.size)
    have h_s_6 := h_s_5.below hb
    have h_l_6 := h_l_5.below balE_lasts hb
    have h_c_6 := h_c_5.later hb
    have h_p_6 := h_p_5.later hb
    clear hb B5 h_s_5 h_l_5 h_c_5 h_p_5
    have h_n_6 := (PRow.new 9 w5 #[.string ⟨#[97]⟩, .string ⟨#[98]⟩, .string ⟨#[99]⟩]).base HBN.out
    go_wp2_with fail
    generalize (w5.alloc (.cells #[.string ⟨#[97]⟩, .string ⟨#[98]⟩, .string ⟨#[99]⟩] 9)) = w6 at *
    have H_s := Lib.hid h_s_6
    have H_l := Lib.hid h_l_6
    have H_c := Lib.hid h_c_6
    have H_p := Lib.hid h_p_6
    have H_n := Lib.hid h_n_6
    have H_B := Lib.hid B6
    clear B6 h_s_6 h_l_6 h_c_6 h_p_6 h_n_6
    go_loopw [11, 12, 13] (fun s11 s12 s13 wr => ∃ (i : Nat) (rc : List CQ) (own : List BQ) (a1 a2 : Option Addr) (n1 c1 n2 c2 : Nat), i ≤ n_l ∧ s13 = .int .i64 (i : Nat) ∧ s11 = .slice a1 n1 c1 ∧ s12 = .slice a2 n2 c2 ∧ Hid (Below w6.heap.size w6 wr) ∧ Hid (RdC wr a1 n1 c1 rc) ∧ Hid (OwnL w6 wr a2 n2 c2 own) ∧ Hid (RecI kd ((n_s : Nat) : Int) i rc own)) (fun _ _ s13 _ => n_l - (intOf s13).toNat)
    case atStart => exact ⟨0, [], [], none, none, 0, 0, 0, 0, Nat.zero_le _, rfl, rfl, rfl, Lib.hid (Below.refl _ _), Lib.hid (Rd2.nils batE _), Lib.hid (OwnL.nil _ _), Lib.hid (RecI.zero _ _)⟩
    case round =>
      rename World => wr
      obtain ⟨i, rc, own, a1, a2, n1, c1, n2, c2, hi, rfl, rfl, rfl, HZ, HR, HO, HI⟩ := hrel
      have B7 := H_B.out.trans (HZ.out.mono H_B.out.size)
      have h_s_7 := H_s.out.below HZ.out
      have h_c_7 := H_c.out.later HZ.out
      have h_p_7 := H_p.out.later HZ.out
      have h_n_7 := H_n.out.later HZ.out
      have h_z_7 := HZ.out
      have h_r_7 := HR.out
      have h_o_7 := HO.out
      by_cases hlt : i < n_l
      case neg =>
        obtain rfl : n_l = i := by omega
        have HROW := Lib.hid (HI.out.rows (by omega))
        have hn2 : n2 ≤ 1000 := by have h1 := HI.out.len; have h2 := HO.out.1; omega
        clear HZ HR HO hlt
        go_wp2_with fail
        obtain ⟨rs, hrs⟩ : ∃ rs, rowsL (own.map BQ.ms) = rs := ⟨_, rfl⟩
        have HRS := Lib.hid hrs
        clear hrs
        have c := Tally_any wr ((n_s : Nat) : Int) (by omega) (by omega) kd hk1 hk2 h_r_7 HI.out.recw
        rw [HROW.out, HRS.out] at c
        refine c.mono ?_
        rintro e w8 ⟨hor, hb⟩
        clear c
        have B8 := B7.trans (hb.mono B7.size)
        have h_s_8 := h_s_7.below hb
        have h_c_8 := h_c_7.later hb
        have h_p_8 := h_p_7.later hb
        have h_n_8 := h_n_7.later hb
        have h_z_8 := h_z_7.trans (hb.mono h_z_7.size)
        have h_r_8 := h_r_7.below batE_lasts hb
        have h_o_8 := h_o_7.below hb
        clear hb B7 h_s_7 h_c_7 h_p_7 h_n_7 h_z_7 h_r_7 h_o_7
        rcases hor with ⟨hle, a_t, c_t, rfl, h_t⟩ | ⟨hbig4, rfl⟩
        case inl =>
          have h_t_8 := h_t
          clear h_t
          have hb := below_al w8 (.cells #[.int .i64 ((n_s : Nat) : Int), .int .u8 ((kd : Nat) : Int), .slice a_t rs.length c_t] 51)
          have B9 := B8.trans (hb.mono B8.size)
          have h_s_9 := h_s_8.below hb
          have h_c_9 := h_c_8.later hb
          have h_p_9 := h_p_8.later hb
          have h_n_9 := h_n_8.later hb
          have h_z_9 := h_z_8.trans (hb.mono h_z_8.size)
          have h_r_9 := h_r_8.below batE_lasts hb
          have h_o_9 := h_o_8.below hb
          have h_t_9 := h_t_8.below rowE_lasts hb
          clear hb B8 h_s_8 h_c_8 h_p_8 h_n_8 h_z_8 h_r_8 h_o_8 h_t_8
          have h_px_9 := PRow.new 51 w8 #[.int .i64 ((n_s : Nat) : Int), .int .u8 ((kd : Nat) : Int), .slice a_t rs.length c_t]
          go_wp2_with first | refine wpList_store_new rfl 51 _ _ rfl atPrf _ _ _ rfl rfl rfl rfl (prf_one _ _ _ _ _) ?_
          generalize (w8.alloc (.cells #[.int .i64 ((n_s : Nat) : Int), .int .u8 ((kd : Nat) : Int), .slice a_t rs.length c_t] 51)) = w9 at *
          have c := Make_any w9 ((n_s : Nat) : Int) (by omega) (by omega) kd hk1 hk2 (h_o_9.rd h_z_9) hn2 HI.out.fit
          rw [HRS.out] at c
          refine c.mono ?_
          rintro e w10 ⟨hor2, hb⟩
          clear c
          have B10 := B9.trans (hb.mono B9.size)
          have h_s_10 := h_s_9.below hb
          have h_c_10 := h_c_9.later hb
          have h_p_10 := h_p_9.later hb
          have h_n_10 := h_n_9.later hb
          have h_z_10 := h_z_9.trans (hb.mono h_z_9.size)
          have h_r_10 := h_r_9.below batE_lasts hb
          have h_o_10 := h_o_9.below hb
          have h_t_10 := h_t_9.below rowE_lasts hb
          have h_px_10 := h_px_9.later hb
          clear hb B9 h_s_9 h_c_9 h_p_9 h_n_9 h_z_9 h_r_9 h_o_9 h_t_9 h_px_9
          rcases hor2 with ⟨hle2, a_k, c_k, rfl, h_k⟩ | ⟨hbig5, rfl⟩
          case inl =>
            have h_k_10 := h_k.rd (E := rowE) fun x u v h => h.rd
            clear h_k
            have hb := below_al w10 (.cells #[.int .i64 ((n_s : Nat) : Int), .int .u8 ((kd : Nat) : Int), .slice a_k rs.length c_k] 51)
            have B11 := B10.trans (hb.mono B10.size)
            have h_s_11 := h_s_10.below hb
            have h_c_11 := h_c_10.later hb
            have h_p_11 := h_p_10.later hb
            have h_n_11 := h_n_10.later hb
            have h_z_11 := h_z_10.trans (hb.mono h_z_10.size)
            have h_r_11 := h_r_10.below batE_lasts hb
            have h_o_11 := h_o_10.below hb
            have h_t_11 := h_t_10.below rowE_lasts hb
            have h_px_11 := h_px_10.later hb
            have h_k_11 := h_k_10.below rowE_lasts hb
            clear hb B10 h_s_10 h_c_10 h_p_10 h_n_10 h_z_10 h_r_10 h_o_10 h_t_10 h_px_10 h_k_10
            have h_py_11 := PRow.new 51 w10 #[.int .i64 ((n_s : Nat) : Int), .int .u8 ((kd : Nat) : Int), .slice a_k rs.length c_k]
            have k_px_0 := h_px_11.cell 0 _ rfl
            have k_px_1 := h_px_11.cell 1 _ rfl
            have k_px_2 := h_px_11.cell 2 _ rfl
            have k_py_0 := h_py_11.cell 0 _ rfl
            have k_py_1 := h_py_11.cell 1 _ rfl
            have k_py_2 := h_py_11.cell 2 _ rfl
            go_wp2_with first | refine wpList_store_new rfl 51 _ _ rfl atPrf _ _ _ rfl rfl rfl rfl (prf_one _ _ _ _ _) ?_
            clear k_px_0 k_px_1 k_px_2 k_py_0 k_py_1 k_py_2
            generalize (w10.alloc (.cells #[.int .i64 ((n_s : Nat) : Int), .int .u8 ((kd : Nat) : Int), .slice a_k rs.length c_k] 51)) = w11 at *
            have c := SameP_any w11 ((n_s : Nat) : Int) kd (by omega) h_t_11 h_k_11
            refine c.mono ?_
            rintro e w12 ⟨rfl, hb⟩
            clear c
            have B12 := B11.trans (hb.mono B11.size)
            have h_s_12 := h_s_11.below hb
            have h_c_12 := h_c_11.later hb
            have h_p_12 := h_p_11.later hb
            have h_n_12 := h_n_11.later hb
            have h_z_12 := h_z_11.trans (hb.mono h_z_11.size)
            have h_r_12 := h_r_11.below batE_lasts hb
            have h_o_12 := h_o_11.below hb
            have h_t_12 := h_t_11.below rowE_lasts hb
            have h_px_12 := h_px_11.later hb
            have h_k_12 := h_k_11.below rowE_lasts hb
            have h_py_12 := h_py_11.later hb
            clear hb B11 h_s_11 h_c_11 h_p_11 h_n_11 h_z_11 h_r_11 h_o_11 h_t_11 h_px_11 h_k_11 h_py_11
            go_wp2_with fail
            go_ret
            exact ⟨rfl, B12⟩
          case inr =>
            omega
        case inr =>
          have hb := below_al w8 (.cells #[.int .i64 0, .int .u8 0, .slice none 0 0] 51)
          have B9 := B8.trans (hb.mono B8.size)
          have h_s_9 := h_s_8.below hb
          have h_c_9 := h_c_8.later hb
          have h_p_9 := h_p_8.later hb
          have h_n_9 := h_n_8.later hb
          have h_z_9 := h_z_8.trans (hb.mono h_z_8.size)
          have h_r_9 := h_r_8.below batE_lasts hb
          have h_o_9 := h_o_8.below hb
          clear hb B8 h_s_8 h_c_8 h_p_8 h_n_8 h_z_8 h_r_8 h_o_8
          have h_px_9 := PRow.new 51 w8 #[.int .i64 0, .int .u8 0, .slice none 0 0]
          go_wp2_with first | refine wpList_store_new rfl 51 _ _ rfl atPrf _ _ _ rfl rfl rfl rfl (prf_one _ _ _ _ _) ?_
          generalize (w8.alloc (.cells #[.int .i64 0, .int .u8 0, .slice none 0 0] 51)) = w9 at *
          have c := Make_any w9 ((n_s : Nat) : Int) (by omega) (by omega) kd hk1 hk2 (h_o_9.rd h_z_9) hn2 HI.out.fit
          rw [HRS.out] at c
          refine c.mono ?_
          rintro e w10 ⟨hor2, hb⟩
          clear c
          have B10 := B9.trans (hb.mono B9.size)
          have h_s_10 := h_s_9.below hb
          have h_c_10 := h_c_9.later hb
          have h_p_10 := h_p_9.later hb
          have h_n_10 := h_n_9.later hb
          have h_z_10 := h_z_9.trans (hb.mono h_z_9.size)
          have h_r_10 := h_r_9.below batE_lasts hb
          have h_o_10 := h_o_9.below hb
          have h_px_10 := h_px_9.later hb
          clear hb B9 h_s_9 h_c_9 h_p_9 h_n_9 h_z_9 h_r_9 h_o_9 h_px_9
          rcases hor2 with ⟨hle2, a_k, c_k, rfl, h_k⟩ | ⟨hbig5, rfl⟩
          case inl =>
            omega
          case inr =>
            have hb := below_al w10 (.cells #[.int .i64 0, .int .u8 0, .slice none 0 0] 51)
            have B11 := B10.trans (hb.mono B10.size)
            have h_s_11 := h_s_10.below hb
            have h_c_11 := h_c_10.later hb
            have h_p_11 := h_p_10.later hb
            have h_n_11 := h_n_10.later hb
            have h_z_11 := h_z_10.trans (hb.mono h_z_10.size)
            have h_r_11 := h_r_10.below batE_lasts hb
            have h_o_11 := h_o_10.below hb
            have h_px_11 := h_px_10.later hb
            clear hb B10 h_s_10 h_c_10 h_p_10 h_n_10 h_z_10 h_r_10 h_o_10 h_px_10
            have h_py_11 := PRow.new 51 w10 #[.int .i64 0, .int .u8 0, .slice none 0 0]
            have k_px_0 := h_px_11.cell 0 _ rfl
            have k_px_1 := h_px_11.cell 1 _ rfl
            have k_px_2 := h_px_11.cell 2 _ rfl
            have k_py_0 := h_py_11.cell 0 _ rfl
            have k_py_1 := h_py_11.cell 1 _ rfl
            have k_py_2 := h_py_11.cell 2 _ rfl
            go_wp2_with first | refine wpList_store_new rfl 51 _ _ rfl atPrf _ _ _ rfl rfl rfl rfl (prf_one _ _ _ _ _) ?_
            clear k_px_0 k_px_1 k_px_2 k_py_0 k_py_1 k_py_2
            generalize (w10.alloc (.cells #[.int .i64 0, .int .u8 0, .slice none 0 0] 51)) = w11 at *
            have c := SameP_any w11 0 0 (by decide) (Rd2.nils rowE w11) (Rd2.nils rowE w11)
            refine c.mono ?_
            rintro e w12 ⟨rfl, hb⟩
            clear c
            have B12 := B11.trans (hb.mono B11.size)
            have h_s_12 := h_s_11.below hb
            have h_c_12 := h_c_11.later hb
            have h_p_12 := h_p_11.later hb
            have h_n_12 := h_n_11.later hb
            have h_z_12 := h_z_11.trans (hb.mono h_z_11.size)
            have h_r_12 := h_r_11.below batE_lasts hb
            have h_o_12 := h_o_11.below hb
            have h_px_12 := h_px_11.later hb
            have h_py_12 := h_py_11.later hb
            clear hb B11 h_s_11 h_c_11 h_p_11 h_n_11 h_z_11 h_r_11 h_o_11 h_px_11 h_py_11
            go_wp2_with fail
            go_ret
            exact ⟨rfl, B12⟩
      clear HZ HR HO
      obtain ⟨x, hx⟩ : ∃ x, l[i]? = some x := ⟨_, List.getElem?_eq_getElem (by rw [HLL.out]; exact hlt)⟩
      have HLX := Lib.hid H_l.out
      obtain ⟨bb, oo, rfl, hcc⟩ := HLX.out.addr (by omega)
      obtain ⟨u1, v1, T0, T1, rfl, hkx, a_m, n_m, c_m, rfl, h_m⟩ := hcc i x hx
      obtain ⟨kx, hkxe⟩ : ∃ kx, x.kd = kx := ⟨_, rfl⟩
      obtain ⟨ms, hmse⟩ : ∃ ms, x.ms = ms := ⟨_, rfl⟩
      rw [hkxe] at T0 hkx
      rw [hmse] at h_m
      have HM0 := Lib.hid h_m
      have HT0 := Lib.hid T0
      have HT1 := Lib.hid T1
      have h_m_7 := h_m.below h_z_7
      have hnm := h_m.lt
      clear hcc hx T0 T1 HLX h_m hkxe hmse
      have q0 := cell_below h_z_7 HT0.out
      have q1 := cell_below h_z_7 HT1.out
      go_wp2_with fail
      clear q0 q1
      have c := ballGreat_any wr kx hkx h_m_7
      refine c.mono ?_
      rintro e w8 ⟨rfl, hb⟩
      clear c
      have B8 := B7.trans (hb.mono B7.size)
      have h_s_8 := h_s_7.below hb
      have h_c_8 := h_c_7.later hb
      have h_p_8 := h_p_7.later hb
      have h_n_8 := h_n_7.later hb
      have h_z_8 := h_z_7.trans (hb.mono h_z_7.size)
      have h_r_8 := h_r_7.below batE_lasts hb
      have h_o_8 := h_o_7.below hb
      have h_m_8 := h_m_7.below hb
      clear hb B7 h_s_7 h_c_7 h_p_7 h_n_7 h_z_7 h_r_7 h_o_7 h_m_7
      by_cases hbig2 : 60 < n_m
      case pos =>
        have hbd : decide (60 < n_m) = true := decide_eq_true hbig2
        go_wp2_with fail
        go_ret
        exact ⟨rfl, B8⟩
      have hbd : decide (60 < n_m) = false := decide_eq_false hbig2
      obtain ⟨⟨fx, fe⟩, hfc⟩ : ∃ r, fillC nm ss seats rule kx ms = r := ⟨_, rfl⟩
      have HFC := Lib.hid hfc
      clear hfc
      go_upto_region 13 with fail
      go_cut [14, 15] from 57 to 65 (fun s14 s15 wx => ∃ g a n c, s14 = Value.pointer (some ⟨g, 0, none⟩) ∧ s15 = Value.int .i64 fe ∧ PRow 40 w8 wx g #[.slice a n c] ∧ Ow .u8 5 w8.heap.size wx a n c fx)
      case first =>
        have k0 := h_c_8.cell 0 _ rfl
        have k1 := h_c_8.cell 1 _ rfl
        have k2 := h_c_8.cell 2 _ rfl
        have k3 := h_c_8.cell 3 _ rfl
        have k4 := cell_below h_z_8 HT0.out
        have k5 := cell_below h_z_8 HT1.out
        have D0 : Below w8.heap.size w8 w8.drew := (Below.refl w8.heap.size w8).drew
        refine wp_region_held_drew (S := (fun w' => Below w8.heap.size w8 w' ∧ w'.cell? ⟨w.heap.size, 0, none⟩ = some (.string nm) ∧ w'.cell? ⟨w.heap.size, 1, none⟩ = some (.slice a_s n_s c_s) ∧ w'.cell? ⟨w.heap.size, 2, none⟩ = some (.int .i64 seats) ∧ w'.cell? ⟨w.heap.size, 3, none⟩ = some (.int .u8 ((rule : Nat) : Int)) ∧ w'.cell? ⟨bb, oo + i * 2, none⟩ = some (.int .u8 ((kx : Nat) : Int)) ∧ w'.cell? ⟨bb, oo + i * 2 + 1, none⟩ = some (.slice a_m n_m c_m))) (by kernel_rfl) ?_ (fun hHeld => ?_)
        · exact ⟨D0, cell_below D0 k0, cell_below D0 k1, cell_below D0 k2, cell_below D0 k3, cell_below D0 k4, cell_below D0 k5⟩
        generalize w8.drew = wd at *
        refine wpAnyH_take (i := 0) (oi := ?oir1_0) (v := ?vr1_0) ?hir1_0 (by kernel_rfl) (by kernel_rfl) (by kernel_rfl) ?hqr1_0 ?hyr1_0 (by assumption) ?restr1_0
        case hir1_0 => simp only [List.getElem?_toArray, List.getElem?_cons_succ, List.getElem?_cons_zero]; rfl
        case hqr1_0 => exact fun _ _ _ h => h
        case hyr1_0 => (refine Or.inl ⟨by rfl, ?_⟩; intro w hSw; (try dsimp only at hSw); go_simp; all_goals with_reducible rfl)
        try simp only [Act.put, List.setIfInBounds_toArray, List.set_cons_zero, List.set_cons_succ]
        refine wpAnyH_take (i := 1) (oi := ?oir1_1) (v := ?vr1_1) ?hir1_1 (by kernel_rfl) (by kernel_rfl) (by kernel_rfl) ?hqr1_1 ?hyr1_1 (by assumption) ?restr1_1
        case hir1_1 => simp only [List.getElem?_toArray, List.getElem?_cons_succ, List.getElem?_cons_zero]; rfl
        case hqr1_1 => exact fun _ _ _ h => h
        case hyr1_1 => (refine Or.inl ⟨by rfl, ?_⟩; intro w hSw; (try dsimp only at hSw); go_simp; all_goals with_reducible rfl)
        try simp only [Act.put, List.setIfInBounds_toArray, List.set_cons_zero, List.set_cons_succ]
        refine wpAnyH_take (i := 2) (oi := ?oir1_2) (v := ?vr1_2) ?hir1_2 (by kernel_rfl) (by kernel_rfl) (by kernel_rfl) ?hqr1_2 ?hyr1_2 (by assumption) ?restr1_2
        case hir1_2 => simp only [List.getElem?_toArray, List.getElem?_cons_succ, List.getElem?_cons_zero]; rfl
        case hqr1_2 => exact fun _ _ _ h => h
        case hyr1_2 => (refine Or.inl ⟨by rfl, ?_⟩; intro w hSw; (try dsimp only at hSw); go_simp; all_goals with_reducible rfl)
        try simp only [Act.put, List.setIfInBounds_toArray, List.set_cons_zero, List.set_cons_succ]
        refine wpAnyH_take (i := 3) (oi := ?oir1_3) (v := ?vr1_3) ?hir1_3 (by kernel_rfl) (by kernel_rfl) (by kernel_rfl) ?hqr1_3 ?hyr1_3 (by assumption) ?restr1_3
        case hir1_3 => simp only [List.getElem?_toArray, List.getElem?_cons_succ, List.getElem?_cons_zero]; rfl
        case hqr1_3 => exact fun _ _ _ h => h
        case hyr1_3 => (refine Or.inl ⟨by rfl, ?_⟩; intro w hSw; (try dsimp only at hSw); go_simp; all_goals with_reducible rfl)
        try simp only [Act.put, List.setIfInBounds_toArray, List.set_cons_zero, List.set_cons_succ]
        refine wpAnyH_take (i := 4) (oi := ?oir1_4) (v := ?vr1_4) ?hir1_4 (by kernel_rfl) (by kernel_rfl) (by kernel_rfl) ?hqr1_4 ?hyr1_4 (by assumption) ?restr1_4
        case hir1_4 => simp only [List.getElem?_toArray, List.getElem?_cons_succ, List.getElem?_cons_zero]; rfl
        case hqr1_4 => exact fun _ _ _ h => h
        case hyr1_4 => (refine Or.inl ⟨by rfl, ?_⟩; intro w hSw; (try dsimp only at hSw); go_simp; all_goals with_reducible rfl)
        try simp only [Act.put, List.setIfInBounds_toArray, List.set_cons_zero, List.set_cons_succ]
        refine wpAnyH_ready (rs := [5, 9]) (by kernel_rfl) (by simp) ?_
        refine (AllReadyH.cons (o := ?ob10_5) ?hob10_5 (fun K hK => ?kb10_5) (AllReadyH.cons (o := ?ob10_9) ?hob10_9 (fun K hK => ?kb10_9) AllReadyH.nil))
        case hob10_5 => simp only [List.getElem?_toArray, List.getElem?_cons_succ, List.getElem?_cons_zero]; rfl
        case hob10_9 => simp only [List.getElem?_toArray, List.getElem?_cons_succ, List.getElem?_cons_zero]; rfl
        case kb10_5 =>
          go_simp
          have c := Fill_any wd nm (h_s_8.below D0) seats hs1 hs2 rule hr kx hkx (h_m_8.below D0)
          rw [HFC.out] at c
          refine c.mono ?_
          rintro e wq ⟨a_x, n_x, c_x, rfl, hx, hq⟩
          clear c
          have hx := hx.base_le D0.size
          have BX := D0.trans (hq.mono D0.size)
          go_wp2_with fail
          refine hK.out _ _ ?_ (fun hHeld => ?_)
          · exact ⟨BX, cell_below BX k0, cell_below BX k1, cell_below BX k2, cell_below BX k3, cell_below BX k4, cell_below BX k5⟩
          clear hK K
          try simp only [Act.put, List.setIfInBounds_toArray, List.set_cons_zero, List.set_cons_succ]
          refine wpAnyH_take (i := 6) (oi := ?oir2_6) (v := ?vr2_6) ?hir2_6 (by kernel_rfl) (by kernel_rfl) (by kernel_rfl) ?hqr2_6 ?hyr2_6 (by assumption) ?restr2_6
          case hir2_6 => simp only [List.getElem?_toArray, List.getElem?_cons_succ, List.getElem?_cons_zero]; rfl
          case hqr2_6 => exact fun _ _ _ h => h
          case hyr2_6 => (refine Or.inl ⟨by rfl, ?_⟩; intro w hSw; (try dsimp only at hSw); go_simp; all_goals with_reducible rfl)
          try simp only [Act.put, List.setIfInBounds_toArray, List.set_cons_zero, List.set_cons_succ]
          refine wpAnyH_take (i := 7) (oi := ?oir2_7) (v := ?vr2_7) ?hir2_7 (by kernel_rfl) (by kernel_rfl) (by kernel_rfl) ?hqr2_7 ?hyr2_7 (by assumption) ?restr2_7
          case hir2_7 => simp only [List.getElem?_toArray, List.getElem?_cons_succ, List.getElem?_cons_zero]; rfl
          case hqr2_7 => exact fun _ _ _ h => h
          case hyr2_7 => (refine Or.inl ⟨by rfl, ?_⟩; intro w hSw; (try dsimp only at hSw); go_simp; all_goals with_reducible rfl)
          try simp only [Act.put, List.setIfInBounds_toArray, List.set_cons_zero, List.set_cons_succ]
          refine wpAnyH_take (i := 8) (oi := ?oir2_8) (v := ?vr2_8) ?hir2_8 (by kernel_rfl) (by kernel_rfl) (by kernel_rfl) ?hqr2_8 ?hyr2_8 (by assumption) ?restr2_8
          case hir2_8 => simp only [List.getElem?_toArray, List.getElem?_cons_succ, List.getElem?_cons_zero]; rfl
          case hqr2_8 => exact fun _ _ _ h => h
          case hyr2_8 => (refine Or.inl ⟨by rfl, ?_⟩; intro w hSw; (try dsimp only at hSw); go_simp; all_goals with_reducible rfl)
          try simp only [Act.put, List.setIfInBounds_toArray, List.set_cons_zero, List.set_cons_succ]
          refine wpAnyH_ready (rs := [9]) (by kernel_rfl) (by simp) ?_
          refine (AllReadyH.cons (o := ?ob5_9) ?hob5_9 (fun K hK => ?kb5_9) AllReadyH.nil)
          case hob5_9 => simp only [List.getElem?_toArray, List.getElem?_cons_succ, List.getElem?_cons_zero]; rfl
          case kb5_9 =>
            go_simp
            refine hK.out _ _ ?_ (fun hHeld => ?_)
            · exact ⟨(BX.trans ((below_al wq _).mono BX.size)), cell_below (BX.trans ((below_al wq _).mono BX.size)) k0, cell_below (BX.trans ((below_al wq _).mono BX.size)) k1, cell_below (BX.trans ((below_al wq _).mono BX.size)) k2, cell_below (BX.trans ((below_al wq _).mono BX.size)) k3, cell_below (BX.trans ((below_al wq _).mono BX.size)) k4, cell_below (BX.trans ((below_al wq _).mono BX.size)) k5⟩
            clear hK K
            try simp only [Act.put, List.setIfInBounds_toArray, List.set_cons_zero, List.set_cons_succ]
            have RA := (PRow.new 40 wq #[.slice none 0 0]).base BX
            have hx2 := hx.below (below_al wq (.cells #[.slice none 0 0] 40))
            refine wpAnyH_ready (rs := [10]) (by kernel_rfl) (by simp) ?_
            refine (AllReadyH.cons (o := ?ob4_10) ?hob4_10 (fun K hK => ?kb4_10) AllReadyH.nil)
            case hob4_10 => simp only [List.getElem?_toArray, List.getElem?_cons_succ, List.getElem?_cons_zero]; rfl
            case kb4_10 =>
              rw [if_pos (by rfl)]
              refine op_store_whole 40 _ _ rfl atShe _ _ _ RA.row rfl rfl rfl rfl (she_one _ _ _) ?_
              refine hK.out _ _ ?_ (fun hHeld => ?_)
              · exact ⟨(RA.put #[.slice a_x n_x c_x]).below, cell_below (RA.put #[.slice a_x n_x c_x]).below k0, cell_below (RA.put #[.slice a_x n_x c_x]).below k1, cell_below (RA.put #[.slice a_x n_x c_x]).below k2, cell_below (RA.put #[.slice a_x n_x c_x]).below k3, cell_below (RA.put #[.slice a_x n_x c_x]).below k4, cell_below (RA.put #[.slice a_x n_x c_x]).below k5⟩
              clear hK K
              try simp only [Act.put, List.setIfInBounds_toArray, List.set_cons_zero, List.set_cons_succ]
              refine wpAnyH_take (i := 11) (oi := ?oir3_11) (v := ?vr3_11) ?hir3_11 (by kernel_rfl) (by kernel_rfl) (by kernel_rfl) ?hqr3_11 ?hyr3_11 (by assumption) ?restr3_11
              case hir3_11 => simp only [List.getElem?_toArray, List.getElem?_cons_succ, List.getElem?_cons_zero]; rfl
              case hqr3_11 => exact fun _ _ _ h => h
              case hyr3_11 => (refine Or.inl ⟨by rfl, ?_⟩; intro w hSw; (try dsimp only at hSw); go_simp; all_goals with_reducible rfl)
              try simp only [Act.put, List.setIfInBounds_toArray, List.set_cons_zero, List.set_cons_succ]
              refine wpAnyH_done (by kernel_rfl) ?_ _
              go_wp2_with fail
              go_meet
              exact ⟨_, a_x, n_x, c_x, rfl, rfl, RA.put _, wide_own hx2 RA.row (by decide) _⟩
        case kb10_9 =>
          go_simp
          refine hK.out _ _ ?_ (fun hHeld => ?_)
          · exact ⟨(D0.trans ((below_al wd _).mono D0.size)), cell_below (D0.trans ((below_al wd _).mono D0.size)) k0, cell_below (D0.trans ((below_al wd _).mono D0.size)) k1, cell_below (D0.trans ((below_al wd _).mono D0.size)) k2, cell_below (D0.trans ((below_al wd _).mono D0.size)) k3, cell_below (D0.trans ((below_al wd _).mono D0.size)) k4, cell_below (D0.trans ((below_al wd _).mono D0.size)) k5⟩
          clear hK K
          try simp only [Act.put, List.setIfInBounds_toArray, List.set_cons_zero, List.set_cons_succ]
          have RA0 := (PRow.new 40 wd #[.slice none 0 0]).base D0
          have D1 := D0.trans ((below_al wd (.cells #[.slice none 0 0] 40)).mono D0.size)
          refine wpAnyH_ready (rs := [5]) (by kernel_rfl) (by simp) ?_
          refine (AllReadyH.cons (o := ?ob9_5) ?hob9_5 (fun K hK => ?kb9_5) AllReadyH.nil)
          case hob9_5 => simp only [List.getElem?_toArray, List.getElem?_cons_succ, List.getElem?_cons_zero]; rfl
          case kb9_5 =>
            go_simp
            have c := Fill_any (wd.alloc (.cells #[.slice none 0 0] 40)) nm (h_s_8.below D1) seats hs1 hs2 rule hr kx hkx (h_m_8.below D1)
            rw [HFC.out] at c
            refine c.mono ?_
            rintro e wq ⟨a_x, n_x, c_x, rfl, hx, hq⟩
            clear c
            have hx := hx.base_le D1.size
            have BX := D1.trans (hq.mono D1.size)
            go_wp2_with fail
            refine hK.out _ _ ?_ (fun hHeld => ?_)
            · exact ⟨BX, cell_below BX k0, cell_below BX k1, cell_below BX k2, cell_below BX k3, cell_below BX k4, cell_below BX k5⟩
            clear hK K
            try simp only [Act.put, List.setIfInBounds_toArray, List.set_cons_zero, List.set_cons_succ]
            have RA := RA0.later hq
            refine wpAnyH_take (i := 6) (oi := ?oir6_6) (v := ?vr6_6) ?hir6_6 (by kernel_rfl) (by kernel_rfl) (by kernel_rfl) ?hqr6_6 ?hyr6_6 (by assumption) ?restr6_6
            case hir6_6 => simp only [List.getElem?_toArray, List.getElem?_cons_succ, List.getElem?_cons_zero]; rfl
            case hqr6_6 => exact fun _ _ _ h => h
            case hyr6_6 => (refine Or.inl ⟨by rfl, ?_⟩; intro w hSw; (try dsimp only at hSw); go_simp; all_goals with_reducible rfl)
            try simp only [Act.put, List.setIfInBounds_toArray, List.set_cons_zero, List.set_cons_succ]
            refine wpAnyH_take (i := 7) (oi := ?oir6_7) (v := ?vr6_7) ?hir6_7 (by kernel_rfl) (by kernel_rfl) (by kernel_rfl) ?hqr6_7 ?hyr6_7 (by assumption) ?restr6_7
            case hir6_7 => simp only [List.getElem?_toArray, List.getElem?_cons_succ, List.getElem?_cons_zero]; rfl
            case hqr6_7 => exact fun _ _ _ h => h
            case hyr6_7 => (refine Or.inl ⟨by rfl, ?_⟩; intro w hSw; (try dsimp only at hSw); go_simp; all_goals with_reducible rfl)
            try simp only [Act.put, List.setIfInBounds_toArray, List.set_cons_zero, List.set_cons_succ]
            refine wpAnyH_take (i := 8) (oi := ?oir6_8) (v := ?vr6_8) ?hir6_8 (by kernel_rfl) (by kernel_rfl) (by kernel_rfl) ?hqr6_8 ?hyr6_8 (by assumption) ?restr6_8
            case hir6_8 => simp only [List.getElem?_toArray, List.getElem?_cons_succ, List.getElem?_cons_zero]; rfl
            case hqr6_8 => exact fun _ _ _ h => h
            case hyr6_8 => (refine Or.inl ⟨by rfl, ?_⟩; intro w hSw; (try dsimp only at hSw); go_simp; all_goals with_reducible rfl)
            try simp only [Act.put, List.setIfInBounds_toArray, List.set_cons_zero, List.set_cons_succ]
            refine wpAnyH_ready (rs := [10]) (by kernel_rfl) (by simp) ?_
            refine (AllReadyH.cons (o := ?ob8_10) ?hob8_10 (fun K hK => ?kb8_10) AllReadyH.nil)
            case hob8_10 => simp only [List.getElem?_toArray, List.getElem?_cons_succ, List.getElem?_cons_zero]; rfl
            case kb8_10 =>
              rw [if_pos (by rfl)]
              refine op_store_whole 40 _ _ rfl atShe _ _ _ RA.row rfl rfl rfl rfl (she_one _ _ _) ?_
              refine hK.out _ _ ?_ (fun hHeld => ?_)
              · exact ⟨(RA.put #[.slice a_x n_x c_x]).below, cell_below (RA.put #[.slice a_x n_x c_x]).below k0, cell_below (RA.put #[.slice a_x n_x c_x]).below k1, cell_below (RA.put #[.slice a_x n_x c_x]).below k2, cell_below (RA.put #[.slice a_x n_x c_x]).below k3, cell_below (RA.put #[.slice a_x n_x c_x]).below k4, cell_below (RA.put #[.slice a_x n_x c_x]).below k5⟩
              clear hK K
              try simp only [Act.put, List.setIfInBounds_toArray, List.set_cons_zero, List.set_cons_succ]
              refine wpAnyH_take (i := 11) (oi := ?oir7_11) (v := ?vr7_11) ?hir7_11 (by kernel_rfl) (by kernel_rfl) (by kernel_rfl) ?hqr7_11 ?hyr7_11 (by assumption) ?restr7_11
              case hir7_11 => simp only [List.getElem?_toArray, List.getElem?_cons_succ, List.getElem?_cons_zero]; rfl
              case hqr7_11 => exact fun _ _ _ h => h
              case hyr7_11 => (refine Or.inl ⟨by rfl, ?_⟩; intro w hSw; (try dsimp only at hSw); go_simp; all_goals with_reducible rfl)
              try simp only [Act.put, List.setIfInBounds_toArray, List.set_cons_zero, List.set_cons_succ]
              refine wpAnyH_done (by kernel_rfl) ?_ _
              go_wp2_with fail
              go_meet
              exact ⟨_, a_x, n_x, c_x, rfl, rfl, RA.put _, wide_own hx RA.row (by decide) _⟩
      case rest =>
      obtain ⟨g_x, a_x, n_x, c_x, rfl, rfl, h_xs_9, h_x_9⟩ := hcut
      have hb := h_xs_9.below
      have B9 := B8.trans (hb.mono B8.size)
      have h_s_9 := h_s_8.below hb
      have h_c_9 := h_c_8.later hb
      have h_p_9 := h_p_8.later hb
      have h_n_9 := h_n_8.later hb
      have h_z_9 := h_z_8.trans (hb.mono h_z_8.size)
      have h_r_9 := h_r_8.below batE_lasts hb
      have h_o_9 := h_o_8.below hb
      have h_m_9 := h_m_8.below hb
      clear hb B8 h_s_8 h_c_8 h_p_8 h_n_8 h_z_8 h_r_8 h_o_8 h_m_8
      obtain ⟨w9, hw⟩ : ∃ w, w = wc := ⟨_, rfl⟩
      subst hw
      by_cases hfe : fe = 0
      case neg =>
        have e1 : (fe == (0 : Int)) = false := by simpa using hfe
        have e2 : (fe != (0 : Int)) = true := by simpa using hfe
        clear hfe
        go_wp2_with fail
        go_roundw
        case rel => exact ⟨i + 1, rc, own, a1, a2, n1, c1, n2, c2, by omega, by go_num, rfl, rfl, Lib.hid h_z_9, Lib.hid h_r_9, Lib.hid h_o_9, Lib.hid HI.out.skip⟩
        case measure => simp [intOf]; omega
      subst hfe
      obtain ⟨hfl, hke, hbc, hrb⟩ := fill_read (p := p) HFC.out
      rw [HKD.out] at hke
      rw [HN.out] at hbc
      obtain rfl : kd = kx := hke.symm
      have HBC := Lib.hid hbc
      have hnx : n_x ≤ 1000 := by have h1 : fx.length = n_x := h_x_9.len; have h2 : fx.length ≤ 110 := hfl; omega
      have HRB := Lib.hid hrb
      clear hfl hrb hbc
      obtain ⟨mp, hmp⟩ : ∃ mp, mayP p = mp := ⟨_, rfl⟩
      have HMP := Lib.hid hmp
      clear hmp
      cases mp
      case false =>
        have k_c_0 := h_c_9.cell 0 _ rfl
        have k_c_1 := h_c_9.cell 1 _ rfl
        have k_c_2 := h_c_9.cell 2 _ rfl
        have k_c_3 := h_c_9.cell 3 _ rfl
        have k_p_0 := h_p_9.cell 0 _ rfl
        have k_p_1 := h_p_9.cell 1 _ rfl
        have k_p_2 := h_p_9.cell 2 _ rfl
        have k_xs_0 := h_xs_9.cell 0 _ rfl
        go_wp2_with fail
        clear k_c_0 k_c_1 k_c_2 k_c_3 k_p_0 k_p_1 k_p_2 k_xs_0
        have c := Read_any w9 nm h_s_9 seats hs1 hs2 rule hr p PWW.out h_x_9.rd (RdD.nils w9) hnx (by decide)
        rw [HRB.out] at c
        rw [HMP.out] at c
        rw [show (if false = true then ((⟨kd, ms, 0, []⟩, 0) : RQ × Int) else (⟨0, [], 0, []⟩, 2)) = (⟨0, [], 0, []⟩, 2) from rfl] at c
        refine c.mono ?_
        rintro e w10 ⟨a_a, n_a, c_a, b_a, m_a, d_a, rfl, h_am_10, h_ad_10, -, hb⟩
        clear c
        have B10 := B9.trans (hb.mono B9.size)
        have h_s_10 := h_s_9.below hb
        have h_c_10 := h_c_9.later hb
        have h_p_10 := h_p_9.later hb
        have h_n_10 := h_n_9.later hb
        have h_z_10 := h_z_9.trans (hb.mono h_z_9.size)
        have h_r_10 := h_r_9.below batE_lasts hb
        have h_o_10 := h_o_9.below hb
        have h_m_10 := h_m_9.below hb
        have h_xs_10 := h_xs_9.later hb
        have h_x_10 := h_x_9.below hb
        clear hb B9 h_s_9 h_c_9 h_p_9 h_n_9 h_z_9 h_r_9 h_o_9 h_m_9 h_xs_9 h_x_9
        have hb := below_al w10 (.cells #[.int .u8 0, .slice a_a n_a c_a, .int .i64 0, .slice b_a m_a d_a] 44)
        have B11 := B10.trans (hb.mono B10.size)
        have h_s_11 := h_s_10.below hb
        have h_c_11 := h_c_10.later hb
        have h_p_11 := h_p_10.later hb
        have h_n_11 := h_n_10.later hb
        have h_z_11 := h_z_10.trans (hb.mono h_z_10.size)
        have h_r_11 := h_r_10.below batE_lasts hb
        have h_o_11 := h_o_10.below hb
        have h_m_11 := h_m_10.below hb
        have h_xs_11 := h_xs_10.later hb
        have h_x_11 := h_x_10.below hb
        have h_am_11 := h_am_10.below hb
        clear hb B10 h_s_10 h_c_10 h_p_10 h_n_10 h_z_10 h_r_10 h_o_10 h_m_10 h_xs_10 h_x_10 h_am_10
        have h_ar_11 := PRow.new 44 w10 #[.int .u8 0, .slice a_a n_a c_a, .int .i64 0, .slice b_a m_a d_a]
        go_wp2_with first | refine wpList_store_new rfl 44 _ _ rfl atRea _ _ _ rfl rfl rfl rfl (rea_one _ _ _ _ _ _ _ _) ?_
        generalize (w10.alloc (.cells #[.int .u8 0, .slice a_a n_a c_a, .int .i64 0, .slice b_a m_a d_a] 44)) = w11 at *
        go_ret
        exact ⟨rfl, B11⟩
      case true =>
        have k_c_0 := h_c_9.cell 0 _ rfl
        have k_c_1 := h_c_9.cell 1 _ rfl
        have k_c_2 := h_c_9.cell 2 _ rfl
        have k_c_3 := h_c_9.cell 3 _ rfl
        have k_p_0 := h_p_9.cell 0 _ rfl
        have k_p_1 := h_p_9.cell 1 _ rfl
        have k_p_2 := h_p_9.cell 2 _ rfl
        have k_xs_0 := h_xs_9.cell 0 _ rfl
        go_wp2_with fail
        clear k_c_0 k_c_1 k_c_2 k_c_3 k_p_0 k_p_1 k_p_2 k_xs_0
        have c := Read_any w9 nm h_s_9 seats hs1 hs2 rule hr p PWW.out h_x_9.rd (RdD.nils w9) hnx (by decide)
        rw [HRB.out] at c
        rw [HMP.out] at c
        rw [show (if true = true then ((⟨kd, ms, 0, []⟩, 0) : RQ × Int) else (⟨0, [], 0, []⟩, 2)) = (⟨kd, ms, 0, []⟩, 0) from rfl] at c
        refine c.mono ?_
        rintro e w10 ⟨a_a, n_a, c_a, b_a, m_a, d_a, rfl, h_am_10, h_ad_10, -, hb⟩
        clear c
        have B10 := B9.trans (hb.mono B9.size)
        have h_s_10 := h_s_9.below hb
        have h_c_10 := h_c_9.later hb
        have h_p_10 := h_p_9.later hb
        have h_n_10 := h_n_9.later hb
        have h_z_10 := h_z_9.trans (hb.mono h_z_9.size)
        have h_r_10 := h_r_9.below batE_lasts hb
        have h_o_10 := h_o_9.below hb
        have h_m_10 := h_m_9.below hb
        have h_xs_10 := h_xs_9.later hb
        have h_x_10 := h_x_9.below hb
        clear hb B9 h_s_9 h_c_9 h_p_9 h_n_9 h_z_9 h_r_9 h_o_9 h_m_9 h_xs_9 h_x_9
        have hb := below_al w10 (.cells #[.int .u8 ((kd : Nat) : Int), .slice a_a n_a c_a, .int .i64 0, .slice b_a m_a d_a] 44)
        have B11 := B10.trans (hb.mono B10.size)
        have h_s_11 := h_s_10.below hb
        have h_c_11 := h_c_10.later hb
        have h_p_11 := h_p_10.later hb
        have h_n_11 := h_n_10.later hb
        have h_z_11 := h_z_10.trans (hb.mono h_z_10.size)
        have h_r_11 := h_r_10.below batE_lasts hb
        have h_o_11 := h_o_10.below hb
        have h_m_11 := h_m_10.below hb
        have h_xs_11 := h_xs_10.later hb
        have h_x_11 := h_x_10.below hb
        have h_am_11 := h_am_10.below hb
        clear hb B10 h_s_10 h_c_10 h_p_10 h_n_10 h_z_10 h_r_10 h_o_10 h_m_10 h_xs_10 h_x_10 h_am_10
        have h_ar_11 := PRow.new 44 w10 #[.int .u8 ((kd : Nat) : Int), .slice a_a n_a c_a, .int .i64 0, .slice b_a m_a d_a]
        obtain ⟨t, ht⟩ : ∃ t, i % 3 = t := ⟨_, rfl⟩
        have ht3 : t < 3 := by omega
        have HTE := Lib.hid ht.symm
        have hrem : Int.tmod ((i : Nat) : Int) 3 = ((t : Nat) : Int) := by rw [← ht]; rfl
        have hi100 : i < 100 := by omega
        have HST := Lib.hid (HI.out.step hi100 HTE.out HBC.out)
        have HRM := Lib.hid (fun h => HI.out.room ht3 h)
        have HSL := Lib.hid (HI.out.small (by omega))
        have HRW := Lib.hid HI.out.recw
        have htz : ((t : Nat) : Int) < 3 := by omega
        clear ht
        have k_ar_0 := h_ar_11.cell 0 _ rfl
        have k_ar_1 := h_ar_11.cell 1 _ rfl
        have k_ar_2 := h_ar_11.cell 2 _ rfl
        have k_ar_3 := h_ar_11.cell 3 _ rfl
        go_upto_region 18 with (first | refine wpList_store_new rfl 44 _ _ rfl atRea _ _ _ rfl rfl rfl rfl (rea_one _ _ _ _ _ _ _ _) ?_)
        clear k_ar_0 k_ar_1 k_ar_2 k_ar_3
        generalize (w10.alloc (.cells #[.int .u8 ((kd : Nat) : Int), .slice a_a n_a c_a, .int .i64 0, .slice b_a m_a d_a] 44)) = w11 at *
        have kn := row_nmT _ _ _ ht3 h_n_11
        have kr0 := h_ar_11.cell 0 _ rfl
        have kr1 := h_ar_11.cell 1 _ rfl
        have hb := (Below.refl w11.heap.size w11).drew
        have kn := cell_below hb kn
        have kr0 := cell_below hb kr0
        have kr1 := cell_below hb kr1
        have B12 := B11.trans (hb.mono B11.size)
        have h_s_12 := h_s_11.below hb
        have h_c_12 := h_c_11.later hb
        have h_p_12 := h_p_11.later hb
        have h_n_12 := h_n_11.later hb
        have h_z_12 := h_z_11.trans (hb.mono h_z_11.size)
        have h_r_12 := h_r_11.below batE_lasts hb
        have h_o_12 := h_o_11.below hb
        have h_m_12 := h_m_11.below hb
        have h_xs_12 := h_xs_11.later hb
        have h_x_12 := h_x_11.below hb
        have h_am_12 := h_am_11.below hb
        have h_ar_12 := h_ar_11.later hb
        clear hb B11 h_s_11 h_c_11 h_p_11 h_n_11 h_z_11 h_r_11 h_o_11 h_m_11 h_xs_11 h_x_11 h_am_11 h_ar_11
        refine wp_region_held_drew (S := (fun v => v.cell? ⟨w5.heap.size, t, none⟩ = some (.string (nmT t)) ∧ v.cell? ⟨w10.heap.size, 0, none⟩ = some (.int .u8 ((kd : Nat) : Int)) ∧ v.cell? ⟨w10.heap.size, 1, none⟩ = some (.slice a_a n_a c_a))) (by kernel_rfl) ?_ (fun hHeld => ?_)
        · exact ⟨kn, kr0, kr1⟩
        generalize w11.drew = w12 at *
        refine wpAnyH_take (i := 0) (oi := ?oir11_0) (v := ?vr11_0) ?hir11_0 (by kernel_rfl) (by kernel_rfl) (by kernel_rfl) ?hqr11_0 ?hyr11_0 (by assumption) ?restr11_0
        case hir11_0 => simp only [List.getElem?_toArray, List.getElem?_cons_succ, List.getElem?_cons_zero]; rfl
        case hqr11_0 => exact fun _ _ _ h => h
        case hyr11_0 => (refine Or.inl ⟨by rfl, ?_⟩; intro w hSw; (try dsimp only at hSw); go_simp; all_goals with_reducible rfl)
        try simp only [Act.put, List.setIfInBounds_toArray, List.set_cons_zero, List.set_cons_succ]
        refine wpAnyH_take (i := 1) (oi := ?oir11_1) (v := ?vr11_1) ?hir11_1 (by kernel_rfl) (by kernel_rfl) (by kernel_rfl) ?hqr11_1 ?hyr11_1 (by assumption) ?restr11_1
        case hir11_1 => simp only [List.getElem?_toArray, List.getElem?_cons_succ, List.getElem?_cons_zero]; rfl
        case hqr11_1 => exact fun _ _ _ h => h
        case hyr11_1 => (refine Or.inl ⟨by rfl, ?_⟩; intro w hSw; (try dsimp only at hSw); go_simp; all_goals with_reducible rfl)
        try simp only [Act.put, List.setIfInBounds_toArray, List.set_cons_zero, List.set_cons_succ]
        refine wpAnyH_take (i := 2) (oi := ?oir11_2) (v := ?vr11_2) ?hir11_2 (by kernel_rfl) (by kernel_rfl) (by kernel_rfl) ?hqr11_2 ?hyr11_2 (by assumption) ?restr11_2
        case hir11_2 => simp only [List.getElem?_toArray, List.getElem?_cons_succ, List.getElem?_cons_zero]; rfl
        case hqr11_2 => exact fun _ _ _ h => h
        case hyr11_2 => (refine Or.inl ⟨by rfl, ?_⟩; intro w hSw; (try dsimp only at hSw); go_simp; all_goals with_reducible rfl)
        try simp only [Act.put, List.setIfInBounds_toArray, List.set_cons_zero, List.set_cons_succ]
        refine wpAnyH_take (i := 3) (oi := ?oir11_3) (v := ?vr11_3) ?hir11_3 (by kernel_rfl) (by kernel_rfl) (by kernel_rfl) ?hqr11_3 ?hyr11_3 (by assumption) ?restr11_3
        case hir11_3 => simp only [List.getElem?_toArray, List.getElem?_cons_succ, List.getElem?_cons_zero]; rfl
        case hqr11_3 => exact fun _ _ _ h => h
        case hyr11_3 => (refine Or.inl ⟨by rfl, ?_⟩; intro w hSw; (try dsimp only at hSw); go_simp; all_goals with_reducible rfl)
        try simp only [Act.put, List.setIfInBounds_toArray, List.set_cons_zero, List.set_cons_succ]
        refine wpAnyH_take (i := 4) (oi := ?oir11_4) (v := ?vr11_4) ?hir11_4 (by kernel_rfl) (by kernel_rfl) (by kernel_rfl) ?hqr11_4 ?hyr11_4 (by assumption) ?restr11_4
        case hir11_4 => simp only [List.getElem?_toArray, List.getElem?_cons_succ, List.getElem?_cons_zero]; rfl
        case hqr11_4 => exact fun _ _ _ h => h
        case hyr11_4 => (refine Or.inl ⟨by rfl, ?_⟩; intro w hSw; (try dsimp only at hSw); go_simp; all_goals with_reducible rfl)
        try simp only [Act.put, List.setIfInBounds_toArray, List.set_cons_zero, List.set_cons_succ]
        refine wpAnyH_take (i := 5) (oi := ?oir11_5) (v := ?vr11_5) ?hir11_5 (by kernel_rfl) (by kernel_rfl) (by kernel_rfl) ?hqr11_5 ?hyr11_5 (by assumption) ?restr11_5
        case hir11_5 => simp only [List.getElem?_toArray, List.getElem?_cons_succ, List.getElem?_cons_zero]; rfl
        case hqr11_5 => exact fun _ _ _ h => h
        case hyr11_5 => (refine Or.inl ⟨by rfl, ?_⟩; intro w hSw; (try dsimp only at hSw); go_simp; all_goals with_reducible rfl)
        try simp only [Act.put, List.setIfInBounds_toArray, List.set_cons_zero, List.set_cons_succ]
        refine wpAnyH_take (i := 6) (oi := ?oir11_6) (v := ?vr11_6) ?hir11_6 (by kernel_rfl) (by kernel_rfl) (by kernel_rfl) ?hqr11_6 ?hyr11_6 (by assumption) ?restr11_6
        case hir11_6 => simp only [List.getElem?_toArray, List.getElem?_cons_succ, List.getElem?_cons_zero]; rfl
        case hqr11_6 => exact fun _ _ _ h => h
        case hyr11_6 => (refine Or.inl ⟨by rfl, ?_⟩; intro w hSw; (try dsimp only at hSw); go_simp; all_goals with_reducible rfl)
        try simp only [Act.put, List.setIfInBounds_toArray, List.set_cons_zero, List.set_cons_succ]
        refine wpAnyH_take (i := 7) (oi := ?oir11_7) (v := ?vr11_7) ?hir11_7 (by kernel_rfl) (by kernel_rfl) (by kernel_rfl) ?hqr11_7 ?hyr11_7 (by assumption) ?restr11_7
        case hir11_7 => simp only [List.getElem?_toArray, List.getElem?_cons_succ, List.getElem?_cons_zero]; rfl
        case hqr11_7 => exact fun _ _ _ h => h
        case hyr11_7 => (refine Or.inl ⟨by rfl, ?_⟩; intro w hSw; (try dsimp only at hSw); go_simp; all_goals with_reducible rfl)
        try simp only [Act.put, List.setIfInBounds_toArray, List.set_cons_zero, List.set_cons_succ]
        refine wpAnyH_take (i := 8) (oi := ?oir11_8) (v := ?vr11_8) ?hir11_8 (by kernel_rfl) (by kernel_rfl) (by kernel_rfl) ?hqr11_8 ?hyr11_8 (by assumption) ?restr11_8
        case hir11_8 => simp only [List.getElem?_toArray, List.getElem?_cons_succ, List.getElem?_cons_zero]; rfl
        case hqr11_8 => exact fun _ _ _ h => h
        case hyr11_8 => (refine Or.inl ⟨by rfl, ?_⟩; intro w hSw; (try dsimp only at hSw); go_simp; all_goals with_reducible rfl)
        try simp only [Act.put, List.setIfInBounds_toArray, List.set_cons_zero, List.set_cons_succ]
        refine wpAnyH_take (i := 9) (oi := ?oir11_9) (v := ?vr11_9) ?hir11_9 (by kernel_rfl) (by kernel_rfl) (by kernel_rfl) ?hqr11_9 ?hyr11_9 (by assumption) ?restr11_9
        case hir11_9 => simp only [List.getElem?_toArray, List.getElem?_cons_succ, List.getElem?_cons_zero]; rfl
        case hqr11_9 => exact fun _ _ _ h => h
        case hyr11_9 => (refine Or.inl ⟨by rfl, ?_⟩; intro w hSw; (try dsimp only at hSw); go_simp; all_goals with_reducible rfl)
        try simp only [Act.put, List.setIfInBounds_toArray, List.set_cons_zero, List.set_cons_succ]
        refine wpAnyH_ready (rs := [10]) (by kernel_rfl) (by simp) ?_
        refine AllReadyH.cons (o := ?oz12) ?hoz12 (fun K hK => ?kz12) AllReadyH.nil
        case hoz12 => simp only [List.getElem?_toArray, List.getElem?_cons_succ, List.getElem?_cons_zero]; rfl
        go_simp
        clear hrem htz
        have HOP := Lib.hid h_o_12
        refine (Put_any w12 ((n_s : Nat) : Int) (by omega) (by omega) kd hk1 hk2 h_r_12 HRW.out (nmT t) (nmT_odd t) (h_am_12.rd oneI) HBC.out HRM.out HSL.out).mono ?_
        rintro e w13 ⟨a3, c3, rfl, hrc, hb⟩
        have HRC := Lib.hid hrc
        clear hrc
        have kn := cell_below hb kn
        have kr0 := cell_below hb kr0
        have kr1 := cell_below hb kr1
        have B13 := B12.trans (hb.mono B12.size)
        have h_s_13 := h_s_12.below hb
        have h_c_13 := h_c_12.later hb
        have h_p_13 := h_p_12.later hb
        have h_n_13 := h_n_12.later hb
        have h_z_13 := h_z_12.trans (hb.mono h_z_12.size)
        have h_o_13 := h_o_12.below hb
        have h_m_13 := h_m_12.below hb
        have h_xs_13 := h_xs_12.later hb
        have h_x_13 := h_x_12.below hb
        have h_am_13 := h_am_12.below hb
        have h_ar_13 := h_ar_12.later hb
        clear hb B12 h_s_12 h_c_12 h_p_12 h_n_12 h_z_12 h_o_12 h_m_12 h_xs_12 h_x_12 h_am_12 h_ar_12
        go_wp2_with fail
        clear hHeld
        refine hK.out _ _ ?_ (fun hHeld => ?_)
        · exact ⟨kn, kr0, kr1⟩
        clear hK K
        try simp only [Act.put, List.setIfInBounds_toArray, List.set_cons_zero, List.set_cons_succ]
        refine wpAnyH_take (i := 11) (oi := ?oir13_11) (v := ?vr13_11) ?hir13_11 (by kernel_rfl) (by kernel_rfl) (by kernel_rfl) ?hqr13_11 ?hyr13_11 (by assumption) ?restr13_11
        case hir13_11 => simp only [List.getElem?_toArray, List.getElem?_cons_succ, List.getElem?_cons_zero]; rfl
        case hqr13_11 => exact fun _ _ _ h => h
        case hyr13_11 => (refine Or.inl ⟨by rfl, ?_⟩; intro w hSw; (try dsimp only at hSw); go_simp; all_goals with_reducible rfl)
        try simp only [Act.put, List.setIfInBounds_toArray, List.set_cons_zero, List.set_cons_succ]
        refine wpAnyH_take (i := 12) (oi := ?oir13_12) (v := ?vr13_12) ?hir13_12 (by kernel_rfl) (by kernel_rfl) (by kernel_rfl) ?hqr13_12 ?hyr13_12 (by assumption) ?restr13_12
        case hir13_12 => simp only [List.getElem?_toArray, List.getElem?_cons_succ, List.getElem?_cons_zero]; rfl
        case hqr13_12 => exact fun _ _ _ h => h
        case hyr13_12 => (refine Or.inl ⟨by rfl, ?_⟩; intro w hSw; (try dsimp only at hSw); go_simp; all_goals with_reducible rfl)
        try simp only [Act.put, List.setIfInBounds_toArray, List.set_cons_zero, List.set_cons_succ]
        refine wpAnyH_take (i := 13) (oi := ?oir13_13) (v := ?vr13_13) ?hir13_13 (by kernel_rfl) (by kernel_rfl) (by kernel_rfl) ?hqr13_13 ?hyr13_13 (by assumption) ?restr13_13
        case hir13_13 => simp only [List.getElem?_toArray, List.getElem?_cons_succ, List.getElem?_cons_zero]; rfl
        case hqr13_13 => exact fun _ _ _ h => h
        case hyr13_13 => (refine Or.inl ⟨by rfl, ?_⟩; intro w hSw; (try dsimp only at hSw); go_simp; all_goals with_reducible rfl)
        try simp only [Act.put, List.setIfInBounds_toArray, List.set_cons_zero, List.set_cons_succ]
        refine wpAnyH_take (i := 14) (oi := ?oir13_14) (v := ?vr13_14) ?hir13_14 (by kernel_rfl) (by kernel_rfl) (by kernel_rfl) ?hqr13_14 ?hyr13_14 (by assumption) ?restr13_14
        case hir13_14 => simp only [List.getElem?_toArray, List.getElem?_cons_succ, List.getElem?_cons_zero]; rfl
        case hqr13_14 => exact fun _ _ _ h => h
        case hyr13_14 => (refine Or.inl ⟨by rfl, ?_⟩; intro w hSw; (try dsimp only at hSw); go_simp; all_goals with_reducible rfl)
        try simp only [Act.put, List.setIfInBounds_toArray, List.set_cons_zero, List.set_cons_succ]
        refine wpAnyH_take (i := 15) (oi := ?oir13_15) (v := ?vr13_15) ?hir13_15 (by kernel_rfl) (by kernel_rfl) (by kernel_rfl) ?hqr13_15 ?hyr13_15 (by assumption) ?restr13_15
        case hir13_15 => simp only [List.getElem?_toArray, List.getElem?_cons_succ, List.getElem?_cons_zero]; rfl
        case hqr13_15 => exact fun _ _ _ h => h
        case hyr13_15 => (refine Or.inl ⟨by rfl, ?_⟩; intro w hSw; (try dsimp only at hSw); go_simp; all_goals with_reducible rfl)
        try simp only [Act.put, List.setIfInBounds_toArray, List.set_cons_zero, List.set_cons_succ]
        refine wpAnyH_done (by kernel_rfl) ?_ _
        clear hHeld kn kr0 kr1
        have q0 := cell_below h_z_13 HT0.out
        have q1 := cell_below h_z_13 HT1.out
        have hz := h_z_13
        have hal := below_al w13 (.cells #[.int .u8 ((kd : Nat) : Int), .slice a_m n_m c_m] 37)
        obtain ⟨hol, ops, hox, hof⟩ := h_o_13
        have HOF := Lib.hid hof
        have HOL := Lib.hid hol
        have HPL := Lib.hid hox.len
        have hn2 : n2 ≤ 100 := by have h1 := HI.out.len; omega
        have hsz := Nat.le_trans hz.size hal.size
        have HOX := Lib.hid (hox.below hal)
        clear hof hol hox
        go_wp2_with (at_builtin; refine wpList_appX rfl _ _ 27 rfl etQ w6.heap.size rfl HOX.out rfl (rdP_new w13 ⟨.int .u8 ((kd : Nat) : Int), .slice a_m n_m c_m, rfl, rfl⟩ 37) (by omega) hsz ?_; intro a4 c4 w9 QX hk4 hb4; refine Hid.out ?_)
        have HO9 := Lib.hid (OwnL.snoc (y := ⟨kd, ms⟩) HOL.out HPL.out HOF.out QX ⟨rfl, by show kd < 256; omega, a_m, n_m, c_m, rfl, HM0.out⟩)
        have HRC9 := Lib.hid (((HRC.out.hi (fun k h1 h2 => hal.block k h2)).beside HOP.out hk4).rd)
        have HZ9 := Lib.hid ((hz.trans (hal.mono hz.size)).trans hb4)
        clear QX hk4 hb4 hal hz q0 q1 hsz HOX HOP HRC
        refine Lib.hid ?_
        go_wp2_with fail
        go_roundw
        case rel => exact ⟨i + 1, _, _, a3, a4, _, c3, n2 + 1, c4, by omega, by go_num, rfl, rfl, HZ9, HRC9, HO9, HST⟩
        case measure => simp [intOf]; omega

end Go.Proofs.Ythpjnbnheagpiaa
