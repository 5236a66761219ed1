/- Profiles: Check, may, whole of valid ones. Conditions: valid profiles of at most 1,000 ballots. Printed by gen_topi.py. -/
import Derived.Test.YthpjnbnheagpiaaTopH
namespace Go.Proofs.Ythpjnbnheagpiaa
open Go.RowKit Go.Suf
set_option linter.unusedVariables false
set_option linter.unusedSimpArgs false

def chkF (rs : List RwQ) : Int := if 64 < rs.length then 9 else 0
set_option maxRecDepth 100000 in
set_option maxHeartbeats 4000000 in
theorem checkP_any (w : World) (cn : Int) (hc1 : 1 ≤ cn) (hc2 : cn ≤ 10) (kd : Nat) (hk1 : 1 ≤ kd) (hk2 : kd ≤ 3) {a_r : Option Addr} {n_r c_r : Nat} {rs : List RwQ} (h_r : RdR w a_r n_r c_r rs) (hV : VR kd cn rs) : Calls Try.prog 75 #[.agg #[.int .i64 cn, .int .u8 ((kd : Nat) : Int), .slice a_r n_r c_r]] w (fun e w' => e = .returned (.int .i64 (chkF rs)) ∧ Below w.heap.size w w') := by
  have HRW := Lib.hid h_r
  have HL := Lib.hid h_r.len
  have hn := h_r.lt
  have HV := Lib.hid hV
  clear hV h_r
  have B0 : Below w.heap.size w w := Below.refl _ _
  go_enter Try.func75, Try.ntmps75
  have hb := below_al w (.cells #[.int .i64 cn, .int .u8 ((kd : Nat) : Int), .slice a_r n_r c_r] 51)
  have B1 := B0.trans (hb.mono B0.size)
  clear hb B0
  have h_p_1 := PRow.new 51 w #[.int .i64 cn, .int .u8 ((kd : Nat) : Int), .slice a_r n_r c_r]
  by_cases hbig : 64 < n_r
  case pos =>
    have HF := Lib.hid (show chkF rs = 9 by unfold chkF; rw [HL.out, if_pos hbig])
    have hbd : decide (((n_r : Nat) : Int) > 64) = true := decide_eq_true (by omega)
    have k_p_0 := h_p_1.cell 0 _ rfl
    have k_p_1 := h_p_1.cell 1 _ rfl
    have k_p_2 := h_p_1.cell 2 _ rfl
    go_wp2_with fail
    clear k_p_0 k_p_1 k_p_2
    generalize (w.alloc (.cells #[.int .i64 cn, .int .u8 ((kd : Nat) : Int), .slice a_r n_r c_r] 51)) = w1 at *
    go_ret
    exact ⟨by rw [HF.out]; rfl, B1⟩
  have HF := Lib.hid (show chkF rs = 0 by unfold chkF; rw [HL.out, if_neg hbig])
  have hbd : decide (((n_r : Nat) : Int) > 64) = false := decide_eq_false (by omega)
  have k_p_0 := h_p_1.cell 0 _ rfl
  have k_p_1 := h_p_1.cell 1 _ rfl
  have k_p_2 := h_p_1.cell 2 _ rfl
  go_upto_region 3 with fail
  clear k_p_0 k_p_1 k_p_2
  generalize (w.alloc (.cells #[.int .i64 cn, .int .u8 ((kd : Nat) : Int), .slice a_r n_r c_r] 51)) = w1 at *
  have HS0 := Lib.hid B1
  have hb := below_al w1 (.cells #[.int .i64 0] 3)
  have B2 := B1.trans (hb.mono B1.size)
  have h_p_2 := h_p_1.later hb
  clear hb B1 h_p_1
  have h_s_2 := (PRow.new 3 w1 #[.int .i64 0]).base HS0.out
  have HF0 := Lib.hid B2
  have hb := below_al (w1.alloc (.cells #[.int .i64 0] 3)) (.cells #[.bool true] 4)
  have B3 := B2.trans (hb.mono B2.size)
  have h_p_3 := h_p_2.later hb
  have h_s_3 := h_s_2.later hb
  clear hb B2 h_p_2 h_s_2
  have h_f_3 := (PRow.new 4 (w1.alloc (.cells #[.int .i64 0] 3)) #[.bool true]).base HF0.out
  simp only [World.size_alloc] at h_f_3
  go_upto_region 4 with fail
  generalize ((w1.alloc (.cells #[.int .i64 0] 3)).alloc (.cells #[.bool true] 4)) = w3 at *
  have k_p_0 := h_p_3.cell 0 _ rfl
  have k_p_1 := h_p_3.cell 1 _ rfl
  have k_p_2 := h_p_3.cell 2 _ rfl
  go_wp2_with fail
  clear k_p_0 k_p_1 k_p_2
  refine (allRows_any (w0 := w) w3 cn hc1 hc2 kd (by omega) h_f_3 h_s_3 h_p_3 HRW.out HV.out).mono ?_
  rintro e wa ⟨rfl, ⟨fi, F2⟩, S2, P2⟩
  clear h_f_3 h_s_3 h_p_3 B3
  have B4 := F2.below
  have h_s_4 := S2
  have h_p_4 := P2
  clear F2 S2 P2
  have k_p_0 := h_p_4.cell 0 _ rfl
  have k_p_1 := h_p_4.cell 1 _ rfl
  have k_p_2 := h_p_4.cell 2 _ rfl
  go_wp2_with fail
  clear k_p_0 k_p_1 k_p_2
  have c := New_any wa cn hc1 hc2 kd hk1 hk2
  refine c.mono ?_
  rintro e w5 ⟨rfl, hb⟩
  clear c
  have B5 := B4.trans (hb.mono B4.size)
  have h_s_5 := h_s_4.later hb
  have h_p_5 := h_p_4.later hb
  clear hb B4 h_s_4 h_p_4
  have hb := below_al w5 (.cells #[.int .i64 cn, .int .u8 ((kd : Nat) : Int), .slice none 0 0] 51)
  have B6 := B5.trans (hb.mono B5.size)
  have h_s_6 := h_s_5.later hb
  have h_p_6 := h_p_5.later hb
  clear hb B5 h_s_5 h_p_5
  have hsm := HV.out.sum
  have d1 : decide (sumR rs > 1000000) = false := decide_eq_false (by omega)
  have d2 : decide (1000000 < sumR rs) = false := decide_eq_false (by omega)
  clear hsm
  have k_s_0 := h_s_6.cell 0 _ rfl
  go_wp2_with first | refine wpList_store_new rfl 51 _ _ rfl atPrf _ _ _ rfl rfl rfl rfl (prf_one _ _ _ _ _) ?_
  clear k_s_0
  generalize (w5.alloc (.cells #[.int .i64 cn, .int .u8 ((kd : Nat) : Int), .slice none 0 0] 51)) = w6 at *
  go_ret
  exact ⟨by rw [HF.out]; rfl, B6⟩

/-- A profile that may be too long. -/
def wholeV (cn : Int) (kd : Nat) (a : Option Addr) (n c : Nat) (e : Int) : Value := if e = 0 then .tuple #[.agg #[.int .i64 cn, .int .u8 ((kd : Nat) : Int), .slice a n c], .int .i64 0] else .tuple #[.agg #[.int .i64 0, .int .u8 0, .slice none 0 0], .int .i64 e]
set_option maxRecDepth 100000 in
set_option maxHeartbeats 4000000 in
theorem whole_any (w : World) (cn : Int) (hc1 : 1 ≤ cn) (hc2 : cn ≤ 10) (kd : Nat) (hk1 : 1 ≤ kd) (hk2 : kd ≤ 3) {a_r : Option Addr} {n_r c_r : Nat} {rs : List RwQ} (h_r : RdR w a_r n_r c_r rs) (hV : VR kd cn rs) : Calls Try.prog 62 #[.agg #[.int .i64 cn, .int .u8 ((kd : Nat) : Int), .slice a_r n_r c_r]] w (fun e w' => e = .returned (wholeV cn kd a_r n_r c_r (chkF rs)) ∧ Below w.heap.size w w') := by
  have HRW := Lib.hid h_r
  have HV := Lib.hid hV
  have HL := Lib.hid h_r.len
  clear hV h_r
  have B0 : Below w.heap.size w w := Below.refl _ _
  go_enter Try.func62, Try.ntmps62
  have hb := below_al w (.cells #[.int .i64 cn, .int .u8 ((kd : Nat) : Int), .slice a_r n_r c_r] 51)
  have B1 := B0.trans (hb.mono B0.size)
  clear hb B0
  have h_p_1 := PRow.new 51 w #[.int .i64 cn, .int .u8 ((kd : Nat) : Int), .slice a_r n_r c_r]
  have HO0 := Lib.hid B1
  have hb := below_al (w.alloc (.cells #[.int .i64 cn, .int .u8 ((kd : Nat) : Int), .slice a_r n_r c_r] 51)) (.cells #[.int .i64 0, .int .u8 0, .slice none 0 0] 51)
  have B2 := B1.trans (hb.mono B1.size)
  have h_p_2 := h_p_1.later hb
  clear hb B1 h_p_1
  have h_o_2 := PRow.new 51 (w.alloc (.cells #[.int .i64 cn, .int .u8 ((kd : Nat) : Int), .slice a_r n_r c_r] 51)) #[.int .i64 0, .int .u8 0, .slice none 0 0]
  simp only [World.size_alloc] at h_o_2
  have k_p_0 := h_p_2.cell 0 _ rfl
  have k_p_1 := h_p_2.cell 1 _ rfl
  have k_p_2 := h_p_2.cell 2 _ rfl
  go_wp2_with fail
  clear k_p_0 k_p_1 k_p_2
  generalize ((w.alloc (.cells #[.int .i64 cn, .int .u8 ((kd : Nat) : Int), .slice a_r n_r c_r] 51)).alloc (.cells #[.int .i64 0, .int .u8 0, .slice none 0 0] 51)) = w2 at *
  have c := checkP_any w2 cn hc1 hc2 kd hk1 hk2 (HRW.out.below rowE_lasts B2) HV.out
  refine c.mono ?_
  rintro e w3 ⟨rfl, hb⟩
  clear c
  have B3 := B2.trans (hb.mono B2.size)
  have h_p_3 := h_p_2.later hb
  have h_o_3 := h_o_2.later hb
  clear hb B2 h_p_2 h_o_2
  by_cases hbig : 64 < rs.length
  case pos =>
    have HF := Lib.hid (show chkF rs = 9 by unfold chkF; rw [if_pos hbig])
    rw [HF.out]
    have R := h_o_3
    have k_p_0 := h_p_3.cell 0 _ rfl
    have k_p_1 := h_p_3.cell 1 _ rfl
    have k_p_2 := h_p_3.cell 2 _ rfl
    have k_o_0 := h_o_3.cell 0 _ rfl
    have k_o_1 := h_o_3.cell 1 _ rfl
    have k_o_2 := h_o_3.cell 2 _ rfl
    go_wp2_with first | refine wpList_store_whole rfl 51 _ _ rfl atPrf _ _ _ R.row rfl rfl rfl rfl (prf_one _ _ _ _ _) ?_
    clear k_p_0 k_p_1 k_p_2 k_o_0 k_o_1 k_o_2
    refine bodyPost_ret (results_cell_two rfl _ _ _ _ _ _ _ rfl (setRow_heap _ _ _ _ _ _ R.row) Try.underlying51 rfl (by kernel_rfl) _ rfl) rfl ?_
    exact ⟨by rw [HF.out]; rfl, HO0.out.trans ((R.put _).below.mono HO0.out.size)⟩
  case neg =>
    have HF := Lib.hid (show chkF rs = 0 by unfold chkF; rw [if_neg hbig])
    rw [HF.out]
    have R := h_o_3
    have k_p_0 := h_p_3.cell 0 _ rfl
    have k_p_1 := h_p_3.cell 1 _ rfl
    have k_p_2 := h_p_3.cell 2 _ rfl
    have k_o_0 := h_o_3.cell 0 _ rfl
    have k_o_1 := h_o_3.cell 1 _ rfl
    have k_o_2 := h_o_3.cell 2 _ rfl
    go_wp2_with first | refine wpList_store_whole rfl 51 _ _ rfl atPrf _ _ _ R.row rfl rfl rfl rfl (prf_one _ _ _ _ _) ?_
    clear k_p_0 k_p_1 k_p_2 k_o_0 k_o_1 k_o_2
    refine bodyPost_ret (results_cell_two rfl _ _ _ _ _ _ _ rfl (setRow_heap _ _ _ _ _ _ R.row) Try.underlying51 rfl (by kernel_rfl) _ rfl) rfl ?_
    exact ⟨by rw [HF.out]; rfl, HO0.out.trans ((R.put _).below.mono HO0.out.size)⟩

set_option maxRecDepth 100000 in
set_option maxHeartbeats 4000000 in
theorem mayAdd_any (w : World) (cn : Int) (hc1 : 1 ≤ cn) (hc2 : cn ≤ 10) (kd : Nat) (hk1 : 1 ≤ kd) (hk2 : kd ≤ 3) {a_r : Option Addr} {n_r c_r : Nat} {rs : List RwQ} (h_r : RdR w a_r n_r c_r rs) (hV : VR kd cn rs) (hlen : rs.length ≤ 64) {a_m : Option Addr} {n_m c_m : Nat} {m : List Int} (h_m : RdI w a_m n_m c_m m) (hbf : ballC kd m cn = 0) : Calls Try.prog 59 #[.agg #[.int .i64 cn, .int .u8 ((kd : Nat) : Int), .slice a_r n_r c_r], .agg #[.int .u8 ((kd : Nat) : Int), .slice a_m n_m c_m], .int .i64 1] w (fun e w' => e = .returned (.int .i64 0) ∧ Below w.heap.size w w') := by
  have HRW := Lib.hid h_r
  have HV := Lib.hid hV
  have HBF := Lib.hid hbf
  have HS := Lib.hid (show chkF rs = 0 by unfold chkF; rw [if_neg (by omega)])
  clear hV h_r hbf
  have B0 : Below w.heap.size w w := Below.refl _ _
  have h_m_0 := h_m
  go_enter Try.func59, Try.ntmps59
  have hb := below_al w (.cells #[.int .i64 cn, .int .u8 ((kd : Nat) : Int), .slice a_r n_r c_r] 51)
  have B1 := B0.trans (hb.mono B0.size)
  have h_m_1 := h_m_0.below hb
  clear hb B0 h_m_0
  have h_p_1 := PRow.new 51 w #[.int .i64 cn, .int .u8 ((kd : Nat) : Int), .slice a_r n_r c_r]
  have hb := below_al (w.alloc (.cells #[.int .i64 cn, .int .u8 ((kd : Nat) : Int), .slice a_r n_r c_r] 51)) (.cells #[.int .u8 ((kd : Nat) : Int), .slice a_m n_m c_m] 37)
  have B2 := B1.trans (hb.mono B1.size)
  have h_m_2 := h_m_1.below hb
  have h_p_2 := h_p_1.later hb
  clear hb B1 h_m_1 h_p_1
  have h_b_2 := PRow.new 37 (w.alloc (.cells #[.int .i64 cn, .int .u8 ((kd : Nat) : Int), .slice a_r n_r c_r] 51)) #[.int .u8 ((kd : Nat) : Int), .slice a_m n_m c_m]
  simp only [World.size_alloc] at h_b_2
  have k_p_0 := h_p_2.cell 0 _ rfl
  have k_p_1 := h_p_2.cell 1 _ rfl
  have k_p_2 := h_p_2.cell 2 _ rfl
  go_wp2_with fail
  clear k_p_0 k_p_1 k_p_2
  generalize ((w.alloc (.cells #[.int .i64 cn, .int .u8 ((kd : Nat) : Int), .slice a_r n_r c_r] 51)).alloc (.cells #[.int .u8 ((kd : Nat) : Int), .slice a_m n_m c_m] 37)) = w2 at *
  have c := checkP_any w2 cn hc1 hc2 kd hk1 hk2 (HRW.out.below rowE_lasts B2) HV.out
  rw [HS.out] at c
  refine c.mono ?_
  rintro e w3 ⟨rfl, hb⟩
  clear c
  have B3 := B2.trans (hb.mono B2.size)
  have h_m_3 := h_m_2.below hb
  have h_p_3 := h_p_2.later hb
  have h_b_3 := h_b_2.later hb
  clear hb B2 h_m_2 h_p_2 h_b_2
  have e0 : (((kd : Nat) : Int) != ((kd : Nat) : Int)) = false := by simp
  have k_p_0 := h_p_3.cell 0 _ rfl
  have k_p_1 := h_p_3.cell 1 _ rfl
  have k_p_2 := h_p_3.cell 2 _ rfl
  have k_b_0 := h_b_3.cell 0 _ rfl
  have k_b_1 := h_b_3.cell 1 _ rfl
  go_wp2_with fail
  clear k_p_0 k_p_1 k_p_2 k_b_0 k_b_1
  have c := ballCheck_any w3 kd (by omega) h_m_3 cn
  rw [HBF.out] at c
  refine c.mono ?_
  rintro e w4 ⟨rfl, hb⟩
  clear c
  have B4 := B3.trans (hb.mono B3.size)
  have h_m_4 := h_m_3.below hb
  have h_p_4 := h_p_3.later hb
  have h_b_4 := h_b_3.later hb
  clear hb B3 h_m_3 h_p_3 h_b_3
  go_wp2_with fail
  go_ret
  exact ⟨rfl, B4⟩

end Go.Proofs.Ythpjnbnheagpiaa
