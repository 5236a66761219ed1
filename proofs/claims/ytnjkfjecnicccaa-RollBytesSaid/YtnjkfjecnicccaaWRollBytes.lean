/- The walk of the law RollBytes: it returns true and turns nothing that was there. No condition. Printed by gen_rollaws.py. -/
import Derived.Test.YtnjkfjecnicccaaRolT
import Derived.BigQuiet
import Derived.Deep.CutRange
namespace Go.Proofs.Ytnjkfjecnicccaa
open Go.RowKit Go.Suf
set_option linter.unusedVariables false
set_option linter.unusedSimpArgs false

set_option maxRecDepth 100000 in
set_option maxHeartbeats 8000000 in
theorem rollBytes_walk (w : World) {a_l : Option Addr} {n_l c_l : Nat} {vs : List VQ} (h_l : RdV w a_l n_l c_l vs) {a_b : Option Addr} {n_b c_b : Nat} {xs_b : List Nat} (h_b : Rd .u8 w a_b n_b c_b xs_b) :
    Calls Try.prog 4 #[.slice a_l n_l c_l, .slice a_b n_b c_b] w fun e w' => e = .returned (.bool true) ∧ Below w.heap.size w w' := by
  have HL := Lib.hid h_b.len
  have hlt := h_b.lt
  have B0 : Below w.heap.size w w := Below.refl _ _
  have h_l_0 := h_l
  have h_b_0 := h_b
  go_enter Try.func4, Try.ntmps4
  go_wp2_with fail
  obtain ⟨gr, hgr⟩ : ∃ gr, greatV vs = gr := ⟨_, rfl⟩
  have GR := Lib.hid hgr
  clear hgr
  have c := Great_any w h_l_0
  rw [GR.out] at c
  refine c.mono ?_
  rintro e w1 ⟨rfl, hb⟩
  clear c
  have B1 := B0.trans (hb.mono B0.size)
  have h_l_1 := h_l_0.below hb
  have h_b_1 := h_b_0.below hb
  clear hb B0 h_l_0 h_b_0
  cases gr with
  | true =>
    go_wp2_with fail
    go_ret
    exact ⟨rfl, B1⟩
  | false =>
    by_cases hbig : 20000 < n_b
    case pos =>
      go_wp2_with fail
      go_ret
      exact ⟨rfl, B1⟩
    have hbi : decide ((n_b : Int) > 20000) = false := decide_eq_false (by omega)
    have hmk := World.ownsRow_made (e := 5) (size := 1) (base := w1.heap.size) w1 #[] 0 (Nat.le_refl _) (by decide) rfl
    have hbl := below_al w1 (.cells #[] 5)
    go_wp2_with (at_builtin; refine wpList_app rfl _ _ 34 rfl etB w1.heap.size rfl hmk rfl (by simpa using h_b_1.len) (h_b_1.below hbl).sl (by unfold maxLen; omega) (by omega) (by simp) ?_; intro a_o c_o wo hown hg hbo; refine Hid.out ?_)
    simp only [Nat.zero_add, List.nil_append] at hown ⊢
    have h_o_2 : Ow .u8 5 w1.heap.size wo a_o n_b c_o xs_b := ⟨h_b_1.len, hown, h_b_1.bd⟩
    have hb := hbl.trans hbo
    clear hown hg hbo hbl hmk
    have B2 := B1.trans (hb.mono B1.size)
    have h_l_2 := h_l_1.below hb
    have h_b_2 := h_b_1.below hb
    clear hb B1 h_l_1 h_b_1
    refine Lib.hid ?_
    obtain ⟨bc, hbc⟩ : ∃ bc, bytesV vs = bc := ⟨_, rfl⟩
    have HBC := Lib.hid hbc
    clear hbc
    obtain ⟨rc, hrc⟩ : ∃ rc, readV xs_b = rc := ⟨_, rfl⟩
    have HRC := Lib.hid hrc
    clear hrc
    go_wp2_with fail
    have c := Bytes_any wo h_l_2
    rw [HBC.out] at c
    refine c.mono ?_
    rintro e w3 ⟨a_x, n_x, c_x, rfl, h_x_3, hb⟩
    clear c
    have B3 := B2.trans (hb.mono B2.size)
    have h_l_3 := h_l_2.below hb
    have h_b_3 := h_b_2.below hb
    have h_o_3 := h_o_2.below hb
    clear hb B2 h_l_2 h_b_2 h_o_2
    go_wp2_with fail
    have c := refBytes_any w3 h_l_3
    rw [HBC.out] at c
    refine c.mono ?_
    rintro e w4 ⟨a_y, n_y, c_y, rfl, h_y_4, hb⟩
    clear c
    have B4 := B3.trans (hb.mono B3.size)
    have h_l_4 := h_l_3.below hb
    have h_b_4 := h_b_3.below hb
    have h_o_4 := h_o_3.below hb
    have h_x_4 := h_x_3.below hb
    clear hb B3 h_l_3 h_b_3 h_o_3 h_x_3
    go_wp2_with fail
    have c := Read_any w4 h_o_4.rd (by omega)
    rw [HRC.out] at c
    refine c.mono ?_
    rintro e w5 ⟨a_p, n_p, c_p, rfl, h_p_5, hb⟩
    clear c
    have B5 := B4.trans (hb.mono B4.size)
    have h_l_5 := h_l_4.below hb
    have h_b_5 := h_b_4.below hb
    have h_o_5 := h_o_4.below hb
    have h_x_5 := h_x_4.below hb
    have h_y_5 := h_y_4.below hb
    clear hb B4 h_l_4 h_b_4 h_o_4 h_x_4 h_y_4
    go_wp2_with fail
    have c := refRead_any w5 h_b_5 (by omega)
    rw [HRC.out] at c
    refine c.mono ?_
    rintro e w6 ⟨a_q, n_q, c_q, rfl, h_q_6, hb⟩
    clear c
    have B6 := B5.trans (hb.mono B5.size)
    have h_l_6 := h_l_5.below hb
    have h_b_6 := h_b_5.below hb
    have h_o_6 := h_o_5.below hb
    have h_x_6 := h_x_5.below hb
    have h_y_6 := h_y_5.below hb
    have h_p_6 := h_p_5.below hb
    clear hb B5 h_l_5 h_b_5 h_o_5 h_x_5 h_y_5 h_p_5
    have cv_x := convB h_x_6.rd
    have cv_y := convB h_y_6.rd
    have cv_o := convB h_o_6.rd
    have cv_b := convB h_b_6
    go_wp2_with fail
    clear cv_x cv_y cv_o cv_b
    have c := Same_any w6 h_p_6.rd h_q_6.rd
    rw [show decide (rc.1 = rc.1) = true from decide_eq_true rfl] at c
    refine c.mono ?_
    rintro e w7 ⟨rfl, hb⟩
    clear c
    have B7 := B6.trans (hb.mono B6.size)
    have h_l_7 := h_l_6.below hb
    have h_b_7 := h_b_6.below hb
    have h_o_7 := h_o_6.below hb
    have h_x_7 := h_x_6.below hb
    have h_y_7 := h_y_6.below hb
    have h_p_7 := h_p_6.below hb
    have h_q_7 := h_q_6.below hb
    clear hb B6 h_l_6 h_b_6 h_o_6 h_x_6 h_y_6 h_p_6 h_q_6
    have cv_x := convB h_x_7.rd
    have cv_y := convB h_y_7.rd
    have cv_o := convB h_o_7.rd
    have cv_b := convB h_b_7
    go_wp2_with fail
    go_ret
    exact ⟨rfl, B7⟩

end Go.Proofs.Ytnjkfjecnicccaa
