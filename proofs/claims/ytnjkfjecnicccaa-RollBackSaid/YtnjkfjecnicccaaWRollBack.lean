/- The walk of the law RollBack: it returns true and turns nothing that was there. No condition. Printed by gen_rollaws.py. -/
import Derived.Test.YtnjkfjecnicccaaRolY
import Derived.BigQuiet
import Derived.Test.YtnjkfjecnicccaaRolN
import Derived.Test.YtnjkfjecnicccaaRolT
import Derived.Deep.CutRange
namespace Go.Proofs.Ytnjkfjecnicccaa
open Go.RowKit Go.Suf
set_option linter.unusedVariables false
set_option linter.unusedSimpArgs false

set_option maxRecDepth 100000 in
set_option maxHeartbeats 8000000 in
theorem rollBack_walk (w : World) {a_l : Option Addr} {n_l c_l : Nat} {vs : List VQ} (h_l : RdV w a_l n_l c_l vs) {a_b : Option Addr} {n_b c_b : Nat} {xs_b : List Nat} (h_b : Rd .u8 w a_b n_b c_b xs_b) :
    Calls Try.prog 10 #[.slice a_l n_l c_l, .slice a_b n_b c_b] w fun e w' => e = .returned (.bool true) ∧ Below w.heap.size w w' := by
  have HL := Lib.hid h_b.len
  have hlt := h_b.lt
  have HBB := Lib.hid (back_cases2 (xs := xs_b) h_b.bd)
  have HBA := Lib.hid (back_cases vs)
  have B0 : Below w.heap.size w w := Below.refl _ _
  have h_l_0 := h_l
  have h_b_0 := h_b
  go_enter Try.func10, Try.ntmps10
  go_wp2_with fail
  have c := aliveR_any w
  refine c.mono ?_
  rintro e w1 ⟨rfl, hb⟩
  clear c
  have B1 := B0.trans (hb.mono B0.size)
  have h_l_1 := h_l_0.below hb
  have h_b_1 := h_b_0.below hb
  clear hb B0 h_l_0 h_b_0
  go_wp2_with fail
  obtain ⟨gr, hgr⟩ : ∃ gr, greatV vs = gr := ⟨_, rfl⟩
  have GR := Lib.hid hgr
  clear hgr
  have c := Great_any w1 h_l_1
  rw [GR.out] at c
  refine c.mono ?_
  rintro e w2 ⟨rfl, hb⟩
  clear c
  have B2 := B1.trans (hb.mono B1.size)
  have h_l_2 := h_l_1.below hb
  have h_b_2 := h_b_1.below hb
  clear hb B1 h_l_1 h_b_1
  cases gr with
  | true =>
    go_wp2_with fail
    go_ret
    exact ⟨rfl, B2⟩
  | false =>
    by_cases hbig : 20000 < n_b
    case pos =>
      go_wp2_with fail
      go_ret
      exact ⟨rfl, B2⟩
    have hbi : decide ((n_b : Int) > 20000) = false := decide_eq_false (by omega)
    go_wp2_with fail
    rcases HBA.out with ⟨e0, bs, e1, e2, e3⟩ | ⟨ck, ⟨e1, e1b⟩, e2, e3⟩
    case inl =>
      have E2 := Lib.hid e2
      have E3 := Lib.hid e3
      clear e0 e2 e3
      have c := Bytes_any w2 h_l_2
      rw [E2.out] at c
      refine c.mono ?_
      rintro e w3 ⟨a_x, n_x, c_x, rfl, h_x_3, hb⟩
      clear c
      have B3 := B2.trans (hb.mono B2.size)
      have h_l_3 := h_l_2.below hb
      have h_b_3 := h_b_2.below hb
      clear hb B2 h_l_2 h_b_2
      have hnx : n_x ≤ 1099511627776 := Nat.le_trans (Nat.le_of_eq h_x_3.len.symm) (Nat.le_trans e1 (by decide))
      go_wp2_with fail
      have c := Read_any w3 h_x_3.rd hnx
      rw [E3.out] at c
      refine c.mono ?_
      rintro e w4 ⟨a_m, n_m, c_m, rfl, h_m_4, hb⟩
      clear c
      have B4 := B3.trans (hb.mono B3.size)
      have h_l_4 := h_l_3.below hb
      have h_b_4 := h_b_3.below hb
      have h_x_4 := h_x_3.below hb
      clear hb B3 h_l_3 h_b_3 h_x_3
      go_wp2_with fail
      have c := Same_any w4 h_m_4.rd h_l_4
      rw [show decide (vs = vs) = true from decide_eq_true rfl] at c
      refine c.mono ?_
      rintro e w5 ⟨rfl, hb⟩
      clear c
      have B5 := B4.trans (hb.mono B4.size)
      have h_l_5 := h_l_4.below hb
      have h_b_5 := h_b_4.below hb
      have h_x_5 := h_x_4.below hb
      have h_m_5 := h_m_4.below hb
      clear hb B4 h_l_4 h_b_4 h_x_4 h_m_4
      go_wp2_with fail
      rcases HBB.out with ⟨us, e3, e4⟩ | ⟨kq, ⟨e3, e3b⟩, e4⟩
      case inl =>
        have E3 := Lib.hid e3
        have E4 := Lib.hid e4
        clear e3 e4
        have c := Read_any w5 h_b_5 (by omega)
        rw [E3.out] at c
        refine c.mono ?_
        rintro e w6 ⟨a_p, n_p, c_p, rfl, h_p_6, hb⟩
        clear c
        have B6 := B5.trans (hb.mono B5.size)
        have h_l_6 := h_l_5.below hb
        have h_b_6 := h_b_5.below hb
        have h_x_6 := h_x_5.below hb
        have h_m_6 := h_m_5.below hb
        clear hb B5 h_l_5 h_b_5 h_x_5 h_m_5
        go_wp2_with fail
        have c := Bytes_any w6 h_p_6.rd
        rw [E4.out] at c
        refine c.mono ?_
        rintro e w7 ⟨a_y, n_y, c_y, rfl, h_y_7, hb⟩
        clear c
        have B7 := B6.trans (hb.mono B6.size)
        have h_l_7 := h_l_6.below hb
        have h_b_7 := h_b_6.below hb
        have h_x_7 := h_x_6.below hb
        have h_m_7 := h_m_6.below hb
        have h_p_7 := h_p_6.below hb
        clear hb B6 h_l_6 h_b_6 h_x_6 h_m_6 h_p_6
        have cv_y := convB h_y_7.rd
        have cv_b := convB h_b_7
        go_wp2_with fail
        go_ret
        exact ⟨rfl, B7⟩
      case inr =>
        have E4 := Lib.hid e4
        clear e4
        obtain ⟨bz, hbz⟩ : ∃ bz, bytesV [] = bz := ⟨_, rfl⟩
        have HBZ := Lib.hid hbz
        clear hbz
        have c := Read_any w5 h_b_5 (by omega)
        rw [E4.out] at c
        refine c.mono ?_
        rintro e w6 ⟨a_p, n_p, c_p, rfl, h_p_6, hb⟩
        clear c
        have B6 := B5.trans (hb.mono B5.size)
        have h_l_6 := h_l_5.below hb
        have h_b_6 := h_b_5.below hb
        have h_x_6 := h_x_5.below hb
        have h_m_6 := h_m_5.below hb
        clear hb B5 h_l_5 h_b_5 h_x_5 h_m_5
        obtain rfl : n_p = 0 := h_p_6.len.symm
        go_wp2_with fail
        have c := Bytes_any w6 h_p_6.rd
        rw [HBZ.out] at c
        refine c.mono ?_
        rintro e w7 ⟨a_y, n_y, c_y, rfl, h_y_7, hb⟩
        clear c
        have B7 := B6.trans (hb.mono B6.size)
        have h_l_7 := h_l_6.below hb
        have h_b_7 := h_b_6.below hb
        have h_x_7 := h_x_6.below hb
        have h_m_7 := h_m_6.below hb
        have h_p_7 := h_p_6.below hb
        clear hb B6 h_l_6 h_b_6 h_x_6 h_m_6 h_p_6
        have cv_y := convB h_y_7.rd
        have cv_b := convB h_b_7
        go_wp2_with fail
        go_ret
        exact ⟨rfl, B7⟩
    case inr =>
      have E2 := Lib.hid e2
      have E3 := Lib.hid e3
      clear e2 e3
      obtain ⟨rz, hrz⟩ : ∃ rz, readV [] = rz := ⟨_, rfl⟩
      have HRZ := Lib.hid hrz
      clear hrz
      have c := Bytes_any w2 h_l_2
      rw [E3.out] at c
      refine c.mono ?_
      rintro e w3 ⟨a_x, n_x, c_x, rfl, h_x_3, hb⟩
      clear c
      have B3 := B2.trans (hb.mono B2.size)
      have h_l_3 := h_l_2.below hb
      have h_b_3 := h_b_2.below hb
      clear hb B2 h_l_2 h_b_2
      obtain rfl : n_x = 0 := h_x_3.len.symm
      go_wp2_with fail
      have c := Read_any w3 h_x_3.rd (by decide)
      rw [HRZ.out] at c
      refine c.mono ?_
      rintro e w4 ⟨a_m, n_m, c_m, rfl, h_m_4, hb⟩
      clear c
      have B4 := B3.trans (hb.mono B3.size)
      have h_l_4 := h_l_3.below hb
      have h_b_4 := h_b_3.below hb
      have h_x_4 := h_x_3.below hb
      clear hb B3 h_l_3 h_b_3 h_x_3
      go_wp2_with fail
      have c := Check_any w4 h_l_4
      rw [E2.out] at c
      refine c.mono ?_
      rintro e w5 ⟨rfl, hb⟩
      clear c
      have B5 := B4.trans (hb.mono B4.size)
      have h_l_5 := h_l_4.below hb
      have h_b_5 := h_b_4.below hb
      have h_x_5 := h_x_4.below hb
      have h_m_5 := h_m_4.below hb
      clear hb B4 h_l_4 h_b_4 h_x_4 h_m_4
      go_wp2_with fail
      rcases HBB.out with ⟨us, e3, e4⟩ | ⟨kq, ⟨e3, e3b⟩, e4⟩
      case inl =>
        have E3 := Lib.hid e3
        have E4 := Lib.hid e4
        clear e3 e4
        have c := Read_any w5 h_b_5 (by omega)
        rw [E3.out] at c
        refine c.mono ?_
        rintro e w6 ⟨a_p, n_p, c_p, rfl, h_p_6, hb⟩
        clear c
        have B6 := B5.trans (hb.mono B5.size)
        have h_l_6 := h_l_5.below hb
        have h_b_6 := h_b_5.below hb
        have h_x_6 := h_x_5.below hb
        have h_m_6 := h_m_5.below hb
        clear hb B5 h_l_5 h_b_5 h_x_5 h_m_5
        go_wp2_with fail
        have c := Bytes_any w6 h_p_6.rd
        rw [E4.out] at c
        refine c.mono ?_
        rintro e w7 ⟨a_y, n_y, c_y, rfl, h_y_7, hb⟩
        clear c
        have B7 := B6.trans (hb.mono B6.size)
        have h_l_7 := h_l_6.below hb
        have h_b_7 := h_b_6.below hb
        have h_x_7 := h_x_6.below hb
        have h_m_7 := h_m_6.below hb
        have h_p_7 := h_p_6.below hb
        clear hb B6 h_l_6 h_b_6 h_x_6 h_m_6 h_p_6
        have cv_y := convB h_y_7.rd
        have cv_b := convB h_b_7
        go_wp2_with fail
        go_ret
        exact ⟨rfl, B7⟩
      case inr =>
        have E4 := Lib.hid e4
        clear e4
        obtain ⟨bz, hbz⟩ : ∃ bz, bytesV [] = bz := ⟨_, rfl⟩
        have HBZ := Lib.hid hbz
        clear hbz
        have c := Read_any w5 h_b_5 (by omega)
        rw [E4.out] at c
        refine c.mono ?_
        rintro e w6 ⟨a_p, n_p, c_p, rfl, h_p_6, hb⟩
        clear c
        have B6 := B5.trans (hb.mono B5.size)
        have h_l_6 := h_l_5.below hb
        have h_b_6 := h_b_5.below hb
        have h_x_6 := h_x_5.below hb
        have h_m_6 := h_m_5.below hb
        clear hb B5 h_l_5 h_b_5 h_x_5 h_m_5
        obtain rfl : n_p = 0 := h_p_6.len.symm
        go_wp2_with fail
        have c := Bytes_any w6 h_p_6.rd
        rw [HBZ.out] at c
        refine c.mono ?_
        rintro e w7 ⟨a_y, n_y, c_y, rfl, h_y_7, hb⟩
        clear c
        have B7 := B6.trans (hb.mono B6.size)
        have h_l_7 := h_l_6.below hb
        have h_b_7 := h_b_6.below hb
        have h_x_7 := h_x_6.below hb
        have h_m_7 := h_m_6.below hb
        have h_p_7 := h_p_6.below hb
        clear hb B6 h_l_6 h_b_6 h_x_6 h_m_6 h_p_6
        have cv_y := convB h_y_7.rd
        have cv_b := convB h_b_7
        go_wp2_with fail
        go_ret
        exact ⟨rfl, B7⟩

end Go.Proofs.Ytnjkfjecnicccaa
