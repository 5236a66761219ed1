/- The closure of SheetNames reads. Conditions: small sheets. Printed by gen_shenames.py. -/
import Derived.Test.YtlfempfhohejiaaShfA
namespace Go.Proofs.Ytlfempfhohejiaa
open Go.RowKit Go.Suf
set_option linter.unusedVariables false
set_option linter.unusedSimpArgs false

theorem blk_ne2 {w0 w1 w : World} {a b : Nat} {c1 c2 : Array Value} {t1 t2 : TypeId} (h1 : PRow t1 w0 w a c1) (h2 : PRow t2 w1 w b c2) (hne : t1 ≠ t2) : a ≠ b := blk_ne h1.row h2.row hne
/-- A reading and whether it went well. -/
def RetQB (w : World) (r : RQ × Int) : Ending → World → Prop := fun e w' =>
  ∃ a n c b m d, e = .returned (.tuple #[.agg #[.int .u8 ((r.1.kd : Nat) : Int), .slice a n c, .int .i64 r.1.ov, .slice b m d], .bool (r.2 == 0)]) ∧ OwI w.heap.size w' a n c r.1.ms ∧ OwI w.heap.size w' b m d r.1.ds ∧ Below w.heap.size w w'

set_option maxRecDepth 100000 in
set_option maxHeartbeats 8000000 in
theorem namesR_any (w : World) {w0 : World} {G : Nat} {a_s : Option Addr} (h_s : RdS w a_s 3 3 [aS, bS, cS]) (rule : Nat) (hr : rule < 256) (C : PRow 24 w0 w G #[.string xS, .slice a_s 3 3, .int .i64 1, .int .u8 ((rule : Nat) : Int)]) {a_x : Option Addr} {n_x c_x : Nat} {xs : List Nat} (h_x : Rd .u8 w a_x n_x c_x xs) (hn : n_x ≤ 1000) (sk : Int) (hsk : okI sk) {rr : RQ × Int} (hrr : readR xS abcS 1 rule ⟨20, 60, sk⟩ xs [] = rr) : Calls Try.prog 28 #[.slice a_x n_x c_x, .int .i64 sk, .pointer (some ⟨G, 0, none⟩)] w (RetQB w (readR xS abcS 1 rule ⟨20, 60, sk⟩ xs [])) := by
  have hkq0 := hrr
  obtain ⟨⟨⟨kq, mq, oq, dq⟩, er⟩, hr0⟩ : ∃ r, readR xS abcS 1 rule ⟨20, 60, sk⟩ xs [] = r := ⟨_, rfl⟩
  rw [hr0]
  have HRR := Lib.hid hr0
  clear hr0 hkq0 hrr
  have PWW := Lib.hid (show PW ⟨20, 60, sk⟩ from ⟨by show (20 : Nat) < 256; decide, by show (60 : Nat) < 256; decide, hsk⟩)
  have B0 : Below w.heap.size w w := Below.refl _ _
  have h_s_0 := h_s
  have h_x_0 := h_x
  go_enter Try.func28, Try.ntmps28
  have HO0 := Lib.hid B0
  have h_c_0 := C
  have hb := below_al w (.cells #[.int .u8 0, .slice none 0 0, .int .i64 0, .slice none 0 0] 51)
  have B1 := B0.trans (hb.mono B0.size)
  have h_s_1 := h_s_0.below hb
  have h_x_1 := h_x_0.below hb
  have h_c_1 := h_c_0.later hb
  clear hb B0 h_s_0 h_x_0 h_c_0
  have h_o_1 := PRow.new 51 w #[.int .u8 0, .slice none 0 0, .int .i64 0, .slice none 0 0]
  go_upto_region 1 with fail
  generalize (w.alloc (.cells #[.int .u8 0, .slice none 0 0, .int .i64 0, .slice none 0 0] 51)) = w1 at *
  have k_c_0 := h_c_1.cell 0 _ rfl
  have k_c_1 := h_c_1.cell 1 _ rfl
  have k_c_2 := h_c_1.cell 2 _ rfl
  have k_c_3 := h_c_1.cell 3 _ rfl
  go_wp2_with fail
  clear k_c_0 k_c_1 k_c_2 k_c_3
  have HSZ := Lib.hid (And.intro (show w.heap.size ≤ w1.heap.size from B1.size) (show w.heap.size < w1.heap.size from h_o_1.lt))
  have c := Read_any w1 xS h_s_1 1 (by decide) (by decide) rule hr ⟨20, 60, sk⟩ PWW.out h_x_1 (RdD.nils w1) hn (by decide)
  rw [show readR xS [aS, bS, cS] 1 rule ⟨20, 60, sk⟩ xs [] = _ from HRR.out] at c
  refine c.mono ?_
  rintro e w2 ⟨a_q, n_q, c_q, b_q, m_q, d_q, rfl, h_qm_2, h_qd_2, hap_q, hb⟩
  clear c
  have B2 := B1.trans (hb.mono B1.size)
  have h_s_2 := h_s_1.below hb
  have h_x_2 := h_x_1.below hb
  have h_c_2 := h_c_1.later hb
  have h_o_2 := h_o_1.later hb
  clear hb B1 h_s_1 h_x_1 h_c_1 h_o_1
  replace hap_q := Lib.hid hap_q
  have hb := below_al w2 (.cells #[.int .u8 ((kq : Nat) : Int), .slice a_q n_q c_q, .int .i64 oq, .slice b_q m_q d_q] 51)
  have B3 := B2.trans (hb.mono B2.size)
  have h_s_3 := h_s_2.below hb
  have h_x_3 := h_x_2.below hb
  have h_c_3 := h_c_2.later hb
  have h_o_3 := h_o_2.later hb
  have h_qm_3 := h_qm_2.below hb
  have h_qd_3 := h_qd_2.below hb
  clear hb B2 h_s_2 h_x_2 h_c_2 h_o_2 h_qm_2 h_qd_2
  have h_qr_3 := PRow.new 51 w2 #[.int .u8 ((kq : Nat) : Int), .slice a_q n_q c_q, .int .i64 oq, .slice b_q m_q d_q]
  go_upto_region 2 with (first | refine wpList_store_new rfl 51 _ _ rfl atRea _ _ _ rfl rfl rfl rfl (rea_one _ _ _ _ _ _ _ _) ?_)
  generalize (w2.alloc (.cells #[.int .u8 ((kq : Nat) : Int), .slice a_q n_q c_q, .int .i64 oq, .slice b_q m_q d_q] 51)) = w3 at *
  have R := h_o_3
  have q0 := h_qr_3.cell 0 _ rfl
  have q1 := h_qr_3.cell 1 _ rfl
  have q2 := h_qr_3.cell 2 _ rfl
  have q3 := h_qr_3.cell 3 _ rfl
  have hol := h_o_3.lo
  have hom := h_o_3.lt
  have HM := Lib.hid h_qm_3
  have HD := Lib.hid h_qd_3
  have hz1 := HSZ.out.1
  have hz2 := HSZ.out.2
  go_wp2_with first | refine wpList_store_whole rfl 51 _ _ rfl atRea _ _ _ R.row rfl rfl rfl rfl (rea_one _ _ _ _ _ _ _ _) ?_
  refine bodyPost_ret (results_cell_two rfl _ _ _ _ _ _ _ rfl (setRow_heap _ _ _ _ _ _ R.row) Try.underlying51 rfl (by kernel_rfl) _ rfl) rfl ?_
  exact ⟨a_q, n_q, c_q, b_q, m_q, d_q, rfl, (HM.out.rowLow (by omega) _).base_le (by omega), (HD.out.rowLow (by omega) _).base_le (by omega), HO0.out.trans ((R.put _).below.mono HO0.out.size)⟩

end Go.Proofs.Ytlfempfhohejiaa
