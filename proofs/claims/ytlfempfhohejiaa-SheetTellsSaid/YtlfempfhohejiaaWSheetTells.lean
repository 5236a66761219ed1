/- The walk of the law SheetTells: it returns true and turns nothing that was there. No condition. Printed by gen_shelaws.py. -/
import Derived.Test.YtlfempfhohejiaaSheB
import Derived.BigQuiet
import Derived.Deep.CutRange
namespace Go.Proofs.Ytlfempfhohejiaa
open Go.RowKit Go.Suf
set_option linter.unusedVariables false
set_option linter.unusedSimpArgs false

set_option maxRecDepth 100000 in
set_option maxHeartbeats 8000000 in
theorem sheetTells_walk (w : World) (nm : ByteArray) (hnl : nm.size ≤ maxLen) {a_s : Option Addr} {n_s c_s : Nat} {ss : List ByteArray} (h_s : RdS w a_s n_s c_s ss) (hsl : ∀ s ∈ ss, s.size ≤ maxLen) (seats : Int) (hs1 : -9223372036854775808 ≤ seats) (hs2 : seats ≤ 9223372036854775807) (rule : Nat) (hr : rule < 256) {a_x : Option Addr} {n_x c_x : Nat} {xs : List Nat} (h_x : Rd .u8 w a_x n_x c_x xs) :
    Calls Try.prog 3 #[.agg #[.string nm, .slice a_s n_s c_s, .int .i64 seats, .int .u8 ((rule : Nat) : Int)], .agg #[.slice a_x n_x c_x]] w fun e w' => e = .returned (.bool true) ∧ Below w.heap.size w w' := by
  have HN := Lib.hid h_s.len
  have hns := h_s.lt
  have hnx := h_x.lt
  have B0 : Below w.heap.size w w := Below.refl _ _
  have h_s_0 := h_s
  have h_x_0 := h_x
  go_enter Try.func3, Try.ntmps3
  have hb := below_al w (.cells #[.string nm, .slice a_s n_s c_s, .int .i64 seats, .int .u8 ((rule : Nat) : Int)] 24)
  have B1 := B0.trans (hb.mono B0.size)
  have h_s_1 := h_s_0.below hb
  have h_x_1 := h_x_0.below hb
  clear hb B0 h_s_0 h_x_0
  have h_c_1 := PRow.new 24 w #[.string nm, .slice a_s n_s c_s, .int .i64 seats, .int .u8 ((rule : Nat) : Int)]
  have hb := below_al (w.alloc (.cells #[.string nm, .slice a_s n_s c_s, .int .i64 seats, .int .u8 ((rule : Nat) : Int)] 24)) (.cells #[.slice a_x n_x c_x] 27)
  have B2 := B1.trans (hb.mono B1.size)
  have h_s_2 := h_s_1.below hb
  have h_x_2 := h_x_1.below hb
  have h_c_2 := h_c_1.later hb
  clear hb B1 h_s_1 h_x_1 h_c_1
  have h_y_2 := PRow.new 27 (w.alloc (.cells #[.string nm, .slice a_s n_s c_s, .int .i64 seats, .int .u8 ((rule : Nat) : Int)] 24)) #[.slice a_x n_x c_x]
  simp only [World.size_alloc] at h_y_2
  have k_c_0 := h_c_2.cell 0 _ rfl
  have k_c_1 := h_c_2.cell 1 _ rfl
  have k_c_2 := h_c_2.cell 2 _ rfl
  have k_c_3 := h_c_2.cell 3 _ rfl
  go_wp2_with fail
  clear k_c_0 k_c_1 k_c_2 k_c_3
  generalize ((w.alloc (.cells #[.string nm, .slice a_s n_s c_s, .int .i64 seats, .int .u8 ((rule : Nat) : Int)] 24)).alloc (.cells #[.slice a_x n_x c_x] 27)) = w2 at *
  obtain ⟨gr, hgr⟩ : ∃ gr, greatC nm ss = gr := ⟨_, rfl⟩
  have GR := Lib.hid hgr
  clear hgr
  have c := Great_any w2 nm h_s_2 seats rule hr
  rw [GR.out] at c
  refine c.mono ?_
  rintro e w3 ⟨rfl, hb⟩
  clear c
  have B3 := B2.trans (hb.mono B2.size)
  have h_s_3 := h_s_2.below hb
  have h_x_3 := h_x_2.below hb
  have h_c_3 := h_c_2.later hb
  have h_y_3 := h_y_2.later hb
  clear hb B2 h_s_2 h_x_2 h_c_2 h_y_2
  cases gr with
  | true =>
    go_wp2_with fail
    go_ret
    exact ⟨rfl, B3⟩
  | false =>
    by_cases hbig : 1000 < n_x
    case pos =>
      have k_y_0 := h_y_3.cell 0 _ rfl
      go_wp2_with fail
      clear k_y_0
      go_ret
      exact ⟨rfl, B3⟩
    have hbigd : decide ((n_x : Int) > 1000) = false := decide_eq_false (by omega)
    obtain ⟨bc, hbc⟩ : ∃ bc, boxesC nm ss seats rule = bc := ⟨_, rfl⟩
    have HBC := Lib.hid hbc
    clear hbc
    obtain ⟨sc, hsc⟩ : ∃ sc, sheetC nm ss seats rule xs = sc := ⟨_, rfl⟩
    have HSC := Lib.hid hsc
    clear hsc
    have hmk := World.ownsRow_made (e := 5) (size := 1) (base := w3.heap.size) w3 #[] 0 (Nat.le_refl _) (by decide) rfl
    have hbl := below_al w3 (.cells #[] 5)
    have k_y2 := (h_y_3.later hbl).cell 0 _ rfl
    have k_y_0 := h_y_3.cell 0 _ rfl
    go_wp2_with first | (at_builtin; refine wpList_app rfl _ _ 25 rfl etY w3.heap.size rfl hmk rfl (by simpa using h_x_3.len) (h_x_3.below hbl).sl (by unfold maxLen; omega) (by omega) (by simp) ?_; intro a_o c_o wo_o hown hg hbo; refine Hid.out ?_)
    clear k_y_0
    clear k_y2
    simp only [Nat.zero_add, List.nil_append] at hown ⊢
    have h_o_4 : Ow .u8 5 w3.heap.size wo_o a_o n_x c_o xs := ⟨h_x_3.len, hown, h_x_3.bd⟩
    have hb := hbl.trans hbo
    clear hown hg hbo hbl hmk
    have B4 := B3.trans (hb.mono B3.size)
    have h_s_4 := h_s_3.below hb
    have h_x_4 := h_x_3.below hb
    have h_c_4 := h_c_3.later hb
    have h_y_4 := h_y_3.later hb
    clear hb B3 h_s_3 h_x_3 h_c_3 h_y_3
    refine Lib.hid ?_
    have k_c_0 := h_c_4.cell 0 _ rfl
    have k_c_1 := h_c_4.cell 1 _ rfl
    have k_c_2 := h_c_4.cell 2 _ rfl
    have k_c_3 := h_c_4.cell 3 _ rfl
    go_wp2_with fail
    clear k_c_0 k_c_1 k_c_2 k_c_3
    have c := Boxes_any wo_o nm h_s_4 seats hs1 hs2 rule hr
    rw [HBC.out] at c
    refine c.mono ?_
    rintro e w5 ⟨rfl, hb⟩
    clear c
    have B5 := B4.trans (hb.mono B4.size)
    have h_s_5 := h_s_4.below hb
    have h_x_5 := h_x_4.below hb
    have h_c_5 := h_c_4.later hb
    have h_y_5 := h_y_4.later hb
    have h_o_5 := h_o_4.below hb
    clear hb B4 h_s_4 h_x_4 h_c_4 h_y_4 h_o_4
    have k_c_0 := h_c_5.cell 0 _ rfl
    have k_c_1 := h_c_5.cell 1 _ rfl
    have k_c_2 := h_c_5.cell 2 _ rfl
    have k_c_3 := h_c_5.cell 3 _ rfl
    go_wp2_with fail
    clear k_c_0 k_c_1 k_c_2 k_c_3
    have c := refBoxes_any w5 nm h_s_5 seats hs1 hs2 rule hr
    rw [HBC.out] at c
    refine c.mono ?_
    rintro e w6 ⟨rfl, hb⟩
    clear c
    have B6 := B5.trans (hb.mono B5.size)
    have h_s_6 := h_s_5.below hb
    have h_x_6 := h_x_5.below hb
    have h_c_6 := h_c_5.later hb
    have h_y_6 := h_y_5.later hb
    have h_o_6 := h_o_5.below hb
    clear hb B5 h_s_5 h_x_5 h_c_5 h_y_5 h_o_5
    have k_c_0 := h_c_6.cell 0 _ rfl
    have k_c_1 := h_c_6.cell 1 _ rfl
    have k_c_2 := h_c_6.cell 2 _ rfl
    have k_c_3 := h_c_6.cell 3 _ rfl
    go_wp2_with fail
    clear k_c_0 k_c_1 k_c_2 k_c_3
    have c := sheetCheck_any w6 nm h_s_6 seats hs1 hs2 rule hr h_o_6.rd
    rw [HSC.out] at c
    refine c.mono ?_
    rintro e w7 ⟨rfl, hb⟩
    clear c
    have B7 := B6.trans (hb.mono B6.size)
    have h_s_7 := h_s_6.below hb
    have h_x_7 := h_x_6.below hb
    have h_c_7 := h_c_6.later hb
    have h_y_7 := h_y_6.later hb
    have h_o_7 := h_o_6.below hb
    clear hb B6 h_s_6 h_x_6 h_c_6 h_y_6 h_o_6
    have k_c_0 := h_c_7.cell 0 _ rfl
    have k_c_1 := h_c_7.cell 1 _ rfl
    have k_c_2 := h_c_7.cell 2 _ rfl
    have k_c_3 := h_c_7.cell 3 _ rfl
    have k_y_0 := h_y_7.cell 0 _ rfl
    go_wp2_with fail
    clear k_c_0 k_c_1 k_c_2 k_c_3 k_y_0
    have c := refSheetCheck_any w7 nm h_s_7 seats hs1 hs2 rule hr h_x_7
    rw [HSC.out] at c
    refine c.mono ?_
    rintro e w8 ⟨rfl, hb⟩
    clear c
    have B8 := B7.trans (hb.mono B7.size)
    have h_s_8 := h_s_7.below hb
    have h_x_8 := h_x_7.below hb
    have h_c_8 := h_c_7.later hb
    have h_y_8 := h_y_7.later hb
    have h_o_8 := h_o_7.below hb
    clear hb B7 h_s_7 h_x_7 h_c_7 h_y_7 h_o_7
    have cv_o := convY h_o_8.rd
    have cv_x := convY h_x_8
    have k_y_0 := h_y_8.cell 0 _ rfl
    go_wp2_with fail
    clear k_y_0
    go_ret
    exact ⟨rfl, B8⟩

end Go.Proofs.Ytlfempfhohejiaa
