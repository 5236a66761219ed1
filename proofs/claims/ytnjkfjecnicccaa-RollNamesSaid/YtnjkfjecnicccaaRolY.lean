/- two, alive. Conditions: none. Printed by gen_roly.py. -/
import Derived.Test.YtnjkfjecnicccaaRolX
namespace Go.Proofs.Ytnjkfjecnicccaa
open Go.RowKit Go.Suf
set_option linter.unusedVariables false
set_option linter.unusedSimpArgs false

set_option maxRecDepth 100000 in
set_option maxHeartbeats 4000000 in
theorem two_any (w : World) : Calls Try.prog 29 #[] w fun e w' => ∃ a cap, e = .returned (.tuple #[.slice a 2 cap, .bool true]) ∧ OwV w.heap.size w' a 2 cap twoV ∧ Below w.heap.size w w' := by
  have B0 : Below w.heap.size w w := Below.refl _ _
  go_enter Try.func29, Try.ntmps29
  go_wp2_with fail
  have c := Add_any w (OwV.nil 0 w).rd bobS 1 (by decide) (by decide)
  rw [ex_bob] at c
  refine c.mono ?_
  rintro e w1 ⟨a_a, n_a, c_a, rfl, h_a_1, hb⟩
  clear c
  have B1 := B0.trans (hb.mono B0.size)
  clear hb B0
  go_wp2_with fail
  have c := Add_any w1 h_a_1.rd annS 1 (by decide) (by decide)
  rw [ex_ann] at c
  refine c.mono ?_
  rintro e w2 ⟨a_b, n_b, c_b, rfl, h_b_2, hb⟩
  clear c
  have B2 := B1.trans (hb.mono B1.size)
  have h_a_2 := h_a_1.below hb
  clear hb B1 h_a_1
  go_wp2_with fail
  have c := Issue_any w2 h_b_2.rd bobS
  rw [ex_issue] at c
  refine c.mono ?_
  rintro e w3 ⟨a_c, n_c, c_c, rfl, h_c_3, hb⟩
  clear c
  have B3 := B2.trans (hb.mono B2.size)
  have h_a_3 := h_a_2.below hb
  have h_b_3 := h_b_2.below hb
  clear hb B2 h_a_2 h_b_2
  go_wp2_with fail
  have HS := Lib.hid B3.size
  have c := Vote_any w3 h_c_3.rd bobS
  rw [ex_vote] at c
  refine c.mono ?_
  rintro e w4 ⟨a_d, n_d, c_d, rfl, h_d_4, hb⟩
  clear c
  have B4 := B3.trans (hb.mono B3.size)
  have h_a_4 := h_a_3.below hb
  have h_b_4 := h_b_3.below hb
  have h_c_4 := h_c_3.below hb
  clear hb B3 h_a_3 h_b_3 h_c_3
  obtain rfl : n_d = 2 := h_d_4.len.symm
  have HO := Lib.hid h_d_4
  clear h_a_4 h_b_4 h_c_4 h_d_4
  go_wp2_with fail
  go_ret2
  exact ⟨_, _, rfl, HO.out.base_le HS.out, B4⟩

set_option maxRecDepth 100000 in
set_option maxHeartbeats 4000000 in
theorem aliveR_any (w : World) : Calls Try.prog 28 #[] w fun e w' => e = .returned (.bool true) ∧ Below w.heap.size w w' := by
  have B0 : Below w.heap.size w w := Below.refl _ _
  go_enter Try.func28, Try.ntmps28
  go_wp2_with fail
  have c := two_any w
  refine c.mono ?_
  rintro e w1 ⟨a_l, c_l, rfl, h_l_1, hb⟩
  clear c
  have B1 := B0.trans (hb.mono B0.size)
  clear hb B0
  go_wp2_with fail
  have c := Issue_any w1 h_l_1.rd bobS
  rw [ex_again] at c
  refine c.mono ?_
  rintro e w2 ⟨a_i, n_i, c_i, rfl, h_i_2, hb⟩
  clear c
  have B2 := B1.trans (hb.mono B1.size)
  have h_l_2 := h_l_1.below hb
  clear hb B1 h_l_1
  go_wp2_with fail
  have c := Count_any w2 h_l_2.rd (-1) (by decide) (by decide)
  rw [ex_count] at c
  refine c.mono ?_
  rintro e w3 ⟨rfl, hb⟩
  clear c
  have B3 := B2.trans (hb.mono B2.size)
  have h_l_3 := h_l_2.below hb
  have h_i_3 := h_i_2.below hb
  clear hb B2 h_l_2 h_i_2
  have hb := below_al w3 (.cells #[.int .i64 1, .int .i64 0, .int .i64 1, .int .i64 0] 47)
  have B4 := B3.trans (hb.mono B3.size)
  have h_l_4 := h_l_3.below hb
  have h_i_4 := h_i_3.below hb
  clear hb B3 h_l_3 h_i_3
  have h_t_4 := PRow.new 47 w3 #[.int .i64 1, .int .i64 0, .int .i64 1, .int .i64 0]
  obtain ⟨b, off, rfl, hcc⟩ := h_l_4.rd.addr (by omega)
  obtain ⟨k00, k01, k02⟩ := hcc 0 (by omega)
  obtain ⟨k10, k11, k12⟩ := hcc 1 (by omega)
  replace k00 : World.cell? _ ⟨b, off, none⟩ = some (.string ⟨#[97, 110, 110]⟩) := k00
  replace k01 : World.cell? _ ⟨b, off + 1, none⟩ = some (.int .i64 1) := k01
  replace k02 : World.cell? _ ⟨b, off + 2, none⟩ = some (.int .u8 1) := k02
  have k12b : World.cell? _ ⟨b, off + 3 + 2, none⟩ = some (.int .u8 3) := k12
  replace k12 : World.cell? _ ⟨b, off + 5, none⟩ = some (.int .u8 3) := k12
  clear hcc k10 k11
  have k_t_0 := h_t_4.cell 0 _ rfl
  have k_t_1 := h_t_4.cell 1 _ rfl
  have k_t_2 := h_t_4.cell 2 _ rfl
  have k_t_3 := h_t_4.cell 3 _ rfl
  go_wp2_with first | refine wpList_store_new rfl 47 _ _ rfl atTur _ _ _ rfl rfl rfl rfl (tur_one 1 0 1 0) ?_
  clear k_t_0 k_t_1 k_t_2 k_t_3
  generalize (w3.alloc (.cells #[.int .i64 1, .int .i64 0, .int .i64 1, .int .i64 0] 47)) = w4 at *
  go_ret
  exact ⟨rfl, B4⟩

end Go.Proofs.Ytnjkfjecnicccaa
