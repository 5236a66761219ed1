/- The walk of the law RatioOf: it returns true and turns nothing that was there. No condition. Printed by gen_ratlaws.py. -/
import Derived.Test.YtdaajeklnhbhjaaDoorRatX
import Derived.Test.YtdaajeklnhbhjaaDoorRatV
import Derived.BigQuiet
import Derived.Deep.CutRange
namespace Go.Proofs.YtdaajeklnhbhjaaDoor
open Go.RowKit Go.Suf
set_option linter.unusedVariables false
set_option linter.unusedSimpArgs false

theorem w64_small {x : Int} (h : -9223372036854775808 ≤ x) (h2 : x < 9223372036854775808) : wrap64 x = x := by
  simp only [wrap64]
  omega
theorem of_one (n : Int) : ofC n 1 = ((ofC n 1).1, 0) := Prod.ext rfl (by rw [ofC, if_neg (by decide)])
theorem mul_small {n k : Int} (h1 : -1125899906842624 < n) (h2 : n < 1125899906842624) (h3 : -1000 ≤ k) (h4 : k ≤ 1000) : -9223372036854775808 ≤ n * k ∧ n * k < 9223372036854775808 := by
  have h : n.natAbs * k.natAbs ≤ 1125899906842624 * 1000 := Nat.mul_le_mul (by omega) (by omega)
  rw [← Int.natAbs_mul] at h
  omega

set_option maxRecDepth 100000 in
set_option maxHeartbeats 8000000 in
theorem ratioOf_walk (w : World) (n : Int) (h_n1 : -9223372036854775808 ≤ n) (h_n2 : n ≤ 9223372036854775807) (d : Int) (h_d1 : -9223372036854775808 ≤ d) (h_d2 : d ≤ 9223372036854775807) (k : Int) (h_k1 : -9223372036854775808 ≤ k) (h_k2 : k ≤ 9223372036854775807) :
    Calls Tryd.prog 3 #[.int .i64 n, .int .i64 d, .int .i64 k] w fun e w' => e = .returned (.bool true) ∧ Below w.heap.size w w' := by
  have l_n : n < 9223372036854775808 := by omega
  have l_d : d < 9223372036854775808 := by omega
  have l_k : k < 9223372036854775808 := by omega
  have B0 : Below w.heap.size w w := Below.refl _ _
  by_cases zd : d = 0
  case pos =>
    subst zd
    have OZ := Lib.hid (of_nil n)
    have zn : zeroV.neg = false := rfl
    go_enter Tryd.func3, Tryd.ntmps3
    go_wp2_with fail
    have c := ratOf_any w n 0 h_n1 l_n (by decide) (by decide)
    rw [OZ.out] at c
    refine c.mono ?_
    rintro e w1 ⟨a_e, n_e, c_e, b_e, m_e, d_e, rfl, h_en_1, h_ed_1, hb⟩
    clear c
    have B1 := B0.trans (hb.mono B0.size)
    clear hb B0
    obtain rfl : n_e = 0 := h_en_1.len.symm
    obtain rfl : m_e = 0 := h_ed_1.len.symm
    have hb := below_al w1 (.cells #[.bool false, .slice a_e 0 c_e, .slice b_e 0 d_e] 24)
    have B2 := B1.trans (hb.mono B1.size)
    have h_en_2 := h_en_1.below hb
    have h_ed_2 := h_ed_1.below hb
    clear hb B1 h_en_1 h_ed_1
    have h_e_2 := Has.new w1 #[.bool false, .slice a_e 0 c_e, .slice b_e 0 d_e] 24
    have k_e_0 := h_e_2.cell 0 _ rfl
    have k_e_1 := h_e_2.cell 1 _ rfl
    have k_e_2 := h_e_2.cell 2 _ rfl
    go_wp2_with first | refine wpList_store_new rfl 24 _ _ rfl atRat _ _ _ rfl rfl rfl rfl (rat_one _ _ _ _ _ _ _) ?_
    clear k_e_0 k_e_1 k_e_2
    generalize (w1.alloc (.cells #[.bool false, .slice a_e 0 c_e, .slice b_e 0 d_e] 24)) = w2 at *
    have c := wakes_any w2
    refine c.mono ?_
    rintro e w3 ⟨rfl, hb⟩
    clear c
    have B3 := B2.trans (hb.mono B2.size)
    have h_en_3 := h_en_2.below hb
    have h_ed_3 := h_ed_2.below hb
    have h_e_3 := h_e_2.later hb
    clear hb B2 h_en_2 h_ed_2 h_e_2
    go_wp2_with fail
    go_ret
    exact ⟨rfl, B3⟩
  have dz : (d == 0) = false := beq_eq_false_iff_ne.2 zd
  obtain ⟨X, f0, f1, f2, f3⟩ := of_law zd h_n1 l_n h_d1 l_d
  have F0 := Lib.hid f0
  have F1 := Lib.hid f1
  have F2 := Lib.hid f2
  have F3 := Lib.hid f3
  clear f0 f1 f2 f3 zd
  go_enter Tryd.func3, Tryd.ntmps3
  go_wp2_with fail
  have c := ratOf_any w n d h_n1 l_n h_d1 l_d
  rw [F0.out] at c
  refine c.mono ?_
  rintro e w1 ⟨a_e, n_e, c_e, b_e, m_e, d_e, rfl, h_en_1, h_ed_1, hb⟩
  clear c
  have B1 := B0.trans (hb.mono B0.size)
  clear hb B0
  have hb := below_al w1 (.cells #[.bool (X).neg, .slice a_e n_e c_e, .slice b_e m_e d_e] 24)
  have B2 := B1.trans (hb.mono B1.size)
  have h_en_2 := h_en_1.below hb
  have h_ed_2 := h_ed_1.below hb
  clear hb B1 h_en_1 h_ed_1
  have h_e_2 := Has.new w1 #[.bool (X).neg, .slice a_e n_e c_e, .slice b_e m_e d_e] 24
  go_wp2_with first | refine wpList_store_new rfl 24 _ _ rfl atRat _ _ _ rfl rfl rfl rfl (rat_one _ _ _ _ _ _ _) ?_
  generalize (w1.alloc (.cells #[.bool (X).neg, .slice a_e n_e c_e, .slice b_e m_e d_e] 24)) = w2 at *
  have c := ratOf_any w2 d 1 h_d1 l_d (by decide) (by decide)
  rw [of_one] at c
  refine c.mono ?_
  rintro e w3 ⟨a_f, n_f, c_f, b_f, m_f, d_f, rfl, h_fn_3, h_fd_3, hb⟩
  clear c
  have B3 := B2.trans (hb.mono B2.size)
  have h_en_3 := h_en_2.below hb
  have h_ed_3 := h_ed_2.below hb
  have h_e_3 := h_e_2.later hb
  clear hb B2 h_en_2 h_ed_2 h_e_2
  have hb := below_al w3 (.cells #[.bool ((ofC d 1).1).neg, .slice a_f n_f c_f, .slice b_f m_f d_f] 24)
  have B4 := B3.trans (hb.mono B3.size)
  have h_en_4 := h_en_3.below hb
  have h_ed_4 := h_ed_3.below hb
  have h_e_4 := h_e_3.later hb
  have h_fn_4 := h_fn_3.below hb
  have h_fd_4 := h_fd_3.below hb
  clear hb B3 h_en_3 h_ed_3 h_e_3 h_fn_3 h_fd_3
  have h_f_4 := Has.new w3 #[.bool ((ofC d 1).1).neg, .slice a_f n_f c_f, .slice b_f m_f d_f] 24
  have k_e_0 := h_e_4.cell 0 _ rfl
  have k_e_1 := h_e_4.cell 1 _ rfl
  have k_e_2 := h_e_4.cell 2 _ rfl
  have k_f_0 := h_f_4.cell 0 _ rfl
  have k_f_1 := h_f_4.cell 1 _ rfl
  have k_f_2 := h_f_4.cell 2 _ rfl
  go_wp2_with first | refine wpList_store_new rfl 24 _ _ rfl atRat _ _ _ rfl rfl rfl rfl (rat_one _ _ _ _ _ _ _) ?_
  clear k_e_0 k_e_1 k_e_2 k_f_0 k_f_1 k_f_2
  generalize (w3.alloc (.cells #[.bool ((ofC d 1).1).neg, .slice a_f n_f c_f, .slice b_f m_f d_f] 24)) = w4 at *
  have c := ratMul_any w4 (g1 := (X).neg) (g2 := ((ofC d 1).1).neg) h_en_4 h_ed_4 h_fn_4 h_fd_4
  rw [show (⟨(X).neg, (X).num, (X).den⟩ : QV) = X from rfl] at c
  rw [show (⟨((ofC d 1).1).neg, ((ofC d 1).1).num, ((ofC d 1).1).den⟩ : QV) = (ofC d 1).1 from rfl] at c
  rw [F1.out] at c
  refine c.mono ?_
  rintro e w5 ⟨a_h, n_h, c_h, b_h, m_h, d_h, rfl, h_hn_5, h_hd_5, hb⟩
  clear c
  have B5 := B4.trans (hb.mono B4.size)
  have h_en_5 := h_en_4.below hb
  have h_ed_5 := h_ed_4.below hb
  have h_e_5 := h_e_4.later hb
  have h_fn_5 := h_fn_4.below hb
  have h_fd_5 := h_fd_4.below hb
  have h_f_5 := h_f_4.later hb
  clear hb B4 h_en_4 h_ed_4 h_e_4 h_fn_4 h_fd_4 h_f_4
  have hb := below_al w5 (.cells #[.bool ((ofC n 1).1).neg, .slice a_h n_h c_h, .slice b_h m_h d_h] 24)
  have B6 := B5.trans (hb.mono B5.size)
  have h_en_6 := h_en_5.below hb
  have h_ed_6 := h_ed_5.below hb
  have h_e_6 := h_e_5.later hb
  have h_fn_6 := h_fn_5.below hb
  have h_fd_6 := h_fd_5.below hb
  have h_f_6 := h_f_5.later hb
  have h_hn_6 := h_hn_5.below hb
  have h_hd_6 := h_hd_5.below hb
  clear hb B5 h_en_5 h_ed_5 h_e_5 h_fn_5 h_fd_5 h_f_5 h_hn_5 h_hd_5
  have h_h_6 := Has.new w5 #[.bool ((ofC n 1).1).neg, .slice a_h n_h c_h, .slice b_h m_h d_h] 24
  go_wp2_with first | refine wpList_store_new rfl 24 _ _ rfl atRat _ _ _ rfl rfl rfl rfl (rat_one _ _ _ _ _ _ _) ?_
  generalize (w5.alloc (.cells #[.bool ((ofC n 1).1).neg, .slice a_h n_h c_h, .slice b_h m_h d_h] 24)) = w6 at *
  have c := ratOf_any w6 n 1 h_n1 l_n (by decide) (by decide)
  rw [of_one] at c
  refine c.mono ?_
  rintro e w7 ⟨a_i, n_i, c_i, b_i, m_i, d_i, rfl, h_in_7, h_id_7, hb⟩
  clear c
  have B7 := B6.trans (hb.mono B6.size)
  have h_en_7 := h_en_6.below hb
  have h_ed_7 := h_ed_6.below hb
  have h_e_7 := h_e_6.later hb
  have h_fn_7 := h_fn_6.below hb
  have h_fd_7 := h_fd_6.below hb
  have h_f_7 := h_f_6.later hb
  have h_hn_7 := h_hn_6.below hb
  have h_hd_7 := h_hd_6.below hb
  have h_h_7 := h_h_6.later hb
  clear hb B6 h_en_6 h_ed_6 h_e_6 h_fn_6 h_fd_6 h_f_6 h_hn_6 h_hd_6 h_h_6
  have hb := below_al w7 (.cells #[.bool ((ofC n 1).1).neg, .slice a_i n_i c_i, .slice b_i m_i d_i] 24)
  have B8 := B7.trans (hb.mono B7.size)
  have h_en_8 := h_en_7.below hb
  have h_ed_8 := h_ed_7.below hb
  have h_e_8 := h_e_7.later hb
  have h_fn_8 := h_fn_7.below hb
  have h_fd_8 := h_fd_7.below hb
  have h_f_8 := h_f_7.later hb
  have h_hn_8 := h_hn_7.below hb
  have h_hd_8 := h_hd_7.below hb
  have h_h_8 := h_h_7.later hb
  have h_in_8 := h_in_7.below hb
  have h_id_8 := h_id_7.below hb
  clear hb B7 h_en_7 h_ed_7 h_e_7 h_fn_7 h_fd_7 h_f_7 h_hn_7 h_hd_7 h_h_7 h_in_7 h_id_7
  have h_i_8 := Has.new w7 #[.bool ((ofC n 1).1).neg, .slice a_i n_i c_i, .slice b_i m_i d_i] 24
  have k_h_0 := h_h_8.cell 0 _ rfl
  have k_h_1 := h_h_8.cell 1 _ rfl
  have k_h_2 := h_h_8.cell 2 _ rfl
  have k_i_0 := h_i_8.cell 0 _ rfl
  have k_i_1 := h_i_8.cell 1 _ rfl
  have k_i_2 := h_i_8.cell 2 _ rfl
  go_wp2_with first | refine wpList_store_new rfl 24 _ _ rfl atRat _ _ _ rfl rfl rfl rfl (rat_one _ _ _ _ _ _ _) ?_
  clear k_h_0 k_h_1 k_h_2 k_i_0 k_i_1 k_i_2
  generalize (w7.alloc (.cells #[.bool ((ofC n 1).1).neg, .slice a_i n_i c_i, .slice b_i m_i d_i] 24)) = w8 at *
  have c := refRatSame_any w8 (g1 := ((ofC n 1).1).neg) (g2 := ((ofC n 1).1).neg) h_hn_8 h_hd_8 h_in_8 h_id_8
  rw [show (⟨((ofC n 1).1).neg, ((ofC n 1).1).num, ((ofC n 1).1).den⟩ : QV) = (ofC n 1).1 from rfl] at c
  rw [sameV_self] at c
  refine c.mono ?_
  rintro e w9 ⟨rfl, hb⟩
  clear c
  have B9 := B8.trans (hb.mono B8.size)
  have h_en_9 := h_en_8.below hb
  have h_ed_9 := h_ed_8.below hb
  have h_e_9 := h_e_8.later hb
  have h_fn_9 := h_fn_8.below hb
  have h_fd_9 := h_fd_8.below hb
  have h_f_9 := h_f_8.later hb
  have h_hn_9 := h_hn_8.below hb
  have h_hd_9 := h_hd_8.below hb
  have h_h_9 := h_h_8.later hb
  have h_in_9 := h_in_8.below hb
  have h_id_9 := h_id_8.below hb
  have h_i_9 := h_i_8.later hb
  clear hb B8 h_en_8 h_ed_8 h_e_8 h_fn_8 h_fd_8 h_f_8 h_hn_8 h_hd_8 h_h_8 h_in_8 h_id_8 h_i_8
  clear h_f_9 h_fn_9 h_fd_9 h_h_9 h_hn_9 h_hd_9 h_i_9 h_in_9 h_id_9
  have k_e_0 := h_e_9.cell 0 _ rfl
  have k_e_1 := h_e_9.cell 1 _ rfl
  have k_e_2 := h_e_9.cell 2 _ rfl
  go_wp2_with fail
  clear k_e_0 k_e_1 k_e_2
  have c := ratCheck_any w9 (neg := (X).neg) h_en_9 h_ed_9
  rw [show (⟨(X).neg, (X).num, (X).den⟩ : QV) = X from rfl] at c
  rw [F2.out] at c
  refine c.mono ?_
  rintro e w10 ⟨rfl, hb⟩
  clear c
  have B10 := B9.trans (hb.mono B9.size)
  have h_en_10 := h_en_9.below hb
  have h_ed_10 := h_ed_9.below hb
  have h_e_10 := h_e_9.later hb
  clear hb B9 h_en_9 h_ed_9 h_e_9
  go_upto_region 9 with fail
  by_cases c0 : -1125899906842624 < n
  case neg =>
    have d0 : decide (-1125899906842624 < n) = false := decide_eq_false c0
    clear c0
    go_wp2_with fail
    have c := wakes_any w10
    refine c.mono ?_
    rintro e w11 ⟨rfl, hb⟩
    clear c
    have B11 := B10.trans (hb.mono B10.size)
    have h_en_11 := h_en_10.below hb
    have h_ed_11 := h_ed_10.below hb
    have h_e_11 := h_e_10.later hb
    clear hb B10 h_en_10 h_ed_10 h_e_10
    go_wp2_with fail
    go_ret
    exact ⟨rfl, B11⟩
  have d0 : decide (-1125899906842624 < n) = true := decide_eq_true c0
  by_cases c1 : n < 1125899906842624
  case neg =>
    have d1 : decide (n < 1125899906842624) = false := decide_eq_false c1
    clear c0 c1
    go_wp2_with fail
    have c := wakes_any w10
    refine c.mono ?_
    rintro e w11 ⟨rfl, hb⟩
    clear c
    have B11 := B10.trans (hb.mono B10.size)
    have h_en_11 := h_en_10.below hb
    have h_ed_11 := h_ed_10.below hb
    have h_e_11 := h_e_10.later hb
    clear hb B10 h_en_10 h_ed_10 h_e_10
    go_wp2_with fail
    go_ret
    exact ⟨rfl, B11⟩
  have d1 : decide (n < 1125899906842624) = true := decide_eq_true c1
  by_cases c2 : -1125899906842624 < d
  case neg =>
    have d2 : decide (-1125899906842624 < d) = false := decide_eq_false c2
    clear c0 c1 c2
    go_wp2_with fail
    have c := wakes_any w10
    refine c.mono ?_
    rintro e w11 ⟨rfl, hb⟩
    clear c
    have B11 := B10.trans (hb.mono B10.size)
    have h_en_11 := h_en_10.below hb
    have h_ed_11 := h_ed_10.below hb
    have h_e_11 := h_e_10.later hb
    clear hb B10 h_en_10 h_ed_10 h_e_10
    go_wp2_with fail
    go_ret
    exact ⟨rfl, B11⟩
  have d2 : decide (-1125899906842624 < d) = true := decide_eq_true c2
  by_cases c3 : d < 1125899906842624
  case neg =>
    have d3 : decide (d < 1125899906842624) = false := decide_eq_false c3
    clear c0 c1 c2 c3
    go_wp2_with fail
    have c := wakes_any w10
    refine c.mono ?_
    rintro e w11 ⟨rfl, hb⟩
    clear c
    have B11 := B10.trans (hb.mono B10.size)
    have h_en_11 := h_en_10.below hb
    have h_ed_11 := h_ed_10.below hb
    have h_e_11 := h_e_10.later hb
    clear hb B10 h_en_10 h_ed_10 h_e_10
    go_wp2_with fail
    go_ret
    exact ⟨rfl, B11⟩
  have d3 : decide (d < 1125899906842624) = true := decide_eq_true c3
  by_cases c4 : -1000 ≤ k
  case neg =>
    have d4 : decide (-1000 ≤ k) = false := decide_eq_false c4
    clear c0 c1 c2 c3 c4
    go_wp2_with fail
    have c := wakes_any w10
    refine c.mono ?_
    rintro e w11 ⟨rfl, hb⟩
    clear c
    have B11 := B10.trans (hb.mono B10.size)
    have h_en_11 := h_en_10.below hb
    have h_ed_11 := h_ed_10.below hb
    have h_e_11 := h_e_10.later hb
    clear hb B10 h_en_10 h_ed_10 h_e_10
    go_wp2_with fail
    go_ret
    exact ⟨rfl, B11⟩
  have d4 : decide (-1000 ≤ k) = true := decide_eq_true c4
  by_cases c5 : k ≤ 1000
  case neg =>
    have d5 : decide (k ≤ 1000) = false := decide_eq_false c5
    clear c0 c1 c2 c3 c4 c5
    go_wp2_with fail
    have c := wakes_any w10
    refine c.mono ?_
    rintro e w11 ⟨rfl, hb⟩
    clear c
    have B11 := B10.trans (hb.mono B10.size)
    have h_en_11 := h_en_10.below hb
    have h_ed_11 := h_ed_10.below hb
    have h_e_11 := h_e_10.later hb
    clear hb B10 h_en_10 h_ed_10 h_e_10
    go_wp2_with fail
    go_ret
    exact ⟨rfl, B11⟩
  have d5 : decide (k ≤ 1000) = true := decide_eq_true c5
  by_cases c6 : k = 0
  case pos =>
    have d6 : (k != 0) = false := by rw [bne_eq_false_iff_eq]; exact c6
    clear c0 c1 c2 c3 c4 c5 c6
    go_wp2_with fail
    have c := wakes_any w10
    refine c.mono ?_
    rintro e w11 ⟨rfl, hb⟩
    clear c
    have B11 := B10.trans (hb.mono B10.size)
    have h_en_11 := h_en_10.below hb
    have h_ed_11 := h_ed_10.below hb
    have h_e_11 := h_e_10.later hb
    clear hb B10 h_en_10 h_ed_10 h_e_10
    go_wp2_with fail
    go_ret
    exact ⟨rfl, B11⟩
  have d6 : (k != 0) = true := by rw [bne_iff_ne]; exact c6
  have m1 := mul_small c0 c1 c4 c5
  have m2 := mul_small c2 c3 c4 c5
  have FX := F3.out k c6
  obtain ⟨nk, hnk⟩ : ∃ z, z = n * k := ⟨_, rfl⟩
  obtain ⟨dk, hdk⟩ : ∃ z, z = d * k := ⟨_, rfl⟩
  rw [← hnk] at m1 FX
  rw [← hdk] at m2 FX
  have FY := Lib.hid FX
  have w1 : IntKind.i64.wrap (n * k) = nk := by rw [← hnk]; exact wrap_i64 m1.1 (by omega)
  have w2 : wrap64 (n * k) = nk := by rw [← hnk]; exact w64_small m1.1 m1.2
  have w3 : IntKind.i64.wrap (d * k) = dk := by rw [← hdk]; exact wrap_i64 m2.1 (by omega)
  have w4 : wrap64 (d * k) = dk := by rw [← hdk]; exact w64_small m2.1 m2.2
  have MM := Lib.hid (show (-9223372036854775808 ≤ nk ∧ nk < 9223372036854775808) ∧ -9223372036854775808 ≤ dk ∧ dk < 9223372036854775808 from ⟨m1, m2⟩)
  clear c0 c1 c2 c3 c4 c5 c6 m1 m2 FX hnk hdk
  go_wp2_with fail
  have c := ratOf_any w10 nk dk MM.out.1.1 MM.out.1.2 MM.out.2.1 MM.out.2.2
  rw [FY.out] at c
  refine c.mono ?_
  rintro e w11 ⟨a_f, n_f, c_f, b_f, m_f, d_f, rfl, h_fn_11, h_fd_11, hb⟩
  clear c
  have B11 := B10.trans (hb.mono B10.size)
  have h_en_11 := h_en_10.below hb
  have h_ed_11 := h_ed_10.below hb
  have h_e_11 := h_e_10.later hb
  clear hb B10 h_en_10 h_ed_10 h_e_10
  have hb := below_al w11 (.cells #[.bool (X).neg, .slice a_f n_f c_f, .slice b_f m_f d_f] 24)
  have B12 := B11.trans (hb.mono B11.size)
  have h_en_12 := h_en_11.below hb
  have h_ed_12 := h_ed_11.below hb
  have h_e_12 := h_e_11.later hb
  have h_fn_12 := h_fn_11.below hb
  have h_fd_12 := h_fd_11.below hb
  clear hb B11 h_en_11 h_ed_11 h_e_11 h_fn_11 h_fd_11
  have h_f_12 := Has.new w11 #[.bool (X).neg, .slice a_f n_f c_f, .slice b_f m_f d_f] 24
  have k_e_0 := h_e_12.cell 0 _ rfl
  have k_e_1 := h_e_12.cell 1 _ rfl
  have k_e_2 := h_e_12.cell 2 _ rfl
  have k_f_0 := h_f_12.cell 0 _ rfl
  have k_f_1 := h_f_12.cell 1 _ rfl
  have k_f_2 := h_f_12.cell 2 _ rfl
  go_wp2_with first | refine wpList_store_new rfl 24 _ _ rfl atRat _ _ _ rfl rfl rfl rfl (rat_one _ _ _ _ _ _ _) ?_
  clear k_e_0 k_e_1 k_e_2 k_f_0 k_f_1 k_f_2
  generalize (w11.alloc (.cells #[.bool (X).neg, .slice a_f n_f c_f, .slice b_f m_f d_f] 24)) = w12 at *
  have c := refRatSame_any w12 (g1 := (X).neg) (g2 := (X).neg) h_en_12 h_ed_12 h_fn_12 h_fd_12
  rw [show (⟨(X).neg, (X).num, (X).den⟩ : QV) = X from rfl] at c
  rw [sameV_self] at c
  refine c.mono ?_
  rintro e w13 ⟨rfl, hb⟩
  clear c
  have B13 := B12.trans (hb.mono B12.size)
  have h_en_13 := h_en_12.below hb
  have h_ed_13 := h_ed_12.below hb
  have h_e_13 := h_e_12.later hb
  have h_fn_13 := h_fn_12.below hb
  have h_fd_13 := h_fd_12.below hb
  have h_f_13 := h_f_12.later hb
  clear hb B12 h_en_12 h_ed_12 h_e_12 h_fn_12 h_fd_12 h_f_12
  go_wp2_with fail
  have c := wakes_any w13
  refine c.mono ?_
  rintro e w14 ⟨rfl, hb⟩
  clear c
  have B14 := B13.trans (hb.mono B13.size)
  have h_en_14 := h_en_13.below hb
  have h_ed_14 := h_ed_13.below hb
  have h_e_14 := h_e_13.later hb
  have h_fn_14 := h_fn_13.below hb
  have h_fd_14 := h_fd_13.below hb
  have h_f_14 := h_f_13.later hb
  clear hb B13 h_en_13 h_ed_13 h_e_13 h_fn_13 h_fd_13 h_f_13
  go_wp2_with fail
  go_ret
  exact ⟨rfl, B14⟩

end Go.Proofs.YtdaajeklnhbhjaaDoor
