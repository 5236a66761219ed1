/- The law's own part, the examples' numbers, and the walk of wakes: it returns true and turns nothing that was there. Printed by gen_quog.py. -/
import Derived.Test.YtfcejgeckcoefaaQuoF
namespace Go.Proofs.Ytfcejgeckcoefaa
open Go.RowKit Go.Suf
set_option linter.unusedVariables false
set_option linter.unusedSimpArgs false

set_option maxRecDepth 100000 in
set_option maxHeartbeats 1000000 in
theorem qof_any (w : World) (n d : Int) (h1 : -9223372036854775808 ≤ n) (h2 : n < 9223372036854775808) (h3 : -9223372036854775808 ≤ d) (h4 : d < 9223372036854775808) :
    Calls Try.prog 38 #[.int .i64 n, .int .i64 d] w (RetQ w (ofC n d).1) := by
  obtain ⟨r, hr⟩ : ∃ r, r = ofC n d := ⟨_, rfl⟩
  rw [← hr]
  have HR := Lib.hid hr
  have R0 := Row.new w #[.bool false, .slice none 0 0, .slice none 0 0]
  have HN := Lib.hid (show (-9223372036854775808 ≤ n ∧ n < 9223372036854775808) ∧ (-9223372036854775808 ≤ d ∧ d < 9223372036854775808) from ⟨⟨h1, h2⟩, h3, h4⟩)
  clear hr h1 h2 h3 h4
  go_enter Try.func38, Try.ntmps38
  go_wp2_with fail
  have cc := ratOf_any (w.alloc (.cells #[.bool false, .slice none 0 0, .slice none 0 0] 27)) n d HN.out.1.1 HN.out.1.2 HN.out.2.1 HN.out.2.2
  rw [← HR.out] at cc
  refine cc.mono ?_
  rintro e2 w1 ⟨ap, np, cp, aq, nq, cq, rfl, hp, hq, hb⟩
  clear cc
  have R1 := R0.later hb
  have hA := below_al w1 (.cells #[.bool r.1.neg, .slice ap np cp, .slice aq nq cq] 27)
  have R2 := R1.later hA
  have hp := hp.below hA
  have hq := hq.below hA
  have H2 := Has.new w1 #[.bool r.1.neg, .slice ap np cp, .slice aq nq cq] 27
  have k0 := H2.cell 0 _ rfl
  have k1 := H2.cell 1 _ rfl
  have k2 := H2.cell 2 _ rfl
  have row := R2.row
  have HB := Lib.hid (fun cs => below_row R2.below R2.lo cs)
  have fin := Lib.hid (fun cs => (⟨rd_rowset hp row (rat_noint _ _ _ _ _ _ _) cs, rd_rowset hq row (rat_noint _ _ _ _ _ _ _) cs⟩ : _ ∧ _))
  clear hb hA
  go_wp2_with first | refine wpList_store_new rfl 27 _ _ rfl atRat _ _ _ rfl rfl rfl rfl (rat_one _ _ _ _ _ _ _) ?_ | refine wpList_store_whole rfl 27 _ _ rfl atRat _ _ _ row rfl rfl rfl rfl (rat_one _ _ _ _ _ _ _) ?_
  refine bodyPost_ret (results_cell_row rfl _ _ _ _ _ _ _ rfl (setRow_heap _ _ _ _ _ _ row) Try.underlying27 rfl (by kernel_rfl)) rfl ?_
  exact ⟨ap, np, cp, aq, nq, cq, rfl, (fin.out _).1, (fin.out _).2, HB.out _⟩

theorem ofC_low {n d : Nat} (hd : d ≠ 0) : (ofC (n : Int) (d : Int)).1 = ⟨false, limbs (n / n.gcd d), limbs (d / n.gcd d)⟩ := by
  rw [ofC, if_neg (by omega)]
  show ofQ _ = _
  rw [← of_low (by omega), decide_eq_false (by omega), decide_eq_false (by omega), Int.natAbs_natCast, Int.natAbs_natCast]
  rfl

theorem part_chk {n d : Nat} (hd : d ≠ 0) (h1 : n < 4294967296) (h2 : d < 4294967296) : chkV (ofC (n : Int) (d : Int)).1 = 0 := by
  have h := ofC_low (n := n) hd
  have h' := h
  rw [ofC, if_neg (by omega)] at h'
  have h3 := ofQ_get h'
  rw [show (ofC (n : Int) (d : Int)).1 = ofQ ((n : Int) / (d : Int) : Rat) by rw [ofC, if_neg (by omega)]]
  have p1 : (4294967296 : Nat) ≤ pw 96 := by
    have := pw_le (show 1 ≤ 96 by decide)
    exact Nat.le_trans (by decide) this
  refine chkV_ofQ ⟨?_, ?_⟩
  · rw [h3.1]
    exact Nat.lt_of_le_of_lt (Nat.div_le_self _ _) (Nat.lt_of_lt_of_le h1 p1)
  · rw [h3.2]
    exact Nat.lt_of_le_of_lt (Nat.div_le_self _ _) (Nat.lt_of_lt_of_le h2 p1)

theorem ex_sameq (x : QV) : sameV x x = true := by unfold sameV; simp [sameN]
theorem qex_droop1 : droopC 100 3 = (26, 0) := by decide
theorem qex_droop2 : droopC 100 0 = (0, 2) := by decide
theorem qex_droop3 : droopC (-1) 1 = (0, 2) := by decide
theorem ofC_pair {n d : Int} (h : d ≠ 0) : ofC n d = ((ofC n d).1, 0) := by unfold ofC; rw [if_neg h]
theorem qex_hare : partC 100 3 3 = ((ofC 100 3).1, 0) := by rw [partC, if_pos (by decide)]; exact ofC_pair (by decide)
theorem qex_hag : partC 100 3 (3 + 1) = ((ofC 25 1).1, 0) := by
  rw [partC, if_pos (by decide), show (3 + 1 : Int) = ((4 : Nat) : Int) from rfl, show (100 : Int) = ((100 : Nat) : Int) from rfl, ofC_pair (by decide), ofC_low (by decide), show (25 : Int) = ((25 : Nat) : Int) from rfl, show (1 : Int) = ((1 : Nat) : Int) from rfl, ofC_low (by decide)]
  rfl
theorem qex_down : downQ 1500000000 1 = (1, 0) := by rw [downQ, if_pos (by unfold inQ; decide)]; rfl
theorem qex_up : upQ 1500000000 1 = (2, 0) := by rw [upQ, if_pos (by unfold inQ; decide)]; rfl
theorem qex_share1 : shareQ 2000000000 1000000000 3000000000 = (666666666, 0) := by rw [shareQ, if_pos (by unfold inQ; decide), if_neg (by decide)]; rfl
theorem qex_share2 : shareQ 1 1 0 = (0, 40) := by rw [shareQ, if_pos (by unfold inQ; decide), if_pos rfl]
theorem qex_share3 : shareQ 1000000000000000 1000000000000000 1 = (0, 30) := by
  rw [shareQ, if_pos (by unfold inQ; decide), if_neg (by decide), tellN, if_neg (by decide)]
theorem qex_half : ratQ 500000000 = ((ofC 1 2).1, 0) := by
  rw [ratQ, if_pos (by unfold inQ; decide), show (500000000 : Int) = ((500000000 : Nat) : Int) from rfl, show (1000000000 : Int) = ((1000000000 : Nat) : Int) from rfl, ofC_pair (by decide), ofC_low (by decide), show (1 : Int) = ((1 : Nat) : Int) from rfl, show (2 : Int) = ((2 : Nat) : Int) from rfl, ofC_low (by decide)]
  rfl
theorem bill_low {n d A B : Nat} (hd : d ≠ 0) (h1 : n < 4294967296) (h2 : d < 4294967296) (hA : n / n.gcd d = A) (hB : d / n.gcd d = B) : billC (ofC (n : Int) (d : Int)).1 = tellN (A * 1000000000 / B) := by
  have hc := part_chk hd h1 h2
  have e := ofC_low (n := n) hd
  rw [hA, hB] at e
  have p1 : (4294967296 : Nat) ≤ pw 2 := by decide
  have a1 : A < pw 2 := Nat.lt_of_lt_of_le (by rw [← hA]; exact Nat.lt_of_le_of_lt (Nat.div_le_self _ _) h1) p1
  have b1 : B < pw 2 := Nat.lt_of_lt_of_le (by rw [← hB]; exact Nat.lt_of_le_of_lt (Nat.div_le_self _ _) h2) p1
  rw [billC, if_pos ⟨hc, by rw [e]⟩, if_neg, e, val_limbs, val_limbs]
  rw [e]
  have l1 := limbs_len_le a1
  have l2 := limbs_len_le b1
  intro h
  rcases h with h | h
  · have h : 90 < (limbs A).length := h
    omega
  · have h : 90 < (limbs B).length := h
    omega
theorem qex_bill1 : billC (ofC 2 3).1 = (666666666, 0) := by rw [show (2 : Int) = ((2 : Nat) : Int) from rfl, show (3 : Int) = ((3 : Nat) : Int) from rfl, bill_low (A := 2) (B := 3) (by decide) (by decide) (by decide) (by decide) (by decide)]; rfl
theorem qex_bill2 : billC (ofC (-1) 3).1 = (0, 2) := by
  rw [billC, if_neg]
  intro h
  have h2 := h.2
  rw [ofC, if_neg (by decide)] at h2
  have h2 : (ofQ (((-1 : Int) : Rat) / ((3 : Int) : Rat))).neg = false := h2
  rw [← of_low (by decide)] at h2
  exact absurd h2 (by decide)
theorem qex_bill3 : billC (ofC 1000001 1).1 = (0, 30) := by
  rw [show (1000001 : Int) = ((1000001 : Nat) : Int) from rfl, show (1 : Int) = ((1 : Nat) : Int) from rfl, bill_low (A := 1000001) (B := 1) (by decide) (by decide) (by decide) (by decide) (by decide), tellN, if_neg (by decide)]
theorem qex_bill4 : billC (ofC 1000000 1).1 = (1000000000000000, 0) := by
  rw [show (1000000 : Int) = ((1000000 : Nat) : Int) from rfl, show (1 : Int) = ((1 : Nat) : Int) from rfl, bill_low (A := 1000000) (B := 1) (by decide) (by decide) (by decide) (by decide) (by decide), tellN, if_pos (by decide)]
  rfl

set_option maxRecDepth 100000 in
set_option maxHeartbeats 8000000 in
theorem wakes_any (w : World) : Calls Try.prog 17 #[] w (RetBB w true) := by
  go_enter Try.func17, Try.ntmps17
  have B0 : Below w.heap.size w w := Below.refl _ _
  go_wp2_with fail
  have c := droop_any w 100 3
  rw [qex_droop1] at c
  refine c.mono ?_
  rintro e w1 ⟨rfl, hb⟩
  clear c
  have B1 := B0.trans (hb.mono B0.size)
  clear hb B0
  go_wp2_with fail
  have c := hare_any w1 100 3 (by decide) (by decide)
  rw [qex_hare] at c
  refine c.mono ?_
  rintro e w2 ⟨a_h, n_h, c_h, b_h, m_h, d_h, rfl, h_hn_2, h_hd_2, hb⟩
  clear c
  have B2 := B1.trans (hb.mono B1.size)
  clear hb B1
  have hb := below_al w2 (.cells #[.bool ((ofC 100 3).1).neg, .slice a_h n_h c_h, .slice b_h m_h d_h] 27)
  have B3 := B2.trans (hb.mono B2.size)
  have h_hn_3 := h_hn_2.below hb
  have h_hd_3 := h_hd_2.below hb
  clear hb B2 h_hn_2 h_hd_2
  have h_h_3 := Has.new w2 #[.bool ((ofC 100 3).1).neg, .slice a_h n_h c_h, .slice b_h m_h d_h] 27
  go_wp2_with first | refine wpList_store_new rfl 27 _ _ rfl atRat _ _ _ rfl rfl rfl rfl (rat_one _ _ _ _ _ _ _) ?_
  generalize (w2.alloc (.cells #[.bool ((ofC 100 3).1).neg, .slice a_h n_h c_h, .slice b_h m_h d_h] 27)) = w3 at *
  have c := hag_any w3 100 3 (by decide) (by decide)
  rw [qex_hag] at c
  refine c.mono ?_
  rintro e w4 ⟨a_b, n_b, c_b, b_b, m_b, d_b, rfl, h_bn_4, h_bd_4, hb⟩
  clear c
  have B4 := B3.trans (hb.mono B3.size)
  have h_hn_4 := h_hn_3.below hb
  have h_hd_4 := h_hd_3.below hb
  have h_h_4 := h_h_3.later hb
  clear hb B3 h_hn_3 h_hd_3 h_h_3
  have hb := below_al w4 (.cells #[.bool ((ofC 25 1).1).neg, .slice a_b n_b c_b, .slice b_b m_b d_b] 27)
  have B5 := B4.trans (hb.mono B4.size)
  have h_hn_5 := h_hn_4.below hb
  have h_hd_5 := h_hd_4.below hb
  have h_h_5 := h_h_4.later hb
  have h_bn_5 := h_bn_4.below hb
  have h_bd_5 := h_bd_4.below hb
  clear hb B4 h_hn_4 h_hd_4 h_h_4 h_bn_4 h_bd_4
  have h_b_5 := Has.new w4 #[.bool ((ofC 25 1).1).neg, .slice a_b n_b c_b, .slice b_b m_b d_b] 27
  go_wp2_with first | refine wpList_store_new rfl 27 _ _ rfl atRat _ _ _ rfl rfl rfl rfl (rat_one _ _ _ _ _ _ _) ?_
  generalize (w4.alloc (.cells #[.bool ((ofC 25 1).1).neg, .slice a_b n_b c_b, .slice b_b m_b d_b] 27)) = w5 at *
  have c := droop_any w5 100 0
  rw [qex_droop2] at c
  refine c.mono ?_
  rintro e w6 ⟨rfl, hb⟩
  clear c
  have B6 := B5.trans (hb.mono B5.size)
  have h_hn_6 := h_hn_5.below hb
  have h_hd_6 := h_hd_5.below hb
  have h_h_6 := h_h_5.later hb
  have h_bn_6 := h_bn_5.below hb
  have h_bd_6 := h_bd_5.below hb
  have h_b_6 := h_b_5.later hb
  clear hb B5 h_hn_5 h_hd_5 h_h_5 h_bn_5 h_bd_5 h_b_5
  go_wp2_with fail
  have c := droop_any w6 (-1) 1
  rw [qex_droop3] at c
  refine c.mono ?_
  rintro e w7 ⟨rfl, hb⟩
  clear c
  have B7 := B6.trans (hb.mono B6.size)
  have h_hn_7 := h_hn_6.below hb
  have h_hd_7 := h_hd_6.below hb
  have h_h_7 := h_h_6.later hb
  have h_bn_7 := h_bn_6.below hb
  have h_bd_7 := h_bd_6.below hb
  have h_b_7 := h_b_6.later hb
  clear hb B6 h_hn_6 h_hd_6 h_h_6 h_bn_6 h_bd_6 h_b_6
  go_wp2_with fail
  have c := down_any w7 1500000000 1 (by unfold i64; decide) (by unfold i64; decide)
  rw [qex_down] at c
  refine c.mono ?_
  rintro e w8 ⟨rfl, hb⟩
  clear c
  have B8 := B7.trans (hb.mono B7.size)
  have h_hn_8 := h_hn_7.below hb
  have h_hd_8 := h_hd_7.below hb
  have h_h_8 := h_h_7.later hb
  have h_bn_8 := h_bn_7.below hb
  have h_bd_8 := h_bd_7.below hb
  have h_b_8 := h_b_7.later hb
  clear hb B7 h_hn_7 h_hd_7 h_h_7 h_bn_7 h_bd_7 h_b_7
  go_wp2_with fail
  have c := up_any w8 1500000000 1 (by unfold i64; decide) (by unfold i64; decide)
  rw [qex_up] at c
  refine c.mono ?_
  rintro e w9 ⟨rfl, hb⟩
  clear c
  have B9 := B8.trans (hb.mono B8.size)
  have h_hn_9 := h_hn_8.below hb
  have h_hd_9 := h_hd_8.below hb
  have h_h_9 := h_h_8.later hb
  have h_bn_9 := h_bn_8.below hb
  have h_bd_9 := h_bd_8.below hb
  have h_b_9 := h_b_8.later hb
  clear hb B8 h_hn_8 h_hd_8 h_h_8 h_bn_8 h_bd_8 h_b_8
  go_wp2_with fail
  have c := share_any w9 2000000000 1000000000 3000000000 (by unfold i64; decide) (by unfold i64; decide) (by unfold i64; decide)
  rw [qex_share1] at c
  refine c.mono ?_
  rintro e w10 ⟨rfl, hb⟩
  clear c
  have B10 := B9.trans (hb.mono B9.size)
  have h_hn_10 := h_hn_9.below hb
  have h_hd_10 := h_hd_9.below hb
  have h_h_10 := h_h_9.later hb
  have h_bn_10 := h_bn_9.below hb
  have h_bd_10 := h_bd_9.below hb
  have h_b_10 := h_b_9.later hb
  clear hb B9 h_hn_9 h_hd_9 h_h_9 h_bn_9 h_bd_9 h_b_9
  go_wp2_with fail
  have c := share_any w10 1 1 0 (by unfold i64; decide) (by unfold i64; decide) (by unfold i64; decide)
  rw [qex_share2] at c
  refine c.mono ?_
  rintro e w11 ⟨rfl, hb⟩
  clear c
  have B11 := B10.trans (hb.mono B10.size)
  have h_hn_11 := h_hn_10.below hb
  have h_hd_11 := h_hd_10.below hb
  have h_h_11 := h_h_10.later hb
  have h_bn_11 := h_bn_10.below hb
  have h_bd_11 := h_bd_10.below hb
  have h_b_11 := h_b_10.later hb
  clear hb B10 h_hn_10 h_hd_10 h_h_10 h_bn_10 h_bd_10 h_b_10
  go_wp2_with fail
  have c := share_any w11 1000000000000000 1000000000000000 1 (by unfold i64; decide) (by unfold i64; decide) (by unfold i64; decide)
  rw [qex_share3] at c
  refine c.mono ?_
  rintro e w12 ⟨rfl, hb⟩
  clear c
  have B12 := B11.trans (hb.mono B11.size)
  have h_hn_12 := h_hn_11.below hb
  have h_hd_12 := h_hd_11.below hb
  have h_h_12 := h_h_11.later hb
  have h_bn_12 := h_bn_11.below hb
  have h_bd_12 := h_bd_11.below hb
  have h_b_12 := h_b_11.later hb
  clear hb B11 h_hn_11 h_hd_11 h_h_11 h_bn_11 h_bd_11 h_b_11
  go_wp2_with fail
  have c := qratio_any w12 500000000 (by unfold i64; decide)
  rw [qex_half] at c
  refine c.mono ?_
  rintro e w13 ⟨a_t, n_t, c_t, b_t, m_t, d_t, rfl, h_tn_13, h_td_13, hb⟩
  clear c
  have B13 := B12.trans (hb.mono B12.size)
  have h_hn_13 := h_hn_12.below hb
  have h_hd_13 := h_hd_12.below hb
  have h_h_13 := h_h_12.later hb
  have h_bn_13 := h_bn_12.below hb
  have h_bd_13 := h_bd_12.below hb
  have h_b_13 := h_b_12.later hb
  clear hb B12 h_hn_12 h_hd_12 h_h_12 h_bn_12 h_bd_12 h_b_12
  have hb := below_al w13 (.cells #[.bool ((ofC 1 2).1).neg, .slice a_t n_t c_t, .slice b_t m_t d_t] 27)
  have B14 := B13.trans (hb.mono B13.size)
  have h_hn_14 := h_hn_13.below hb
  have h_hd_14 := h_hd_13.below hb
  have h_h_14 := h_h_13.later hb
  have h_bn_14 := h_bn_13.below hb
  have h_bd_14 := h_bd_13.below hb
  have h_b_14 := h_b_13.later hb
  have h_tn_14 := h_tn_13.below hb
  have h_td_14 := h_td_13.below hb
  clear hb B13 h_hn_13 h_hd_13 h_h_13 h_bn_13 h_bd_13 h_b_13 h_tn_13 h_td_13
  have h_t_14 := Has.new w13 #[.bool ((ofC 1 2).1).neg, .slice a_t n_t c_t, .slice b_t m_t d_t] 27
  go_wp2_with first | refine wpList_store_new rfl 27 _ _ rfl atRat _ _ _ rfl rfl rfl rfl (rat_one _ _ _ _ _ _ _) ?_
  generalize (w13.alloc (.cells #[.bool ((ofC 1 2).1).neg, .slice a_t n_t c_t, .slice b_t m_t d_t] 27)) = w14 at *
  have c := qof_any w14 2 3 (by decide) (by decide) (by decide) (by decide)
  refine c.mono ?_
  rintro e w15 ⟨a_x, n_x, c_x, b_x, m_x, d_x, rfl, h_xn_15, h_xd_15, hb⟩
  clear c
  have B15 := B14.trans (hb.mono B14.size)
  have h_hn_15 := h_hn_14.below hb
  have h_hd_15 := h_hd_14.below hb
  have h_h_15 := h_h_14.later hb
  have h_bn_15 := h_bn_14.below hb
  have h_bd_15 := h_bd_14.below hb
  have h_b_15 := h_b_14.later hb
  have h_tn_15 := h_tn_14.below hb
  have h_td_15 := h_td_14.below hb
  have h_t_15 := h_t_14.later hb
  clear hb B14 h_hn_14 h_hd_14 h_h_14 h_bn_14 h_bd_14 h_b_14 h_tn_14 h_td_14 h_t_14
  go_wp2_with fail
  have c := bill_any w15 (g := (ofC 2 3).1.neg) h_xn_15 h_xd_15
  rw [show (⟨(ofC 2 3).1.neg, (ofC 2 3).1.num, (ofC 2 3).1.den⟩ : QV) = (ofC 2 3).1 from rfl] at c
  rw [qex_bill1] at c
  refine c.mono ?_
  rintro e w16 ⟨rfl, hb⟩
  clear c
  have B16 := B15.trans (hb.mono B15.size)
  have h_hn_16 := h_hn_15.below hb
  have h_hd_16 := h_hd_15.below hb
  have h_h_16 := h_h_15.later hb
  have h_bn_16 := h_bn_15.below hb
  have h_bd_16 := h_bd_15.below hb
  have h_b_16 := h_b_15.later hb
  have h_tn_16 := h_tn_15.below hb
  have h_td_16 := h_td_15.below hb
  have h_t_16 := h_t_15.later hb
  clear hb B15 h_hn_15 h_hd_15 h_h_15 h_bn_15 h_bd_15 h_b_15 h_tn_15 h_td_15 h_t_15 h_xn_15 h_xd_15
  go_wp2_with fail
  have c := qof_any w16 (-1) 3 (by decide) (by decide) (by decide) (by decide)
  refine c.mono ?_
  rintro e w17 ⟨a_x, n_x, c_x, b_x, m_x, d_x, rfl, h_xn_17, h_xd_17, hb⟩
  clear c
  have B17 := B16.trans (hb.mono B16.size)
  have h_hn_17 := h_hn_16.below hb
  have h_hd_17 := h_hd_16.below hb
  have h_h_17 := h_h_16.later hb
  have h_bn_17 := h_bn_16.below hb
  have h_bd_17 := h_bd_16.below hb
  have h_b_17 := h_b_16.later hb
  have h_tn_17 := h_tn_16.below hb
  have h_td_17 := h_td_16.below hb
  have h_t_17 := h_t_16.later hb
  clear hb B16 h_hn_16 h_hd_16 h_h_16 h_bn_16 h_bd_16 h_b_16 h_tn_16 h_td_16 h_t_16
  go_wp2_with fail
  have c := bill_any w17 (g := (ofC (-1) 3).1.neg) h_xn_17 h_xd_17
  rw [show (⟨(ofC (-1) 3).1.neg, (ofC (-1) 3).1.num, (ofC (-1) 3).1.den⟩ : QV) = (ofC (-1) 3).1 from rfl] at c
  rw [qex_bill2] at c
  refine c.mono ?_
  rintro e w18 ⟨rfl, hb⟩
  clear c
  have B18 := B17.trans (hb.mono B17.size)
  have h_hn_18 := h_hn_17.below hb
  have h_hd_18 := h_hd_17.below hb
  have h_h_18 := h_h_17.later hb
  have h_bn_18 := h_bn_17.below hb
  have h_bd_18 := h_bd_17.below hb
  have h_b_18 := h_b_17.later hb
  have h_tn_18 := h_tn_17.below hb
  have h_td_18 := h_td_17.below hb
  have h_t_18 := h_t_17.later hb
  clear hb B17 h_hn_17 h_hd_17 h_h_17 h_bn_17 h_bd_17 h_b_17 h_tn_17 h_td_17 h_t_17 h_xn_17 h_xd_17
  go_wp2_with fail
  have c := qof_any w18 1000001 1 (by decide) (by decide) (by decide) (by decide)
  refine c.mono ?_
  rintro e w19 ⟨a_x, n_x, c_x, b_x, m_x, d_x, rfl, h_xn_19, h_xd_19, hb⟩
  clear c
  have B19 := B18.trans (hb.mono B18.size)
  have h_hn_19 := h_hn_18.below hb
  have h_hd_19 := h_hd_18.below hb
  have h_h_19 := h_h_18.later hb
  have h_bn_19 := h_bn_18.below hb
  have h_bd_19 := h_bd_18.below hb
  have h_b_19 := h_b_18.later hb
  have h_tn_19 := h_tn_18.below hb
  have h_td_19 := h_td_18.below hb
  have h_t_19 := h_t_18.later hb
  clear hb B18 h_hn_18 h_hd_18 h_h_18 h_bn_18 h_bd_18 h_b_18 h_tn_18 h_td_18 h_t_18
  go_wp2_with fail
  have c := bill_any w19 (g := (ofC 1000001 1).1.neg) h_xn_19 h_xd_19
  rw [show (⟨(ofC 1000001 1).1.neg, (ofC 1000001 1).1.num, (ofC 1000001 1).1.den⟩ : QV) = (ofC 1000001 1).1 from rfl] at c
  rw [qex_bill3] at c
  refine c.mono ?_
  rintro e w20 ⟨rfl, hb⟩
  clear c
  have B20 := B19.trans (hb.mono B19.size)
  have h_hn_20 := h_hn_19.below hb
  have h_hd_20 := h_hd_19.below hb
  have h_h_20 := h_h_19.later hb
  have h_bn_20 := h_bn_19.below hb
  have h_bd_20 := h_bd_19.below hb
  have h_b_20 := h_b_19.later hb
  have h_tn_20 := h_tn_19.below hb
  have h_td_20 := h_td_19.below hb
  have h_t_20 := h_t_19.later hb
  clear hb B19 h_hn_19 h_hd_19 h_h_19 h_bn_19 h_bd_19 h_b_19 h_tn_19 h_td_19 h_t_19 h_xn_19 h_xd_19
  go_wp2_with fail
  have c := qof_any w20 1000000 1 (by decide) (by decide) (by decide) (by decide)
  refine c.mono ?_
  rintro e w21 ⟨a_x, n_x, c_x, b_x, m_x, d_x, rfl, h_xn_21, h_xd_21, hb⟩
  clear c
  have B21 := B20.trans (hb.mono B20.size)
  have h_hn_21 := h_hn_20.below hb
  have h_hd_21 := h_hd_20.below hb
  have h_h_21 := h_h_20.later hb
  have h_bn_21 := h_bn_20.below hb
  have h_bd_21 := h_bd_20.below hb
  have h_b_21 := h_b_20.later hb
  have h_tn_21 := h_tn_20.below hb
  have h_td_21 := h_td_20.below hb
  have h_t_21 := h_t_20.later hb
  clear hb B20 h_hn_20 h_hd_20 h_h_20 h_bn_20 h_bd_20 h_b_20 h_tn_20 h_td_20 h_t_20
  go_wp2_with fail
  have c := bill_any w21 (g := (ofC 1000000 1).1.neg) h_xn_21 h_xd_21
  rw [show (⟨(ofC 1000000 1).1.neg, (ofC 1000000 1).1.num, (ofC 1000000 1).1.den⟩ : QV) = (ofC 1000000 1).1 from rfl] at c
  rw [qex_bill4] at c
  refine c.mono ?_
  rintro e w22 ⟨rfl, hb⟩
  clear c
  have B22 := B21.trans (hb.mono B21.size)
  have h_hn_22 := h_hn_21.below hb
  have h_hd_22 := h_hd_21.below hb
  have h_h_22 := h_h_21.later hb
  have h_bn_22 := h_bn_21.below hb
  have h_bd_22 := h_bd_21.below hb
  have h_b_22 := h_b_21.later hb
  have h_tn_22 := h_tn_21.below hb
  have h_td_22 := h_td_21.below hb
  have h_t_22 := h_t_21.later hb
  clear hb B21 h_hn_21 h_hd_21 h_h_21 h_bn_21 h_bd_21 h_b_21 h_tn_21 h_td_21 h_t_21 h_xn_21 h_xd_21
  go_wp2_with fail
  have hb := (Below.refl w22.heap.size w22).drew
  have B23 := B22.trans (hb.mono B22.size)
  have h_hn_23 := h_hn_22.below hb
  have h_hd_23 := h_hd_22.below hb
  have h_h_23 := h_h_22.later hb
  have h_bn_23 := h_bn_22.below hb
  have h_bd_23 := h_bd_22.below hb
  have h_b_23 := h_b_22.later hb
  have h_tn_23 := h_tn_22.below hb
  have h_td_23 := h_td_22.below hb
  have h_t_23 := h_t_22.later hb
  clear hb B22 h_hn_22 h_hd_22 h_h_22 h_bn_22 h_bd_22 h_b_22 h_tn_22 h_td_22 h_t_22
  refine wp_region_held_drew (S := (fun w' => w'.cell? ⟨w2.heap.size, 0, none⟩ = some (.bool ((ofC 100 3).1).neg) ∧ w'.cell? ⟨w2.heap.size, 1, none⟩ = some (.slice a_h n_h c_h) ∧ w'.cell? ⟨w2.heap.size, 2, none⟩ = some (.slice b_h m_h d_h) ∧ w'.cell? ⟨w4.heap.size, 0, none⟩ = some (.bool ((ofC 25 1).1).neg) ∧ w'.cell? ⟨w4.heap.size, 1, none⟩ = some (.slice a_b n_b c_b) ∧ w'.cell? ⟨w4.heap.size, 2, none⟩ = some (.slice b_b m_b d_b) ∧ w'.cell? ⟨w13.heap.size, 0, none⟩ = some (.bool ((ofC 1 2).1).neg) ∧ w'.cell? ⟨w13.heap.size, 1, none⟩ = some (.slice a_t n_t c_t) ∧ w'.cell? ⟨w13.heap.size, 2, none⟩ = some (.slice b_t m_t d_t) ∧ True)) (by kernel_rfl) ?_ (fun hHeld => ?_)
  · exact ⟨h_h_23.cell 0 _ rfl, h_h_23.cell 1 _ rfl, h_h_23.cell 2 _ rfl, h_b_23.cell 0 _ rfl, h_b_23.cell 1 _ rfl, h_b_23.cell 2 _ rfl, h_t_23.cell 0 _ rfl, h_t_23.cell 1 _ rfl, h_t_23.cell 2 _ rfl, trivial⟩
  generalize w22.drew = w23 at *
  as_aux_lemma =>
    refine wpAnyH_take (i := 0) (oi := ?oir2_0) (v := ?vr2_0) ?hir2_0 (by kernel_rfl) (by kernel_rfl) (by kernel_rfl) ?hqr2_0 ?hyr2_0 (by assumption) ?restr2_0
    case hir2_0 => simp only [List.getElem?_toArray, List.getElem?_cons_succ, List.getElem?_cons_zero]; rfl
    case hqr2_0 => exact fun _ _ _ h => h
    case hyr2_0 => (refine Or.inl ⟨by rfl, ?_⟩; intro w hSw; (try dsimp only at hSw); go_simp; all_goals with_reducible rfl)
    try simp only [Act.put, List.setIfInBounds_toArray, List.set_cons_zero, List.set_cons_succ]
    refine wpAnyH_take (i := 1) (oi := ?oir2_1) (v := ?vr2_1) ?hir2_1 (by kernel_rfl) (by kernel_rfl) (by kernel_rfl) ?hqr2_1 ?hyr2_1 (by assumption) ?restr2_1
    case hir2_1 => simp only [List.getElem?_toArray, List.getElem?_cons_succ, List.getElem?_cons_zero]; rfl
    case hqr2_1 => exact fun _ _ _ h => h
    case hyr2_1 => (refine Or.inl ⟨by rfl, ?_⟩; intro w hSw; (try dsimp only at hSw); go_simp; all_goals with_reducible rfl)
    try simp only [Act.put, List.setIfInBounds_toArray, List.set_cons_zero, List.set_cons_succ]
    refine wpAnyH_take (i := 2) (oi := ?oir2_2) (v := ?vr2_2) ?hir2_2 (by kernel_rfl) (by kernel_rfl) (by kernel_rfl) ?hqr2_2 ?hyr2_2 (by assumption) ?restr2_2
    case hir2_2 => simp only [List.getElem?_toArray, List.getElem?_cons_succ, List.getElem?_cons_zero]; rfl
    case hqr2_2 => exact fun _ _ _ h => h
    case hyr2_2 => (refine Or.inl ⟨by rfl, ?_⟩; intro w hSw; (try dsimp only at hSw); go_simp; all_goals with_reducible rfl)
    try simp only [Act.put, List.setIfInBounds_toArray, List.set_cons_zero, List.set_cons_succ]
    refine wpAnyH_take (i := 3) (oi := ?oir2_3) (v := ?vr2_3) ?hir2_3 (by kernel_rfl) (by kernel_rfl) (by kernel_rfl) ?hqr2_3 ?hyr2_3 (by assumption) ?restr2_3
    case hir2_3 => simp only [List.getElem?_toArray, List.getElem?_cons_succ, List.getElem?_cons_zero]; rfl
    case hqr2_3 => exact fun _ _ _ h => h
    case hyr2_3 => (refine Or.inl ⟨by rfl, ?_⟩; intro w hSw; (try dsimp only at hSw); go_simp; all_goals with_reducible rfl)
    try simp only [Act.put, List.setIfInBounds_toArray, List.set_cons_zero, List.set_cons_succ]
    refine wpAnyH_take (i := 4) (oi := ?oir2_4) (v := ?vr2_4) ?hir2_4 (by kernel_rfl) (by kernel_rfl) (by kernel_rfl) ?hqr2_4 ?hyr2_4 (by assumption) ?restr2_4
    case hir2_4 => simp only [List.getElem?_toArray, List.getElem?_cons_succ, List.getElem?_cons_zero]; rfl
    case hqr2_4 => exact fun _ _ _ h => h
    case hyr2_4 => (refine Or.inl ⟨by rfl, ?_⟩; intro w hSw; (try dsimp only at hSw); go_simp; all_goals with_reducible rfl)
    try simp only [Act.put, List.setIfInBounds_toArray, List.set_cons_zero, List.set_cons_succ]
    refine wpAnyH_take (i := 5) (oi := ?oir2_5) (v := ?vr2_5) ?hir2_5 (by kernel_rfl) (by kernel_rfl) (by kernel_rfl) ?hqr2_5 ?hyr2_5 (by assumption) ?restr2_5
    case hir2_5 => simp only [List.getElem?_toArray, List.getElem?_cons_succ, List.getElem?_cons_zero]; rfl
    case hqr2_5 => exact fun _ _ _ h => h
    case hyr2_5 => (refine Or.inl ⟨by rfl, ?_⟩; intro w hSw; (try dsimp only at hSw); go_simp; all_goals with_reducible rfl)
    try simp only [Act.put, List.setIfInBounds_toArray, List.set_cons_zero, List.set_cons_succ]
    refine wpAnyH_take (i := 6) (oi := ?oir2_6) (v := ?vr2_6) ?hir2_6 (by kernel_rfl) (by kernel_rfl) (by kernel_rfl) ?hqr2_6 ?hyr2_6 (by assumption) ?restr2_6
    case hir2_6 => simp only [List.getElem?_toArray, List.getElem?_cons_succ, List.getElem?_cons_zero]; rfl
    case hqr2_6 => exact fun _ _ _ h => h
    case hyr2_6 => (refine Or.inl ⟨by rfl, ?_⟩; intro w hSw; (try dsimp only at hSw); go_simp; all_goals with_reducible rfl)
    try simp only [Act.put, List.setIfInBounds_toArray, List.set_cons_zero, List.set_cons_succ]
    refine wpAnyH_take (i := 7) (oi := ?oir2_7) (v := ?vr2_7) ?hir2_7 (by kernel_rfl) (by kernel_rfl) (by kernel_rfl) ?hqr2_7 ?hyr2_7 (by assumption) ?restr2_7
    case hir2_7 => simp only [List.getElem?_toArray, List.getElem?_cons_succ, List.getElem?_cons_zero]; rfl
    case hqr2_7 => exact fun _ _ _ h => h
    case hyr2_7 => (refine Or.inl ⟨by rfl, ?_⟩; intro w hSw; (try dsimp only at hSw); go_simp; all_goals with_reducible rfl)
    try simp only [Act.put, List.setIfInBounds_toArray, List.set_cons_zero, List.set_cons_succ]
    refine wpAnyH_take (i := 8) (oi := ?oir2_8) (v := ?vr2_8) ?hir2_8 (by kernel_rfl) (by kernel_rfl) (by kernel_rfl) ?hqr2_8 ?hyr2_8 (by assumption) ?restr2_8
    case hir2_8 => simp only [List.getElem?_toArray, List.getElem?_cons_succ, List.getElem?_cons_zero]; rfl
    case hqr2_8 => exact fun _ _ _ h => h
    case hyr2_8 => (refine Or.inl ⟨by rfl, ?_⟩; intro w hSw; (try dsimp only at hSw); go_simp; all_goals with_reducible rfl)
    try simp only [Act.put, List.setIfInBounds_toArray, List.set_cons_zero, List.set_cons_succ]
    refine wpAnyH_take (i := 9) (oi := ?oir2_9) (v := ?vr2_9) ?hir2_9 (by kernel_rfl) (by kernel_rfl) (by kernel_rfl) ?hqr2_9 ?hyr2_9 (by assumption) ?restr2_9
    case hir2_9 => simp only [List.getElem?_toArray, List.getElem?_cons_succ, List.getElem?_cons_zero]; rfl
    case hqr2_9 => exact fun _ _ _ h => h
    case hyr2_9 => (refine Or.inl ⟨by rfl, ?_⟩; intro w hSw; (try dsimp only at hSw); go_simp; all_goals with_reducible rfl)
    try simp only [Act.put, List.setIfInBounds_toArray, List.set_cons_zero, List.set_cons_succ]
    refine wpAnyH_take (i := 10) (oi := ?oir2_10) (v := ?vr2_10) ?hir2_10 (by kernel_rfl) (by kernel_rfl) (by kernel_rfl) ?hqr2_10 ?hyr2_10 (by assumption) ?restr2_10
    case hir2_10 => simp only [List.getElem?_toArray, List.getElem?_cons_succ, List.getElem?_cons_zero]; rfl
    case hqr2_10 => exact fun _ _ _ h => h
    case hyr2_10 => (refine Or.inl ⟨by rfl, ?_⟩; intro w hSw; (try dsimp only at hSw); go_simp; all_goals with_reducible rfl)
    try simp only [Act.put, List.setIfInBounds_toArray, List.set_cons_zero, List.set_cons_succ]
    refine wpAnyH_take (i := 11) (oi := ?oir2_11) (v := ?vr2_11) ?hir2_11 (by kernel_rfl) (by kernel_rfl) (by kernel_rfl) ?hqr2_11 ?hyr2_11 (by assumption) ?restr2_11
    case hir2_11 => simp only [List.getElem?_toArray, List.getElem?_cons_succ, List.getElem?_cons_zero]; rfl
    case hqr2_11 => exact fun _ _ _ h => h
    case hyr2_11 => (refine Or.inl ⟨by rfl, ?_⟩; intro w hSw; (try dsimp only at hSw); go_simp; all_goals with_reducible rfl)
    try simp only [Act.put, List.setIfInBounds_toArray, List.set_cons_zero, List.set_cons_succ]
    refine wpAnyH_ready (rs := [12]) (by kernel_rfl) (by simp) ?_
    refine AllReadyH.cons (o := ?or3_12) ?hor3_12 (fun K hK => ?kr3_12) AllReadyH.nil
    case hor3_12 => simp only [List.getElem?_toArray, List.getElem?_cons_succ, List.getElem?_cons_zero]; rfl
    go_simp
    have c := qof_any w23 100 3 (by decide) (by decide) (by decide) (by decide)
    refine c.mono ?_
    rintro e w24 ⟨a_x, n_x, c_x, b_x, m_x, d_x, rfl, h_xn_24, h_xd_24, hb⟩
    clear c
    have B24 := B23.trans (hb.mono B23.size)
    have h_hn_24 := h_hn_23.below hb
    have h_hd_24 := h_hd_23.below hb
    have h_h_24 := h_h_23.later hb
    have h_bn_24 := h_bn_23.below hb
    have h_bd_24 := h_bd_23.below hb
    have h_b_24 := h_b_23.later hb
    have h_tn_24 := h_tn_23.below hb
    have h_td_24 := h_td_23.below hb
    have h_t_24 := h_t_23.later hb
    clear hb B23 h_hn_23 h_hd_23 h_h_23 h_bn_23 h_bd_23 h_b_23 h_tn_23 h_td_23 h_t_23
    go_wp2_with fail
    clear hHeld
    refine hK.out _ _ ?_ (fun hHeld => ?_)
    · exact ⟨h_h_24.cell 0 _ rfl, h_h_24.cell 1 _ rfl, h_h_24.cell 2 _ rfl, h_b_24.cell 0 _ rfl, h_b_24.cell 1 _ rfl, h_b_24.cell 2 _ rfl, h_t_24.cell 0 _ rfl, h_t_24.cell 1 _ rfl, h_t_24.cell 2 _ rfl, trivial⟩
    clear hK K
    try simp only [Act.put, List.setIfInBounds_toArray, List.set_cons_zero, List.set_cons_succ]
    refine wpAnyH_ready (rs := [13]) (by kernel_rfl) (by simp) ?_
    refine AllReadyH.cons (o := ?or4_13) ?hor4_13 (fun K hK => ?kr4_13) AllReadyH.nil
    case hor4_13 => simp only [List.getElem?_toArray, List.getElem?_cons_succ, List.getElem?_cons_zero]; rfl
    go_simp
    have c := refRatSame_any w24 (g1 := (ofC 100 3).1.neg) (g2 := (ofC 100 3).1.neg) h_hn_24 h_hd_24 h_xn_24 h_xd_24
    rw [show (⟨(ofC 100 3).1.neg, (ofC 100 3).1.num, (ofC 100 3).1.den⟩ : QV) = (ofC 100 3).1 from rfl] at c
    rw [ex_sameq] at c
    refine c.mono ?_
    rintro e w25 ⟨rfl, hb⟩
    clear c
    have B25 := B24.trans (hb.mono B24.size)
    have h_hn_25 := h_hn_24.below hb
    have h_hd_25 := h_hd_24.below hb
    have h_h_25 := h_h_24.later hb
    have h_bn_25 := h_bn_24.below hb
    have h_bd_25 := h_bd_24.below hb
    have h_b_25 := h_b_24.later hb
    have h_tn_25 := h_tn_24.below hb
    have h_td_25 := h_td_24.below hb
    have h_t_25 := h_t_24.later hb
    clear hb B24 h_hn_24 h_hd_24 h_h_24 h_bn_24 h_bd_24 h_b_24 h_tn_24 h_td_24 h_t_24 h_xn_24 h_xd_24
    go_wp2_with fail
    clear hHeld
    refine hK.out _ _ ?_ (fun hHeld => ?_)
    · exact ⟨h_h_25.cell 0 _ rfl, h_h_25.cell 1 _ rfl, h_h_25.cell 2 _ rfl, h_b_25.cell 0 _ rfl, h_b_25.cell 1 _ rfl, h_b_25.cell 2 _ rfl, h_t_25.cell 0 _ rfl, h_t_25.cell 1 _ rfl, h_t_25.cell 2 _ rfl, trivial⟩
    clear hK K
    try simp only [Act.put, List.setIfInBounds_toArray, List.set_cons_zero, List.set_cons_succ]
    as_aux_lemma =>
      refine wpAnyH_take (i := 14) (oi := ?oir6_14) (v := ?vr6_14) ?hir6_14 (by kernel_rfl) (by kernel_rfl) (by kernel_rfl) ?hqr6_14 ?hyr6_14 (by assumption) ?restr6_14
      case hir6_14 => simp only [List.getElem?_toArray, List.getElem?_cons_succ, List.getElem?_cons_zero]; rfl
      case hqr6_14 => exact fun _ _ _ h => h
      case hyr6_14 => (refine Or.inl ⟨by rfl, ?_⟩; intro w hSw; (try dsimp only at hSw); go_simp; all_goals with_reducible rfl)
      try simp only [Act.put, List.setIfInBounds_toArray, List.set_cons_zero, List.set_cons_succ]
      refine wpAnyH_take (i := 15) (oi := ?oir6_15) (v := ?vr6_15) ?hir6_15 (by kernel_rfl) (by kernel_rfl) (by kernel_rfl) ?hqr6_15 ?hyr6_15 (by assumption) ?restr6_15
      case hir6_15 => simp only [List.getElem?_toArray, List.getElem?_cons_succ, List.getElem?_cons_zero]; rfl
      case hqr6_15 => exact fun _ _ _ h => h
      case hyr6_15 => (refine Or.inl ⟨by rfl, ?_⟩; intro w hSw; (try dsimp only at hSw); go_simp; all_goals with_reducible rfl)
      try simp only [Act.put, List.setIfInBounds_toArray, List.set_cons_zero, List.set_cons_succ]
      refine wpAnyH_take (i := 16) (oi := ?oir6_16) (v := ?vr6_16) ?hir6_16 (by kernel_rfl) (by kernel_rfl) (by kernel_rfl) ?hqr6_16 ?hyr6_16 (by assumption) ?restr6_16
      case hir6_16 => simp only [List.getElem?_toArray, List.getElem?_cons_succ, List.getElem?_cons_zero]; rfl
      case hqr6_16 => exact fun _ _ _ h => h
      case hyr6_16 => (refine Or.inl ⟨by rfl, ?_⟩; intro w hSw; (try dsimp only at hSw); go_simp; all_goals with_reducible rfl)
      try simp only [Act.put, List.setIfInBounds_toArray, List.set_cons_zero, List.set_cons_succ]
      refine wpAnyH_take (i := 17) (oi := ?oir6_17) (v := ?vr6_17) ?hir6_17 (by kernel_rfl) (by kernel_rfl) (by kernel_rfl) ?hqr6_17 ?hyr6_17 (by assumption) ?restr6_17
      case hir6_17 => simp only [List.getElem?_toArray, List.getElem?_cons_succ, List.getElem?_cons_zero]; rfl
      case hqr6_17 => exact fun _ _ _ h => h
      case hyr6_17 => (refine Or.inl ⟨by rfl, ?_⟩; intro w hSw; (try dsimp only at hSw); go_simp; all_goals with_reducible rfl)
      try simp only [Act.put, List.setIfInBounds_toArray, List.set_cons_zero, List.set_cons_succ]
      refine wpAnyH_take (i := 18) (oi := ?oir6_18) (v := ?vr6_18) ?hir6_18 (by kernel_rfl) (by kernel_rfl) (by kernel_rfl) ?hqr6_18 ?hyr6_18 (by assumption) ?restr6_18
      case hir6_18 => simp only [List.getElem?_toArray, List.getElem?_cons_succ, List.getElem?_cons_zero]; rfl
      case hqr6_18 => exact fun _ _ _ h => h
      case hyr6_18 => (refine Or.inl ⟨by rfl, ?_⟩; intro w hSw; (try dsimp only at hSw); go_simp; all_goals with_reducible rfl)
      try simp only [Act.put, List.setIfInBounds_toArray, List.set_cons_zero, List.set_cons_succ]
      refine wpAnyH_take (i := 19) (oi := ?oir6_19) (v := ?vr6_19) ?hir6_19 (by kernel_rfl) (by kernel_rfl) (by kernel_rfl) ?hqr6_19 ?hyr6_19 (by assumption) ?restr6_19
      case hir6_19 => simp only [List.getElem?_toArray, List.getElem?_cons_succ, List.getElem?_cons_zero]; rfl
      case hqr6_19 => exact fun _ _ _ h => h
      case hyr6_19 => (refine Or.inl ⟨by rfl, ?_⟩; intro w hSw; (try dsimp only at hSw); go_simp; all_goals with_reducible rfl)
      try simp only [Act.put, List.setIfInBounds_toArray, List.set_cons_zero, List.set_cons_succ]
      refine wpAnyH_take (i := 20) (oi := ?oir6_20) (v := ?vr6_20) ?hir6_20 (by kernel_rfl) (by kernel_rfl) (by kernel_rfl) ?hqr6_20 ?hyr6_20 (by assumption) ?restr6_20
      case hir6_20 => simp only [List.getElem?_toArray, List.getElem?_cons_succ, List.getElem?_cons_zero]; rfl
      case hqr6_20 => exact fun _ _ _ h => h
      case hyr6_20 => (refine Or.inl ⟨by rfl, ?_⟩; intro w hSw; (try dsimp only at hSw); go_simp; all_goals with_reducible rfl)
      try simp only [Act.put, List.setIfInBounds_toArray, List.set_cons_zero, List.set_cons_succ]
      refine wpAnyH_ready (rs := [21]) (by kernel_rfl) (by simp) ?_
      refine AllReadyH.cons (o := ?or7_21) ?hor7_21 (fun K hK => ?kr7_21) AllReadyH.nil
      case hor7_21 => simp only [List.getElem?_toArray, List.getElem?_cons_succ, List.getElem?_cons_zero]; rfl
      go_simp
      have c := qof_any w25 25 1 (by decide) (by decide) (by decide) (by decide)
      refine c.mono ?_
      rintro e w26 ⟨a_x, n_x, c_x, b_x, m_x, d_x, rfl, h_xn_26, h_xd_26, hb⟩
      clear c
      have B26 := B25.trans (hb.mono B25.size)
      have h_hn_26 := h_hn_25.below hb
      have h_hd_26 := h_hd_25.below hb
      have h_h_26 := h_h_25.later hb
      have h_bn_26 := h_bn_25.below hb
      have h_bd_26 := h_bd_25.below hb
      have h_b_26 := h_b_25.later hb
      have h_tn_26 := h_tn_25.below hb
      have h_td_26 := h_td_25.below hb
      have h_t_26 := h_t_25.later hb
      clear hb B25 h_hn_25 h_hd_25 h_h_25 h_bn_25 h_bd_25 h_b_25 h_tn_25 h_td_25 h_t_25
      go_wp2_with fail
      clear hHeld
      refine hK.out _ _ ?_ (fun hHeld => ?_)
      · exact ⟨h_h_26.cell 0 _ rfl, h_h_26.cell 1 _ rfl, h_h_26.cell 2 _ rfl, h_b_26.cell 0 _ rfl, h_b_26.cell 1 _ rfl, h_b_26.cell 2 _ rfl, h_t_26.cell 0 _ rfl, h_t_26.cell 1 _ rfl, h_t_26.cell 2 _ rfl, trivial⟩
      clear hK K
      try simp only [Act.put, List.setIfInBounds_toArray, List.set_cons_zero, List.set_cons_succ]
      refine wpAnyH_ready (rs := [22]) (by kernel_rfl) (by simp) ?_
      refine AllReadyH.cons (o := ?or8_22) ?hor8_22 (fun K hK => ?kr8_22) AllReadyH.nil
      case hor8_22 => simp only [List.getElem?_toArray, List.getElem?_cons_succ, List.getElem?_cons_zero]; rfl
      go_simp
      have c := refRatSame_any w26 (g1 := (ofC 25 1).1.neg) (g2 := (ofC 25 1).1.neg) h_bn_26 h_bd_26 h_xn_26 h_xd_26
      rw [show (⟨(ofC 25 1).1.neg, (ofC 25 1).1.num, (ofC 25 1).1.den⟩ : QV) = (ofC 25 1).1 from rfl] at c
      rw [ex_sameq] at c
      refine c.mono ?_
      rintro e w27 ⟨rfl, hb⟩
      clear c
      have B27 := B26.trans (hb.mono B26.size)
      have h_hn_27 := h_hn_26.below hb
      have h_hd_27 := h_hd_26.below hb
      have h_h_27 := h_h_26.later hb
      have h_bn_27 := h_bn_26.below hb
      have h_bd_27 := h_bd_26.below hb
      have h_b_27 := h_b_26.later hb
      have h_tn_27 := h_tn_26.below hb
      have h_td_27 := h_td_26.below hb
      have h_t_27 := h_t_26.later hb
      clear hb B26 h_hn_26 h_hd_26 h_h_26 h_bn_26 h_bd_26 h_b_26 h_tn_26 h_td_26 h_t_26 h_xn_26 h_xd_26
      go_wp2_with fail
      clear hHeld
      refine hK.out _ _ ?_ (fun hHeld => ?_)
      · exact ⟨h_h_27.cell 0 _ rfl, h_h_27.cell 1 _ rfl, h_h_27.cell 2 _ rfl, h_b_27.cell 0 _ rfl, h_b_27.cell 1 _ rfl, h_b_27.cell 2 _ rfl, h_t_27.cell 0 _ rfl, h_t_27.cell 1 _ rfl, h_t_27.cell 2 _ rfl, trivial⟩
      clear hK K
      try simp only [Act.put, List.setIfInBounds_toArray, List.set_cons_zero, List.set_cons_succ]
      as_aux_lemma =>
        refine wpAnyH_take (i := 23) (oi := ?oir10_23) (v := ?vr10_23) ?hir10_23 (by kernel_rfl) (by kernel_rfl) (by kernel_rfl) ?hqr10_23 ?hyr10_23 (by assumption) ?restr10_23
        case hir10_23 => simp only [List.getElem?_toArray, List.getElem?_cons_succ, List.getElem?_cons_zero]; rfl
        case hqr10_23 => exact fun _ _ _ h => h
        case hyr10_23 => (refine Or.inl ⟨by rfl, ?_⟩; intro w hSw; (try dsimp only at hSw); go_simp; all_goals with_reducible rfl)
        try simp only [Act.put, List.setIfInBounds_toArray, List.set_cons_zero, List.set_cons_succ]
        refine wpAnyH_take (i := 24) (oi := ?oir10_24) (v := ?vr10_24) ?hir10_24 (by kernel_rfl) (by kernel_rfl) (by kernel_rfl) ?hqr10_24 ?hyr10_24 (by assumption) ?restr10_24
        case hir10_24 => simp only [List.getElem?_toArray, List.getElem?_cons_succ, List.getElem?_cons_zero]; rfl
        case hqr10_24 => exact fun _ _ _ h => h
        case hyr10_24 => (refine Or.inl ⟨by rfl, ?_⟩; intro w hSw; (try dsimp only at hSw); go_simp; all_goals with_reducible rfl)
        try simp only [Act.put, List.setIfInBounds_toArray, List.set_cons_zero, List.set_cons_succ]
        refine wpAnyH_take (i := 25) (oi := ?oir10_25) (v := ?vr10_25) ?hir10_25 (by kernel_rfl) (by kernel_rfl) (by kernel_rfl) ?hqr10_25 ?hyr10_25 (by assumption) ?restr10_25
        case hir10_25 => simp only [List.getElem?_toArray, List.getElem?_cons_succ, List.getElem?_cons_zero]; rfl
        case hqr10_25 => exact fun _ _ _ h => h
        case hyr10_25 => (refine Or.inl ⟨by rfl, ?_⟩; intro w hSw; (try dsimp only at hSw); go_simp; all_goals with_reducible rfl)
        try simp only [Act.put, List.setIfInBounds_toArray, List.set_cons_zero, List.set_cons_succ]
        refine wpAnyH_take (i := 26) (oi := ?oir10_26) (v := ?vr10_26) ?hir10_26 (by kernel_rfl) (by kernel_rfl) (by kernel_rfl) ?hqr10_26 ?hyr10_26 (by assumption) ?restr10_26
        case hir10_26 => simp only [List.getElem?_toArray, List.getElem?_cons_succ, List.getElem?_cons_zero]; rfl
        case hqr10_26 => exact fun _ _ _ h => h
        case hyr10_26 => (refine Or.inl ⟨by rfl, ?_⟩; intro w hSw; (try dsimp only at hSw); go_simp; all_goals with_reducible rfl)
        try simp only [Act.put, List.setIfInBounds_toArray, List.set_cons_zero, List.set_cons_succ]
        refine wpAnyH_take (i := 27) (oi := ?oir10_27) (v := ?vr10_27) ?hir10_27 (by kernel_rfl) (by kernel_rfl) (by kernel_rfl) ?hqr10_27 ?hyr10_27 (by assumption) ?restr10_27
        case hir10_27 => simp only [List.getElem?_toArray, List.getElem?_cons_succ, List.getElem?_cons_zero]; rfl
        case hqr10_27 => exact fun _ _ _ h => h
        case hyr10_27 => (refine Or.inl ⟨by rfl, ?_⟩; intro w hSw; (try dsimp only at hSw); go_simp; all_goals with_reducible rfl)
        try simp only [Act.put, List.setIfInBounds_toArray, List.set_cons_zero, List.set_cons_succ]
        refine wpAnyH_take (i := 28) (oi := ?oir10_28) (v := ?vr10_28) ?hir10_28 (by kernel_rfl) (by kernel_rfl) (by kernel_rfl) ?hqr10_28 ?hyr10_28 (by assumption) ?restr10_28
        case hir10_28 => simp only [List.getElem?_toArray, List.getElem?_cons_succ, List.getElem?_cons_zero]; rfl
        case hqr10_28 => exact fun _ _ _ h => h
        case hyr10_28 => (refine Or.inl ⟨by rfl, ?_⟩; intro w hSw; (try dsimp only at hSw); go_simp; all_goals with_reducible rfl)
        try simp only [Act.put, List.setIfInBounds_toArray, List.set_cons_zero, List.set_cons_succ]
        refine wpAnyH_take (i := 29) (oi := ?oir10_29) (v := ?vr10_29) ?hir10_29 (by kernel_rfl) (by kernel_rfl) (by kernel_rfl) ?hqr10_29 ?hyr10_29 (by assumption) ?restr10_29
        case hir10_29 => simp only [List.getElem?_toArray, List.getElem?_cons_succ, List.getElem?_cons_zero]; rfl
        case hqr10_29 => exact fun _ _ _ h => h
        case hyr10_29 => (refine Or.inl ⟨by rfl, ?_⟩; intro w hSw; (try dsimp only at hSw); go_simp; all_goals with_reducible rfl)
        try simp only [Act.put, List.setIfInBounds_toArray, List.set_cons_zero, List.set_cons_succ]
        refine wpAnyH_take (i := 30) (oi := ?oir10_30) (v := ?vr10_30) ?hir10_30 (by kernel_rfl) (by kernel_rfl) (by kernel_rfl) ?hqr10_30 ?hyr10_30 (by assumption) ?restr10_30
        case hir10_30 => simp only [List.getElem?_toArray, List.getElem?_cons_succ, List.getElem?_cons_zero]; rfl
        case hqr10_30 => exact fun _ _ _ h => h
        case hyr10_30 => (refine Or.inl ⟨by rfl, ?_⟩; intro w hSw; (try dsimp only at hSw); go_simp; all_goals with_reducible rfl)
        try simp only [Act.put, List.setIfInBounds_toArray, List.set_cons_zero, List.set_cons_succ]
        refine wpAnyH_take (i := 31) (oi := ?oir10_31) (v := ?vr10_31) ?hir10_31 (by kernel_rfl) (by kernel_rfl) (by kernel_rfl) ?hqr10_31 ?hyr10_31 (by assumption) ?restr10_31
        case hir10_31 => simp only [List.getElem?_toArray, List.getElem?_cons_succ, List.getElem?_cons_zero]; rfl
        case hqr10_31 => exact fun _ _ _ h => h
        case hyr10_31 => (refine Or.inl ⟨by rfl, ?_⟩; intro w hSw; (try dsimp only at hSw); go_simp; all_goals with_reducible rfl)
        try simp only [Act.put, List.setIfInBounds_toArray, List.set_cons_zero, List.set_cons_succ]
        refine wpAnyH_take (i := 32) (oi := ?oir10_32) (v := ?vr10_32) ?hir10_32 (by kernel_rfl) (by kernel_rfl) (by kernel_rfl) ?hqr10_32 ?hyr10_32 (by assumption) ?restr10_32
        case hir10_32 => simp only [List.getElem?_toArray, List.getElem?_cons_succ, List.getElem?_cons_zero]; rfl
        case hqr10_32 => exact fun _ _ _ h => h
        case hyr10_32 => (refine Or.inl ⟨by rfl, ?_⟩; intro w hSw; (try dsimp only at hSw); go_simp; all_goals with_reducible rfl)
        try simp only [Act.put, List.setIfInBounds_toArray, List.set_cons_zero, List.set_cons_succ]
        refine wpAnyH_take (i := 33) (oi := ?oir10_33) (v := ?vr10_33) ?hir10_33 (by kernel_rfl) (by kernel_rfl) (by kernel_rfl) ?hqr10_33 ?hyr10_33 (by assumption) ?restr10_33
        case hir10_33 => simp only [List.getElem?_toArray, List.getElem?_cons_succ, List.getElem?_cons_zero]; rfl
        case hqr10_33 => exact fun _ _ _ h => h
        case hyr10_33 => (refine Or.inl ⟨by rfl, ?_⟩; intro w hSw; (try dsimp only at hSw); go_simp; all_goals with_reducible rfl)
        try simp only [Act.put, List.setIfInBounds_toArray, List.set_cons_zero, List.set_cons_succ]
        refine wpAnyH_take (i := 34) (oi := ?oir10_34) (v := ?vr10_34) ?hir10_34 (by kernel_rfl) (by kernel_rfl) (by kernel_rfl) ?hqr10_34 ?hyr10_34 (by assumption) ?restr10_34
        case hir10_34 => simp only [List.getElem?_toArray, List.getElem?_cons_succ, List.getElem?_cons_zero]; rfl
        case hqr10_34 => exact fun _ _ _ h => h
        case hyr10_34 => (refine Or.inl ⟨by rfl, ?_⟩; intro w hSw; (try dsimp only at hSw); go_simp; all_goals with_reducible rfl)
        try simp only [Act.put, List.setIfInBounds_toArray, List.set_cons_zero, List.set_cons_succ]
        refine wpAnyH_take (i := 35) (oi := ?oir10_35) (v := ?vr10_35) ?hir10_35 (by kernel_rfl) (by kernel_rfl) (by kernel_rfl) ?hqr10_35 ?hyr10_35 (by assumption) ?restr10_35
        case hir10_35 => simp only [List.getElem?_toArray, List.getElem?_cons_succ, List.getElem?_cons_zero]; rfl
        case hqr10_35 => exact fun _ _ _ h => h
        case hyr10_35 => (refine Or.inl ⟨by rfl, ?_⟩; intro w hSw; (try dsimp only at hSw); go_simp; all_goals with_reducible rfl)
        try simp only [Act.put, List.setIfInBounds_toArray, List.set_cons_zero, List.set_cons_succ]
        refine wpAnyH_take (i := 36) (oi := ?oir10_36) (v := ?vr10_36) ?hir10_36 (by kernel_rfl) (by kernel_rfl) (by kernel_rfl) ?hqr10_36 ?hyr10_36 (by assumption) ?restr10_36
        case hir10_36 => simp only [List.getElem?_toArray, List.getElem?_cons_succ, List.getElem?_cons_zero]; rfl
        case hqr10_36 => exact fun _ _ _ h => h
        case hyr10_36 => (refine Or.inl ⟨by rfl, ?_⟩; intro w hSw; (try dsimp only at hSw); go_simp; all_goals with_reducible rfl)
        try simp only [Act.put, List.setIfInBounds_toArray, List.set_cons_zero, List.set_cons_succ]
        refine wpAnyH_take (i := 37) (oi := ?oir10_37) (v := ?vr10_37) ?hir10_37 (by kernel_rfl) (by kernel_rfl) (by kernel_rfl) ?hqr10_37 ?hyr10_37 (by assumption) ?restr10_37
        case hir10_37 => simp only [List.getElem?_toArray, List.getElem?_cons_succ, List.getElem?_cons_zero]; rfl
        case hqr10_37 => exact fun _ _ _ h => h
        case hyr10_37 => (refine Or.inl ⟨by rfl, ?_⟩; intro w hSw; (try dsimp only at hSw); go_simp; all_goals with_reducible rfl)
        try simp only [Act.put, List.setIfInBounds_toArray, List.set_cons_zero, List.set_cons_succ]
        refine wpAnyH_take (i := 38) (oi := ?oir10_38) (v := ?vr10_38) ?hir10_38 (by kernel_rfl) (by kernel_rfl) (by kernel_rfl) ?hqr10_38 ?hyr10_38 (by assumption) ?restr10_38
        case hir10_38 => simp only [List.getElem?_toArray, List.getElem?_cons_succ, List.getElem?_cons_zero]; rfl
        case hqr10_38 => exact fun _ _ _ h => h
        case hyr10_38 => (refine Or.inl ⟨by rfl, ?_⟩; intro w hSw; (try dsimp only at hSw); go_simp; all_goals with_reducible rfl)
        try simp only [Act.put, List.setIfInBounds_toArray, List.set_cons_zero, List.set_cons_succ]
        refine wpAnyH_take (i := 39) (oi := ?oir10_39) (v := ?vr10_39) ?hir10_39 (by kernel_rfl) (by kernel_rfl) (by kernel_rfl) ?hqr10_39 ?hyr10_39 (by assumption) ?restr10_39
        case hir10_39 => simp only [List.getElem?_toArray, List.getElem?_cons_succ, List.getElem?_cons_zero]; rfl
        case hqr10_39 => exact fun _ _ _ h => h
        case hyr10_39 => (refine Or.inl ⟨by rfl, ?_⟩; intro w hSw; (try dsimp only at hSw); go_simp; all_goals with_reducible rfl)
        try simp only [Act.put, List.setIfInBounds_toArray, List.set_cons_zero, List.set_cons_succ]
        refine wpAnyH_take (i := 40) (oi := ?oir10_40) (v := ?vr10_40) ?hir10_40 (by kernel_rfl) (by kernel_rfl) (by kernel_rfl) ?hqr10_40 ?hyr10_40 (by assumption) ?restr10_40
        case hir10_40 => simp only [List.getElem?_toArray, List.getElem?_cons_succ, List.getElem?_cons_zero]; rfl
        case hqr10_40 => exact fun _ _ _ h => h
        case hyr10_40 => (refine Or.inl ⟨by rfl, ?_⟩; intro w hSw; (try dsimp only at hSw); go_simp; all_goals with_reducible rfl)
        try simp only [Act.put, List.setIfInBounds_toArray, List.set_cons_zero, List.set_cons_succ]
        as_aux_lemma =>
          refine wpAnyH_take (i := 41) (oi := ?oir12_41) (v := ?vr12_41) ?hir12_41 (by kernel_rfl) (by kernel_rfl) (by kernel_rfl) ?hqr12_41 ?hyr12_41 (by assumption) ?restr12_41
          case hir12_41 => simp only [List.getElem?_toArray, List.getElem?_cons_succ, List.getElem?_cons_zero]; rfl
          case hqr12_41 => exact fun _ _ _ h => h
          case hyr12_41 => (refine Or.inl ⟨by rfl, ?_⟩; intro w hSw; (try dsimp only at hSw); go_simp; all_goals with_reducible rfl)
          try simp only [Act.put, List.setIfInBounds_toArray, List.set_cons_zero, List.set_cons_succ]
          refine wpAnyH_take (i := 42) (oi := ?oir12_42) (v := ?vr12_42) ?hir12_42 (by kernel_rfl) (by kernel_rfl) (by kernel_rfl) ?hqr12_42 ?hyr12_42 (by assumption) ?restr12_42
          case hir12_42 => simp only [List.getElem?_toArray, List.getElem?_cons_succ, List.getElem?_cons_zero]; rfl
          case hqr12_42 => exact fun _ _ _ h => h
          case hyr12_42 => (refine Or.inl ⟨by rfl, ?_⟩; intro w hSw; (try dsimp only at hSw); go_simp; all_goals with_reducible rfl)
          try simp only [Act.put, List.setIfInBounds_toArray, List.set_cons_zero, List.set_cons_succ]
          refine wpAnyH_take (i := 43) (oi := ?oir12_43) (v := ?vr12_43) ?hir12_43 (by kernel_rfl) (by kernel_rfl) (by kernel_rfl) ?hqr12_43 ?hyr12_43 (by assumption) ?restr12_43
          case hir12_43 => simp only [List.getElem?_toArray, List.getElem?_cons_succ, List.getElem?_cons_zero]; rfl
          case hqr12_43 => exact fun _ _ _ h => h
          case hyr12_43 => (refine Or.inl ⟨by rfl, ?_⟩; intro w hSw; (try dsimp only at hSw); go_simp; all_goals with_reducible rfl)
          try simp only [Act.put, List.setIfInBounds_toArray, List.set_cons_zero, List.set_cons_succ]
          refine wpAnyH_take (i := 44) (oi := ?oir12_44) (v := ?vr12_44) ?hir12_44 (by kernel_rfl) (by kernel_rfl) (by kernel_rfl) ?hqr12_44 ?hyr12_44 (by assumption) ?restr12_44
          case hir12_44 => simp only [List.getElem?_toArray, List.getElem?_cons_succ, List.getElem?_cons_zero]; rfl
          case hqr12_44 => exact fun _ _ _ h => h
          case hyr12_44 => (refine Or.inl ⟨by rfl, ?_⟩; intro w hSw; (try dsimp only at hSw); go_simp; all_goals with_reducible rfl)
          try simp only [Act.put, List.setIfInBounds_toArray, List.set_cons_zero, List.set_cons_succ]
          refine wpAnyH_take (i := 45) (oi := ?oir12_45) (v := ?vr12_45) ?hir12_45 (by kernel_rfl) (by kernel_rfl) (by kernel_rfl) ?hqr12_45 ?hyr12_45 (by assumption) ?restr12_45
          case hir12_45 => simp only [List.getElem?_toArray, List.getElem?_cons_succ, List.getElem?_cons_zero]; rfl
          case hqr12_45 => exact fun _ _ _ h => h
          case hyr12_45 => (refine Or.inl ⟨by rfl, ?_⟩; intro w hSw; (try dsimp only at hSw); go_simp; all_goals with_reducible rfl)
          try simp only [Act.put, List.setIfInBounds_toArray, List.set_cons_zero, List.set_cons_succ]
          refine wpAnyH_take (i := 46) (oi := ?oir12_46) (v := ?vr12_46) ?hir12_46 (by kernel_rfl) (by kernel_rfl) (by kernel_rfl) ?hqr12_46 ?hyr12_46 (by assumption) ?restr12_46
          case hir12_46 => simp only [List.getElem?_toArray, List.getElem?_cons_succ, List.getElem?_cons_zero]; rfl
          case hqr12_46 => exact fun _ _ _ h => h
          case hyr12_46 => (refine Or.inl ⟨by rfl, ?_⟩; intro w hSw; (try dsimp only at hSw); go_simp; all_goals with_reducible rfl)
          try simp only [Act.put, List.setIfInBounds_toArray, List.set_cons_zero, List.set_cons_succ]
          refine wpAnyH_take (i := 47) (oi := ?oir12_47) (v := ?vr12_47) ?hir12_47 (by kernel_rfl) (by kernel_rfl) (by kernel_rfl) ?hqr12_47 ?hyr12_47 (by assumption) ?restr12_47
          case hir12_47 => simp only [List.getElem?_toArray, List.getElem?_cons_succ, List.getElem?_cons_zero]; rfl
          case hqr12_47 => exact fun _ _ _ h => h
          case hyr12_47 => (refine Or.inl ⟨by rfl, ?_⟩; intro w hSw; (try dsimp only at hSw); go_simp; all_goals with_reducible rfl)
          try simp only [Act.put, List.setIfInBounds_toArray, List.set_cons_zero, List.set_cons_succ]
          refine wpAnyH_take (i := 48) (oi := ?oir12_48) (v := ?vr12_48) ?hir12_48 (by kernel_rfl) (by kernel_rfl) (by kernel_rfl) ?hqr12_48 ?hyr12_48 (by assumption) ?restr12_48
          case hir12_48 => simp only [List.getElem?_toArray, List.getElem?_cons_succ, List.getElem?_cons_zero]; rfl
          case hqr12_48 => exact fun _ _ _ h => h
          case hyr12_48 => (refine Or.inl ⟨by rfl, ?_⟩; intro w hSw; (try dsimp only at hSw); go_simp; all_goals with_reducible rfl)
          try simp only [Act.put, List.setIfInBounds_toArray, List.set_cons_zero, List.set_cons_succ]
          refine wpAnyH_take (i := 49) (oi := ?oir12_49) (v := ?vr12_49) ?hir12_49 (by kernel_rfl) (by kernel_rfl) (by kernel_rfl) ?hqr12_49 ?hyr12_49 (by assumption) ?restr12_49
          case hir12_49 => simp only [List.getElem?_toArray, List.getElem?_cons_succ, List.getElem?_cons_zero]; rfl
          case hqr12_49 => exact fun _ _ _ h => h
          case hyr12_49 => (refine Or.inl ⟨by rfl, ?_⟩; intro w hSw; (try dsimp only at hSw); go_simp; all_goals with_reducible rfl)
          try simp only [Act.put, List.setIfInBounds_toArray, List.set_cons_zero, List.set_cons_succ]
          refine wpAnyH_take (i := 50) (oi := ?oir12_50) (v := ?vr12_50) ?hir12_50 (by kernel_rfl) (by kernel_rfl) (by kernel_rfl) ?hqr12_50 ?hyr12_50 (by assumption) ?restr12_50
          case hir12_50 => simp only [List.getElem?_toArray, List.getElem?_cons_succ, List.getElem?_cons_zero]; rfl
          case hqr12_50 => exact fun _ _ _ h => h
          case hyr12_50 => (refine Or.inl ⟨by rfl, ?_⟩; intro w hSw; (try dsimp only at hSw); go_simp; all_goals with_reducible rfl)
          try simp only [Act.put, List.setIfInBounds_toArray, List.set_cons_zero, List.set_cons_succ]
          refine wpAnyH_take (i := 51) (oi := ?oir12_51) (v := ?vr12_51) ?hir12_51 (by kernel_rfl) (by kernel_rfl) (by kernel_rfl) ?hqr12_51 ?hyr12_51 (by assumption) ?restr12_51
          case hir12_51 => simp only [List.getElem?_toArray, List.getElem?_cons_succ, List.getElem?_cons_zero]; rfl
          case hqr12_51 => exact fun _ _ _ h => h
          case hyr12_51 => (refine Or.inl ⟨by rfl, ?_⟩; intro w hSw; (try dsimp only at hSw); go_simp; all_goals with_reducible rfl)
          try simp only [Act.put, List.setIfInBounds_toArray, List.set_cons_zero, List.set_cons_succ]
          refine wpAnyH_take (i := 52) (oi := ?oir12_52) (v := ?vr12_52) ?hir12_52 (by kernel_rfl) (by kernel_rfl) (by kernel_rfl) ?hqr12_52 ?hyr12_52 (by assumption) ?restr12_52
          case hir12_52 => simp only [List.getElem?_toArray, List.getElem?_cons_succ, List.getElem?_cons_zero]; rfl
          case hqr12_52 => exact fun _ _ _ h => h
          case hyr12_52 => (refine Or.inl ⟨by rfl, ?_⟩; intro w hSw; (try dsimp only at hSw); go_simp; all_goals with_reducible rfl)
          try simp only [Act.put, List.setIfInBounds_toArray, List.set_cons_zero, List.set_cons_succ]
          refine wpAnyH_take (i := 53) (oi := ?oir12_53) (v := ?vr12_53) ?hir12_53 (by kernel_rfl) (by kernel_rfl) (by kernel_rfl) ?hqr12_53 ?hyr12_53 (by assumption) ?restr12_53
          case hir12_53 => simp only [List.getElem?_toArray, List.getElem?_cons_succ, List.getElem?_cons_zero]; rfl
          case hqr12_53 => exact fun _ _ _ h => h
          case hyr12_53 => (refine Or.inl ⟨by rfl, ?_⟩; intro w hSw; (try dsimp only at hSw); go_simp; all_goals with_reducible rfl)
          try simp only [Act.put, List.setIfInBounds_toArray, List.set_cons_zero, List.set_cons_succ]
          refine wpAnyH_take (i := 54) (oi := ?oir12_54) (v := ?vr12_54) ?hir12_54 (by kernel_rfl) (by kernel_rfl) (by kernel_rfl) ?hqr12_54 ?hyr12_54 (by assumption) ?restr12_54
          case hir12_54 => simp only [List.getElem?_toArray, List.getElem?_cons_succ, List.getElem?_cons_zero]; rfl
          case hqr12_54 => exact fun _ _ _ h => h
          case hyr12_54 => (refine Or.inl ⟨by rfl, ?_⟩; intro w hSw; (try dsimp only at hSw); go_simp; all_goals with_reducible rfl)
          try simp only [Act.put, List.setIfInBounds_toArray, List.set_cons_zero, List.set_cons_succ]
          refine wpAnyH_take (i := 55) (oi := ?oir12_55) (v := ?vr12_55) ?hir12_55 (by kernel_rfl) (by kernel_rfl) (by kernel_rfl) ?hqr12_55 ?hyr12_55 (by assumption) ?restr12_55
          case hir12_55 => simp only [List.getElem?_toArray, List.getElem?_cons_succ, List.getElem?_cons_zero]; rfl
          case hqr12_55 => exact fun _ _ _ h => h
          case hyr12_55 => (refine Or.inl ⟨by rfl, ?_⟩; intro w hSw; (try dsimp only at hSw); go_simp; all_goals with_reducible rfl)
          try simp only [Act.put, List.setIfInBounds_toArray, List.set_cons_zero, List.set_cons_succ]
          as_aux_lemma =>
            refine wpAnyH_take (i := 56) (oi := ?oir14_56) (v := ?vr14_56) ?hir14_56 (by kernel_rfl) (by kernel_rfl) (by kernel_rfl) ?hqr14_56 ?hyr14_56 (by assumption) ?restr14_56
            case hir14_56 => simp only [List.getElem?_toArray, List.getElem?_cons_succ, List.getElem?_cons_zero]; rfl
            case hqr14_56 => exact fun _ _ _ h => h
            case hyr14_56 => (refine Or.inl ⟨by rfl, ?_⟩; intro w hSw; (try dsimp only at hSw); go_simp; all_goals with_reducible rfl)
            try simp only [Act.put, List.setIfInBounds_toArray, List.set_cons_zero, List.set_cons_succ]
            refine wpAnyH_take (i := 57) (oi := ?oir14_57) (v := ?vr14_57) ?hir14_57 (by kernel_rfl) (by kernel_rfl) (by kernel_rfl) ?hqr14_57 ?hyr14_57 (by assumption) ?restr14_57
            case hir14_57 => simp only [List.getElem?_toArray, List.getElem?_cons_succ, List.getElem?_cons_zero]; rfl
            case hqr14_57 => exact fun _ _ _ h => h
            case hyr14_57 => (refine Or.inl ⟨by rfl, ?_⟩; intro w hSw; (try dsimp only at hSw); go_simp; all_goals with_reducible rfl)
            try simp only [Act.put, List.setIfInBounds_toArray, List.set_cons_zero, List.set_cons_succ]
            refine wpAnyH_take (i := 58) (oi := ?oir14_58) (v := ?vr14_58) ?hir14_58 (by kernel_rfl) (by kernel_rfl) (by kernel_rfl) ?hqr14_58 ?hyr14_58 (by assumption) ?restr14_58
            case hir14_58 => simp only [List.getElem?_toArray, List.getElem?_cons_succ, List.getElem?_cons_zero]; rfl
            case hqr14_58 => exact fun _ _ _ h => h
            case hyr14_58 => (refine Or.inl ⟨by rfl, ?_⟩; intro w hSw; (try dsimp only at hSw); go_simp; all_goals with_reducible rfl)
            try simp only [Act.put, List.setIfInBounds_toArray, List.set_cons_zero, List.set_cons_succ]
            refine wpAnyH_take (i := 59) (oi := ?oir14_59) (v := ?vr14_59) ?hir14_59 (by kernel_rfl) (by kernel_rfl) (by kernel_rfl) ?hqr14_59 ?hyr14_59 (by assumption) ?restr14_59
            case hir14_59 => simp only [List.getElem?_toArray, List.getElem?_cons_succ, List.getElem?_cons_zero]; rfl
            case hqr14_59 => exact fun _ _ _ h => h
            case hyr14_59 => (refine Or.inl ⟨by rfl, ?_⟩; intro w hSw; (try dsimp only at hSw); go_simp; all_goals with_reducible rfl)
            try simp only [Act.put, List.setIfInBounds_toArray, List.set_cons_zero, List.set_cons_succ]
            refine wpAnyH_take (i := 60) (oi := ?oir14_60) (v := ?vr14_60) ?hir14_60 (by kernel_rfl) (by kernel_rfl) (by kernel_rfl) ?hqr14_60 ?hyr14_60 (by assumption) ?restr14_60
            case hir14_60 => simp only [List.getElem?_toArray, List.getElem?_cons_succ, List.getElem?_cons_zero]; rfl
            case hqr14_60 => exact fun _ _ _ h => h
            case hyr14_60 => (refine Or.inl ⟨by rfl, ?_⟩; intro w hSw; (try dsimp only at hSw); go_simp; all_goals with_reducible rfl)
            try simp only [Act.put, List.setIfInBounds_toArray, List.set_cons_zero, List.set_cons_succ]
            refine wpAnyH_take (i := 61) (oi := ?oir14_61) (v := ?vr14_61) ?hir14_61 (by kernel_rfl) (by kernel_rfl) (by kernel_rfl) ?hqr14_61 ?hyr14_61 (by assumption) ?restr14_61
            case hir14_61 => simp only [List.getElem?_toArray, List.getElem?_cons_succ, List.getElem?_cons_zero]; rfl
            case hqr14_61 => exact fun _ _ _ h => h
            case hyr14_61 => (refine Or.inl ⟨by rfl, ?_⟩; intro w hSw; (try dsimp only at hSw); go_simp; all_goals with_reducible rfl)
            try simp only [Act.put, List.setIfInBounds_toArray, List.set_cons_zero, List.set_cons_succ]
            refine wpAnyH_take (i := 62) (oi := ?oir14_62) (v := ?vr14_62) ?hir14_62 (by kernel_rfl) (by kernel_rfl) (by kernel_rfl) ?hqr14_62 ?hyr14_62 (by assumption) ?restr14_62
            case hir14_62 => simp only [List.getElem?_toArray, List.getElem?_cons_succ, List.getElem?_cons_zero]; rfl
            case hqr14_62 => exact fun _ _ _ h => h
            case hyr14_62 => (refine Or.inl ⟨by rfl, ?_⟩; intro w hSw; (try dsimp only at hSw); go_simp; all_goals with_reducible rfl)
            try simp only [Act.put, List.setIfInBounds_toArray, List.set_cons_zero, List.set_cons_succ]
            refine wpAnyH_take (i := 63) (oi := ?oir14_63) (v := ?vr14_63) ?hir14_63 (by kernel_rfl) (by kernel_rfl) (by kernel_rfl) ?hqr14_63 ?hyr14_63 (by assumption) ?restr14_63
            case hir14_63 => simp only [List.getElem?_toArray, List.getElem?_cons_succ, List.getElem?_cons_zero]; rfl
            case hqr14_63 => exact fun _ _ _ h => h
            case hyr14_63 => (refine Or.inl ⟨by rfl, ?_⟩; intro w hSw; (try dsimp only at hSw); go_simp; all_goals with_reducible rfl)
            try simp only [Act.put, List.setIfInBounds_toArray, List.set_cons_zero, List.set_cons_succ]
            refine wpAnyH_take (i := 64) (oi := ?oir14_64) (v := ?vr14_64) ?hir14_64 (by kernel_rfl) (by kernel_rfl) (by kernel_rfl) ?hqr14_64 ?hyr14_64 (by assumption) ?restr14_64
            case hir14_64 => simp only [List.getElem?_toArray, List.getElem?_cons_succ, List.getElem?_cons_zero]; rfl
            case hqr14_64 => exact fun _ _ _ h => h
            case hyr14_64 => (refine Or.inl ⟨by rfl, ?_⟩; intro w hSw; (try dsimp only at hSw); go_simp; all_goals with_reducible rfl)
            try simp only [Act.put, List.setIfInBounds_toArray, List.set_cons_zero, List.set_cons_succ]
            refine wpAnyH_take (i := 65) (oi := ?oir14_65) (v := ?vr14_65) ?hir14_65 (by kernel_rfl) (by kernel_rfl) (by kernel_rfl) ?hqr14_65 ?hyr14_65 (by assumption) ?restr14_65
            case hir14_65 => simp only [List.getElem?_toArray, List.getElem?_cons_succ, List.getElem?_cons_zero]; rfl
            case hqr14_65 => exact fun _ _ _ h => h
            case hyr14_65 => (refine Or.inl ⟨by rfl, ?_⟩; intro w hSw; (try dsimp only at hSw); go_simp; all_goals with_reducible rfl)
            try simp only [Act.put, List.setIfInBounds_toArray, List.set_cons_zero, List.set_cons_succ]
            refine wpAnyH_take (i := 66) (oi := ?oir14_66) (v := ?vr14_66) ?hir14_66 (by kernel_rfl) (by kernel_rfl) (by kernel_rfl) ?hqr14_66 ?hyr14_66 (by assumption) ?restr14_66
            case hir14_66 => simp only [List.getElem?_toArray, List.getElem?_cons_succ, List.getElem?_cons_zero]; rfl
            case hqr14_66 => exact fun _ _ _ h => h
            case hyr14_66 => (refine Or.inl ⟨by rfl, ?_⟩; intro w hSw; (try dsimp only at hSw); go_simp; all_goals with_reducible rfl)
            try simp only [Act.put, List.setIfInBounds_toArray, List.set_cons_zero, List.set_cons_succ]
            refine wpAnyH_take (i := 67) (oi := ?oir14_67) (v := ?vr14_67) ?hir14_67 (by kernel_rfl) (by kernel_rfl) (by kernel_rfl) ?hqr14_67 ?hyr14_67 (by assumption) ?restr14_67
            case hir14_67 => simp only [List.getElem?_toArray, List.getElem?_cons_succ, List.getElem?_cons_zero]; rfl
            case hqr14_67 => exact fun _ _ _ h => h
            case hyr14_67 => (refine Or.inl ⟨by rfl, ?_⟩; intro w hSw; (try dsimp only at hSw); go_simp; all_goals with_reducible rfl)
            try simp only [Act.put, List.setIfInBounds_toArray, List.set_cons_zero, List.set_cons_succ]
            refine wpAnyH_take (i := 68) (oi := ?oir14_68) (v := ?vr14_68) ?hir14_68 (by kernel_rfl) (by kernel_rfl) (by kernel_rfl) ?hqr14_68 ?hyr14_68 (by assumption) ?restr14_68
            case hir14_68 => simp only [List.getElem?_toArray, List.getElem?_cons_succ, List.getElem?_cons_zero]; rfl
            case hqr14_68 => exact fun _ _ _ h => h
            case hyr14_68 => (refine Or.inl ⟨by rfl, ?_⟩; intro w hSw; (try dsimp only at hSw); go_simp; all_goals with_reducible rfl)
            try simp only [Act.put, List.setIfInBounds_toArray, List.set_cons_zero, List.set_cons_succ]
            refine wpAnyH_take (i := 69) (oi := ?oir14_69) (v := ?vr14_69) ?hir14_69 (by kernel_rfl) (by kernel_rfl) (by kernel_rfl) ?hqr14_69 ?hyr14_69 (by assumption) ?restr14_69
            case hir14_69 => simp only [List.getElem?_toArray, List.getElem?_cons_succ, List.getElem?_cons_zero]; rfl
            case hqr14_69 => exact fun _ _ _ h => h
            case hyr14_69 => (refine Or.inl ⟨by rfl, ?_⟩; intro w hSw; (try dsimp only at hSw); go_simp; all_goals with_reducible rfl)
            try simp only [Act.put, List.setIfInBounds_toArray, List.set_cons_zero, List.set_cons_succ]
            refine wpAnyH_ready (rs := [70]) (by kernel_rfl) (by simp) ?_
            refine AllReadyH.cons (o := ?or15_70) ?hor15_70 (fun K hK => ?kr15_70) AllReadyH.nil
            case hor15_70 => simp only [List.getElem?_toArray, List.getElem?_cons_succ, List.getElem?_cons_zero]; rfl
            go_simp
            have c := qof_any w27 1 2 (by decide) (by decide) (by decide) (by decide)
            refine c.mono ?_
            rintro e w28 ⟨a_x, n_x, c_x, b_x, m_x, d_x, rfl, h_xn_28, h_xd_28, hb⟩
            clear c
            have B28 := B27.trans (hb.mono B27.size)
            have h_hn_28 := h_hn_27.below hb
            have h_hd_28 := h_hd_27.below hb
            have h_h_28 := h_h_27.later hb
            have h_bn_28 := h_bn_27.below hb
            have h_bd_28 := h_bd_27.below hb
            have h_b_28 := h_b_27.later hb
            have h_tn_28 := h_tn_27.below hb
            have h_td_28 := h_td_27.below hb
            have h_t_28 := h_t_27.later hb
            clear hb B27 h_hn_27 h_hd_27 h_h_27 h_bn_27 h_bd_27 h_b_27 h_tn_27 h_td_27 h_t_27
            go_wp2_with fail
            clear hHeld
            refine hK.out _ _ ?_ (fun hHeld => ?_)
            · exact ⟨h_h_28.cell 0 _ rfl, h_h_28.cell 1 _ rfl, h_h_28.cell 2 _ rfl, h_b_28.cell 0 _ rfl, h_b_28.cell 1 _ rfl, h_b_28.cell 2 _ rfl, h_t_28.cell 0 _ rfl, h_t_28.cell 1 _ rfl, h_t_28.cell 2 _ rfl, trivial⟩
            clear hK K
            try simp only [Act.put, List.setIfInBounds_toArray, List.set_cons_zero, List.set_cons_succ]
            refine wpAnyH_ready (rs := [71]) (by kernel_rfl) (by simp) ?_
            refine AllReadyH.cons (o := ?or16_71) ?hor16_71 (fun K hK => ?kr16_71) AllReadyH.nil
            case hor16_71 => simp only [List.getElem?_toArray, List.getElem?_cons_succ, List.getElem?_cons_zero]; rfl
            go_simp
            have c := refRatSame_any w28 (g1 := (ofC 1 2).1.neg) (g2 := (ofC 1 2).1.neg) h_tn_28 h_td_28 h_xn_28 h_xd_28
            rw [show (⟨(ofC 1 2).1.neg, (ofC 1 2).1.num, (ofC 1 2).1.den⟩ : QV) = (ofC 1 2).1 from rfl] at c
            rw [ex_sameq] at c
            refine c.mono ?_
            rintro e w29 ⟨rfl, hb⟩
            clear c
            have B29 := B28.trans (hb.mono B28.size)
            have h_hn_29 := h_hn_28.below hb
            have h_hd_29 := h_hd_28.below hb
            have h_h_29 := h_h_28.later hb
            have h_bn_29 := h_bn_28.below hb
            have h_bd_29 := h_bd_28.below hb
            have h_b_29 := h_b_28.later hb
            have h_tn_29 := h_tn_28.below hb
            have h_td_29 := h_td_28.below hb
            have h_t_29 := h_t_28.later hb
            clear hb B28 h_hn_28 h_hd_28 h_h_28 h_bn_28 h_bd_28 h_b_28 h_tn_28 h_td_28 h_t_28 h_xn_28 h_xd_28
            go_wp2_with fail
            clear hHeld
            refine hK.out _ _ ?_ (fun hHeld => ?_)
            · exact ⟨h_h_29.cell 0 _ rfl, h_h_29.cell 1 _ rfl, h_h_29.cell 2 _ rfl, h_b_29.cell 0 _ rfl, h_b_29.cell 1 _ rfl, h_b_29.cell 2 _ rfl, h_t_29.cell 0 _ rfl, h_t_29.cell 1 _ rfl, h_t_29.cell 2 _ rfl, trivial⟩
            clear hK K
            try simp only [Act.put, List.setIfInBounds_toArray, List.set_cons_zero, List.set_cons_succ]
            as_aux_lemma =>
              refine wpAnyH_take (i := 72) (oi := ?oir18_72) (v := ?vr18_72) ?hir18_72 (by kernel_rfl) (by kernel_rfl) (by kernel_rfl) ?hqr18_72 ?hyr18_72 (by assumption) ?restr18_72
              case hir18_72 => simp only [List.getElem?_toArray, List.getElem?_cons_succ, List.getElem?_cons_zero]; rfl
              case hqr18_72 => exact fun _ _ _ h => h
              case hyr18_72 => (refine Or.inl ⟨by rfl, ?_⟩; intro w hSw; (try dsimp only at hSw); go_simp; all_goals with_reducible rfl)
              try simp only [Act.put, List.setIfInBounds_toArray, List.set_cons_zero, List.set_cons_succ]
              refine wpAnyH_take (i := 73) (oi := ?oir18_73) (v := ?vr18_73) ?hir18_73 (by kernel_rfl) (by kernel_rfl) (by kernel_rfl) ?hqr18_73 ?hyr18_73 (by assumption) ?restr18_73
              case hir18_73 => simp only [List.getElem?_toArray, List.getElem?_cons_succ, List.getElem?_cons_zero]; rfl
              case hqr18_73 => exact fun _ _ _ h => h
              case hyr18_73 => (refine Or.inl ⟨by rfl, ?_⟩; intro w hSw; (try dsimp only at hSw); go_simp; all_goals with_reducible rfl)
              try simp only [Act.put, List.setIfInBounds_toArray, List.set_cons_zero, List.set_cons_succ]
              refine wpAnyH_take (i := 74) (oi := ?oir18_74) (v := ?vr18_74) ?hir18_74 (by kernel_rfl) (by kernel_rfl) (by kernel_rfl) ?hqr18_74 ?hyr18_74 (by assumption) ?restr18_74
              case hir18_74 => simp only [List.getElem?_toArray, List.getElem?_cons_succ, List.getElem?_cons_zero]; rfl
              case hqr18_74 => exact fun _ _ _ h => h
              case hyr18_74 => (refine Or.inl ⟨by rfl, ?_⟩; intro w hSw; (try dsimp only at hSw); go_simp; all_goals with_reducible rfl)
              try simp only [Act.put, List.setIfInBounds_toArray, List.set_cons_zero, List.set_cons_succ]
              refine wpAnyH_take (i := 75) (oi := ?oir18_75) (v := ?vr18_75) ?hir18_75 (by kernel_rfl) (by kernel_rfl) (by kernel_rfl) ?hqr18_75 ?hyr18_75 (by assumption) ?restr18_75
              case hir18_75 => simp only [List.getElem?_toArray, List.getElem?_cons_succ, List.getElem?_cons_zero]; rfl
              case hqr18_75 => exact fun _ _ _ h => h
              case hyr18_75 => (refine Or.inl ⟨by rfl, ?_⟩; intro w hSw; (try dsimp only at hSw); go_simp; all_goals with_reducible rfl)
              try simp only [Act.put, List.setIfInBounds_toArray, List.set_cons_zero, List.set_cons_succ]
              refine wpAnyH_take (i := 76) (oi := ?oir18_76) (v := ?vr18_76) ?hir18_76 (by kernel_rfl) (by kernel_rfl) (by kernel_rfl) ?hqr18_76 ?hyr18_76 (by assumption) ?restr18_76
              case hir18_76 => simp only [List.getElem?_toArray, List.getElem?_cons_succ, List.getElem?_cons_zero]; rfl
              case hqr18_76 => exact fun _ _ _ h => h
              case hyr18_76 => (refine Or.inl ⟨by rfl, ?_⟩; intro w hSw; (try dsimp only at hSw); go_simp; all_goals with_reducible rfl)
              try simp only [Act.put, List.setIfInBounds_toArray, List.set_cons_zero, List.set_cons_succ]
              refine wpAnyH_take (i := 77) (oi := ?oir18_77) (v := ?vr18_77) ?hir18_77 (by kernel_rfl) (by kernel_rfl) (by kernel_rfl) ?hqr18_77 ?hyr18_77 (by assumption) ?restr18_77
              case hir18_77 => simp only [List.getElem?_toArray, List.getElem?_cons_succ, List.getElem?_cons_zero]; rfl
              case hqr18_77 => exact fun _ _ _ h => h
              case hyr18_77 => (refine Or.inl ⟨by rfl, ?_⟩; intro w hSw; (try dsimp only at hSw); go_simp; all_goals with_reducible rfl)
              try simp only [Act.put, List.setIfInBounds_toArray, List.set_cons_zero, List.set_cons_succ]
              refine wpAnyH_take (i := 78) (oi := ?oir18_78) (v := ?vr18_78) ?hir18_78 (by kernel_rfl) (by kernel_rfl) (by kernel_rfl) ?hqr18_78 ?hyr18_78 (by assumption) ?restr18_78
              case hir18_78 => simp only [List.getElem?_toArray, List.getElem?_cons_succ, List.getElem?_cons_zero]; rfl
              case hqr18_78 => exact fun _ _ _ h => h
              case hyr18_78 => (refine Or.inl ⟨by rfl, ?_⟩; intro w hSw; (try dsimp only at hSw); go_simp; all_goals with_reducible rfl)
              try simp only [Act.put, List.setIfInBounds_toArray, List.set_cons_zero, List.set_cons_succ]
              refine wpAnyH_take (i := 79) (oi := ?oir18_79) (v := ?vr18_79) ?hir18_79 (by kernel_rfl) (by kernel_rfl) (by kernel_rfl) ?hqr18_79 ?hyr18_79 (by assumption) ?restr18_79
              case hir18_79 => simp only [List.getElem?_toArray, List.getElem?_cons_succ, List.getElem?_cons_zero]; rfl
              case hqr18_79 => exact fun _ _ _ h => h
              case hyr18_79 => (refine Or.inl ⟨by rfl, ?_⟩; intro w hSw; (try dsimp only at hSw); go_simp; all_goals with_reducible rfl)
              try simp only [Act.put, List.setIfInBounds_toArray, List.set_cons_zero, List.set_cons_succ]
              refine wpAnyH_take (i := 80) (oi := ?oir18_80) (v := ?vr18_80) ?hir18_80 (by kernel_rfl) (by kernel_rfl) (by kernel_rfl) ?hqr18_80 ?hyr18_80 (by assumption) ?restr18_80
              case hir18_80 => simp only [List.getElem?_toArray, List.getElem?_cons_succ, List.getElem?_cons_zero]; rfl
              case hqr18_80 => exact fun _ _ _ h => h
              case hyr18_80 => (refine Or.inl ⟨by rfl, ?_⟩; intro w hSw; (try dsimp only at hSw); go_simp; all_goals with_reducible rfl)
              try simp only [Act.put, List.setIfInBounds_toArray, List.set_cons_zero, List.set_cons_succ]
              refine wpAnyH_take (i := 81) (oi := ?oir18_81) (v := ?vr18_81) ?hir18_81 (by kernel_rfl) (by kernel_rfl) (by kernel_rfl) ?hqr18_81 ?hyr18_81 (by assumption) ?restr18_81
              case hir18_81 => simp only [List.getElem?_toArray, List.getElem?_cons_succ, List.getElem?_cons_zero]; rfl
              case hqr18_81 => exact fun _ _ _ h => h
              case hyr18_81 => (refine Or.inl ⟨by rfl, ?_⟩; intro w hSw; (try dsimp only at hSw); go_simp; all_goals with_reducible rfl)
              try simp only [Act.put, List.setIfInBounds_toArray, List.set_cons_zero, List.set_cons_succ]
              refine wpAnyH_take (i := 82) (oi := ?oir18_82) (v := ?vr18_82) ?hir18_82 (by kernel_rfl) (by kernel_rfl) (by kernel_rfl) ?hqr18_82 ?hyr18_82 (by assumption) ?restr18_82
              case hir18_82 => simp only [List.getElem?_toArray, List.getElem?_cons_succ, List.getElem?_cons_zero]; rfl
              case hqr18_82 => exact fun _ _ _ h => h
              case hyr18_82 => (refine Or.inl ⟨by rfl, ?_⟩; intro w hSw; (try dsimp only at hSw); go_simp; all_goals with_reducible rfl)
              try simp only [Act.put, List.setIfInBounds_toArray, List.set_cons_zero, List.set_cons_succ]
              refine wpAnyH_take (i := 83) (oi := ?oir18_83) (v := ?vr18_83) ?hir18_83 (by kernel_rfl) (by kernel_rfl) (by kernel_rfl) ?hqr18_83 ?hyr18_83 (by assumption) ?restr18_83
              case hir18_83 => simp only [List.getElem?_toArray, List.getElem?_cons_succ, List.getElem?_cons_zero]; rfl
              case hqr18_83 => exact fun _ _ _ h => h
              case hyr18_83 => (refine Or.inl ⟨by rfl, ?_⟩; intro w hSw; (try dsimp only at hSw); go_simp; all_goals with_reducible rfl)
              try simp only [Act.put, List.setIfInBounds_toArray, List.set_cons_zero, List.set_cons_succ]
              refine wpAnyH_take (i := 84) (oi := ?oir18_84) (v := ?vr18_84) ?hir18_84 (by kernel_rfl) (by kernel_rfl) (by kernel_rfl) ?hqr18_84 ?hyr18_84 (by assumption) ?restr18_84
              case hir18_84 => simp only [List.getElem?_toArray, List.getElem?_cons_succ, List.getElem?_cons_zero]; rfl
              case hqr18_84 => exact fun _ _ _ h => h
              case hyr18_84 => (refine Or.inl ⟨by rfl, ?_⟩; intro w hSw; (try dsimp only at hSw); go_simp; all_goals with_reducible rfl)
              try simp only [Act.put, List.setIfInBounds_toArray, List.set_cons_zero, List.set_cons_succ]
              refine wpAnyH_take (i := 85) (oi := ?oir18_85) (v := ?vr18_85) ?hir18_85 (by kernel_rfl) (by kernel_rfl) (by kernel_rfl) ?hqr18_85 ?hyr18_85 (by assumption) ?restr18_85
              case hir18_85 => simp only [List.getElem?_toArray, List.getElem?_cons_succ, List.getElem?_cons_zero]; rfl
              case hqr18_85 => exact fun _ _ _ h => h
              case hyr18_85 => (refine Or.inl ⟨by rfl, ?_⟩; intro w hSw; (try dsimp only at hSw); go_simp; all_goals with_reducible rfl)
              try simp only [Act.put, List.setIfInBounds_toArray, List.set_cons_zero, List.set_cons_succ]
              as_aux_lemma =>
                refine wpAnyH_take (i := 86) (oi := ?oir20_86) (v := ?vr20_86) ?hir20_86 (by kernel_rfl) (by kernel_rfl) (by kernel_rfl) ?hqr20_86 ?hyr20_86 (by assumption) ?restr20_86
                case hir20_86 => simp only [List.getElem?_toArray, List.getElem?_cons_succ, List.getElem?_cons_zero]; rfl
                case hqr20_86 => exact fun _ _ _ h => h
                case hyr20_86 => (refine Or.inl ⟨by rfl, ?_⟩; intro w hSw; (try dsimp only at hSw); go_simp; all_goals with_reducible rfl)
                try simp only [Act.put, List.setIfInBounds_toArray, List.set_cons_zero, List.set_cons_succ]
                refine wpAnyH_take (i := 87) (oi := ?oir20_87) (v := ?vr20_87) ?hir20_87 (by kernel_rfl) (by kernel_rfl) (by kernel_rfl) ?hqr20_87 ?hyr20_87 (by assumption) ?restr20_87
                case hir20_87 => simp only [List.getElem?_toArray, List.getElem?_cons_succ, List.getElem?_cons_zero]; rfl
                case hqr20_87 => exact fun _ _ _ h => h
                case hyr20_87 => (refine Or.inl ⟨by rfl, ?_⟩; intro w hSw; (try dsimp only at hSw); go_simp; all_goals with_reducible rfl)
                try simp only [Act.put, List.setIfInBounds_toArray, List.set_cons_zero, List.set_cons_succ]
                refine wpAnyH_take (i := 88) (oi := ?oir20_88) (v := ?vr20_88) ?hir20_88 (by kernel_rfl) (by kernel_rfl) (by kernel_rfl) ?hqr20_88 ?hyr20_88 (by assumption) ?restr20_88
                case hir20_88 => simp only [List.getElem?_toArray, List.getElem?_cons_succ, List.getElem?_cons_zero]; rfl
                case hqr20_88 => exact fun _ _ _ h => h
                case hyr20_88 => (refine Or.inl ⟨by rfl, ?_⟩; intro w hSw; (try dsimp only at hSw); go_simp; all_goals with_reducible rfl)
                try simp only [Act.put, List.setIfInBounds_toArray, List.set_cons_zero, List.set_cons_succ]
                refine wpAnyH_take (i := 89) (oi := ?oir20_89) (v := ?vr20_89) ?hir20_89 (by kernel_rfl) (by kernel_rfl) (by kernel_rfl) ?hqr20_89 ?hyr20_89 (by assumption) ?restr20_89
                case hir20_89 => simp only [List.getElem?_toArray, List.getElem?_cons_succ, List.getElem?_cons_zero]; rfl
                case hqr20_89 => exact fun _ _ _ h => h
                case hyr20_89 => (refine Or.inl ⟨by rfl, ?_⟩; intro w hSw; (try dsimp only at hSw); go_simp; all_goals with_reducible rfl)
                try simp only [Act.put, List.setIfInBounds_toArray, List.set_cons_zero, List.set_cons_succ]
                refine wpAnyH_take (i := 90) (oi := ?oir20_90) (v := ?vr20_90) ?hir20_90 (by kernel_rfl) (by kernel_rfl) (by kernel_rfl) ?hqr20_90 ?hyr20_90 (by assumption) ?restr20_90
                case hir20_90 => simp only [List.getElem?_toArray, List.getElem?_cons_succ, List.getElem?_cons_zero]; rfl
                case hqr20_90 => exact fun _ _ _ h => h
                case hyr20_90 => (refine Or.inl ⟨by rfl, ?_⟩; intro w hSw; (try dsimp only at hSw); go_simp; all_goals with_reducible rfl)
                try simp only [Act.put, List.setIfInBounds_toArray, List.set_cons_zero, List.set_cons_succ]
                refine wpAnyH_take (i := 91) (oi := ?oir20_91) (v := ?vr20_91) ?hir20_91 (by kernel_rfl) (by kernel_rfl) (by kernel_rfl) ?hqr20_91 ?hyr20_91 (by assumption) ?restr20_91
                case hir20_91 => simp only [List.getElem?_toArray, List.getElem?_cons_succ, List.getElem?_cons_zero]; rfl
                case hqr20_91 => exact fun _ _ _ h => h
                case hyr20_91 => (refine Or.inl ⟨by rfl, ?_⟩; intro w hSw; (try dsimp only at hSw); go_simp; all_goals with_reducible rfl)
                try simp only [Act.put, List.setIfInBounds_toArray, List.set_cons_zero, List.set_cons_succ]
                refine wpAnyH_take (i := 92) (oi := ?oir20_92) (v := ?vr20_92) ?hir20_92 (by kernel_rfl) (by kernel_rfl) (by kernel_rfl) ?hqr20_92 ?hyr20_92 (by assumption) ?restr20_92
                case hir20_92 => simp only [List.getElem?_toArray, List.getElem?_cons_succ, List.getElem?_cons_zero]; rfl
                case hqr20_92 => exact fun _ _ _ h => h
                case hyr20_92 => (refine Or.inl ⟨by rfl, ?_⟩; intro w hSw; (try dsimp only at hSw); go_simp; all_goals with_reducible rfl)
                try simp only [Act.put, List.setIfInBounds_toArray, List.set_cons_zero, List.set_cons_succ]
                refine wpAnyH_take (i := 93) (oi := ?oir20_93) (v := ?vr20_93) ?hir20_93 (by kernel_rfl) (by kernel_rfl) (by kernel_rfl) ?hqr20_93 ?hyr20_93 (by assumption) ?restr20_93
                case hir20_93 => simp only [List.getElem?_toArray, List.getElem?_cons_succ, List.getElem?_cons_zero]; rfl
                case hqr20_93 => exact fun _ _ _ h => h
                case hyr20_93 => (refine Or.inl ⟨by rfl, ?_⟩; intro w hSw; (try dsimp only at hSw); go_simp; all_goals with_reducible rfl)
                try simp only [Act.put, List.setIfInBounds_toArray, List.set_cons_zero, List.set_cons_succ]
                refine wpAnyH_take (i := 94) (oi := ?oir20_94) (v := ?vr20_94) ?hir20_94 (by kernel_rfl) (by kernel_rfl) (by kernel_rfl) ?hqr20_94 ?hyr20_94 (by assumption) ?restr20_94
                case hir20_94 => simp only [List.getElem?_toArray, List.getElem?_cons_succ, List.getElem?_cons_zero]; rfl
                case hqr20_94 => exact fun _ _ _ h => h
                case hyr20_94 => (refine Or.inl ⟨by rfl, ?_⟩; intro w hSw; (try dsimp only at hSw); go_simp; all_goals with_reducible rfl)
                try simp only [Act.put, List.setIfInBounds_toArray, List.set_cons_zero, List.set_cons_succ]
                refine wpAnyH_take (i := 95) (oi := ?oir20_95) (v := ?vr20_95) ?hir20_95 (by kernel_rfl) (by kernel_rfl) (by kernel_rfl) ?hqr20_95 ?hyr20_95 (by assumption) ?restr20_95
                case hir20_95 => simp only [List.getElem?_toArray, List.getElem?_cons_succ, List.getElem?_cons_zero]; rfl
                case hqr20_95 => exact fun _ _ _ h => h
                case hyr20_95 => (refine Or.inl ⟨by rfl, ?_⟩; intro w hSw; (try dsimp only at hSw); go_simp; all_goals with_reducible rfl)
                try simp only [Act.put, List.setIfInBounds_toArray, List.set_cons_zero, List.set_cons_succ]
                refine wpAnyH_take (i := 96) (oi := ?oir20_96) (v := ?vr20_96) ?hir20_96 (by kernel_rfl) (by kernel_rfl) (by kernel_rfl) ?hqr20_96 ?hyr20_96 (by assumption) ?restr20_96
                case hir20_96 => simp only [List.getElem?_toArray, List.getElem?_cons_succ, List.getElem?_cons_zero]; rfl
                case hqr20_96 => exact fun _ _ _ h => h
                case hyr20_96 => (refine Or.inl ⟨by rfl, ?_⟩; intro w hSw; (try dsimp only at hSw); go_simp; all_goals with_reducible rfl)
                try simp only [Act.put, List.setIfInBounds_toArray, List.set_cons_zero, List.set_cons_succ]
                refine wpAnyH_take (i := 97) (oi := ?oir20_97) (v := ?vr20_97) ?hir20_97 (by kernel_rfl) (by kernel_rfl) (by kernel_rfl) ?hqr20_97 ?hyr20_97 (by assumption) ?restr20_97
                case hir20_97 => simp only [List.getElem?_toArray, List.getElem?_cons_succ, List.getElem?_cons_zero]; rfl
                case hqr20_97 => exact fun _ _ _ h => h
                case hyr20_97 => (refine Or.inl ⟨by rfl, ?_⟩; intro w hSw; (try dsimp only at hSw); go_simp; all_goals with_reducible rfl)
                try simp only [Act.put, List.setIfInBounds_toArray, List.set_cons_zero, List.set_cons_succ]
                refine wpAnyH_done (by kernel_rfl) ?_ _
                clear hHeld
                go_wp2_with fail
                go_ret
                exact ⟨rfl, B29⟩

end Go.Proofs.Ytfcejgeckcoefaa
