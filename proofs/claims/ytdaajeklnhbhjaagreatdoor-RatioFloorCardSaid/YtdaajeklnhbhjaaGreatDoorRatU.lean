/- Rational numbers: the reference's Read. Condition: not too long. Printed by gen_ratu.py. -/
import Derived.Test.YtdaajeklnhbhjaaGreatDoorRatT
namespace Go.Proofs.YtdaajeklnhbhjaaGreatDoor
open Go.RowKit Go.Suf
set_option linter.unusedVariables false
set_option linter.unusedSimpArgs false

theorem slash_before {xs : List Nat} {k : Nat} (h : k < slashB xs) : nth xs k ≠ 47 := by
  induction xs generalizing k with
  | nil => simp [slashB] at h
  | cons x l ih =>
    rw [show slashB (x :: l) = if x = 47 then 0 else slashB l + 1 from rfl] at h
    split at h
    · omega
    · cases k with
      | zero => assumption
      | succ k => exact ih (k := k) (by omega)
theorem slash_at {xs : List Nat} (h : slashB xs < xs.length) : nth xs (slashB xs) = 47 := by
  induction xs with
  | nil => simp at h
  | cons x l ih =>
    rw [show slashB (x :: l) = if x = 47 then 0 else slashB l + 1 from rfl] at h ⊢
    split
    · assumption
    · rename_i hx
      rw [if_neg hx, List.length_cons] at h
      exact ih (by omega)
theorem strB_one49 : (⟨#[49]⟩ : ByteArray) = strB [49] := rfl

set_option maxRecDepth 100000 in
set_option maxHeartbeats 8000000 in
theorem refRatRead_any (w : World) (xs : List Nat) (hb : ∀ x ∈ xs, x < 256) (hl : xs.length ≤ 1099511627776) :
    Calls Tryz.prog 38 #[.string (strB xs)] w (RetQE w (readV xs)) := by
  obtain ⟨r, hr⟩ : ∃ r, r = readV xs := ⟨_, rfl⟩
  rw [← hr]
  have HR := Lib.hid hr
  clear hr
  have yl : (afterB xs).length ≤ 1099511627776 := Nat.le_trans (after_le xs) hl
  have yb := after_bd hb
  obtain ⟨ys, hys⟩ : ∃ y, y = afterB xs := ⟨_, rfl⟩
  obtain ⟨s, hs⟩ : ∃ s, s = slashB ys := ⟨_, rfl⟩
  have sle : s ≤ ys.length := by rw [hs]; exact slash_le ys
  obtain ⟨num, hnum⟩ : ∃ n, n = ys.take s := ⟨_, rfl⟩
  obtain ⟨den, hden⟩ : ∃ n, n = ys.drop (s + 1) := ⟨_, rfl⟩
  rw [← hys] at yl yb
  have nb : ∀ x ∈ num, x < 256 := fun x hx => yb x (by rw [hnum] at hx; exact List.mem_of_mem_take hx)
  have nl : num.length ≤ 1099511627776 := by rw [hnum, List.length_take]; omega
  have db : ∀ x ∈ den, x < 256 := fun x hx => yb x (by rw [hden] at hx; exact List.mem_of_mem_drop hx)
  have dl : den.length ≤ 1099511627776 := by rw [hden, List.length_drop]; omega
  have NU := Lib.hid hnum.symm
  have DE := Lib.hid hden.symm
  have SB := Lib.hid (show ∀ k, k < s → nth ys k ≠ 47 from fun k h => slash_before (by rw [← hs]; exact h))
  have SA := Lib.hid (show s < ys.length → nth ys s = 47 from fun h => by rw [hs] at h ⊢; exact slash_at h)
  have hr : r = if formB num = true ∧ formB (if decide (s < ys.length) = true then den else [49]) = true then (if dread num 0 < pw 96 ∧ dread (if decide (s < ys.length) = true then den else [49]) 0 < pw 96 then (if (decide (s < ys.length) = true ∧ (if decide (s < ys.length) = true then den else [49]) = [49]) ∨ chkV ⟨minusB xs, limbs (dread num 0), limbs (dread (if decide (s < ys.length) = true then den else [49]) 0)⟩ ≠ 0 then (zeroV, 11) else (⟨minusB xs, limbs (dread num 0), limbs (dread (if decide (s < ys.length) = true then den else [49]) 0)⟩, 0)) else (zeroV, 30)) else (zeroV, 11) := by
    rw [HR.out]
    unfold readV denB numB cutB
    rw [← hys, ← hs, ← hnum, ← hden]
  clear HR
  have HR := Lib.hid hr
  clear hr hnum hden hs
  have hsx := strB_size xs
  have hsy := strB_size ys
  have hat0 := strB_at hb 0
  cases hm : minusB xs with
  | true =>
    have h0 : nth xs 0 = 45 ∧ 0 < xs.length := by
      cases xs with
      | nil => simp [minusB] at hm
      | cons x l => exact ⟨of_decide_eq_true hm, by simp⟩
    have YD := Lib.hid (show xs.drop 1 = ys by rw [hys, afterB, if_pos hm])
    have hl0 := h0.2
    have hl1 : (1 : Int) ≤ (xs.length : Int) := by omega
    rw [h0.1] at hat0
    clear hys h0
    have RO := PRow.new 24 w #[.bool false, .slice none 0 0, .slice none 0 0]
    go_enter Tryz.func38, Tryz.ntmps38
    go_wp2_with fail
    try rw [show (strB xs).extract 1 xs.length = strB ys by rw [strB_drop, YD.out]]
    generalize w.alloc (.cells #[.bool false, .slice none 0 0, .slice none 0 0] 24) = w0 at *
    clear hat0
    go_loop [5] (fun i => ∃ k : Nat, k ≤ s ∧ i = .int .i64 (k : Nat)) (fun i => s - (intOf i).toNat)
    case atStart => exact ⟨0, Nat.zero_le _, rfl⟩
    case round =>
      obtain ⟨k, hk, rfl⟩ := hrel
      by_cases hks : k < s
      case pos =>
        have hlt : k < ys.length := by omega
        have hatk := strB_at yb k
        have hne : ((nth ys k : Int) != 47) = true := by rw [bne_iff_ne]; have := SB.out k hks; omega
        obtain ⟨bk, hbk⟩ : ∃ b, b = nth ys k := ⟨_, rfl⟩
        rw [← hbk] at hatk hne
        clear hbk
        go_wp2_with fail
        go_round
        case rel => exact ⟨k + 1, by omega, by go_num⟩
        case measure => simp [intOf]; omega
      obtain rfl : k = s := by omega
      clear hks hk
      cases hcut : decide (k < ys.length) with
      | true =>
        have hlt : k < ys.length := of_decide_eq_true hcut
        have hatk := strB_at yb k
        rw [SA.out hlt] at hatk
        go_wp2_with fail
        rw [strB_take, strB_drop]
        rw [NU.out, DE.out]
        have hr : r = if formB num = true ∧ formB den = true then (if dread num 0 < pw 96 ∧ dread den 0 < pw 96 then (if (true = true ∧ den = [49]) ∨ chkV ⟨true, limbs (dread num 0), limbs (dread den 0)⟩ ≠ 0 then (zeroV, 11) else (⟨true, limbs (dread num 0), limbs (dread den 0)⟩, 0)) else (zeroV, 30)) else (zeroV, 11) := by
          rw [HR.out, hm, hcut]
          simp only [if_true]
        clear hcut
        by_cases f1 : formB num = true
        case neg =>
          have hres := Lib.hid (show r = (zeroV, 11) by rw [hr, if_neg (fun h => f1 h.1)])
          have F1 := Lib.hid (show formB num = false by cases h : formB num; rfl; exact absurd h f1)
          clear hr f1
          have cc := refForm_any w0 num nb nl
          rw [F1.out] at cc
          refine cc.mono ?_
          rintro e1 w1 ⟨rfl, rfl⟩
          clear cc
          have row := RO.row
          go_wp2_with first | refine wpList_store_whole rfl 24 _ _ rfl atRat _ _ _ row rfl rfl rfl rfl (rat_one _ _ _ _ _ _ _) ?_
          refine bodyPost_ret (results_cell_two rfl _ _ _ _ _ _ _ rfl (setRow_heap _ _ _ _ _ _ row) Tryz.underlying24 rfl (by kernel_rfl) _ rfl) rfl ?_
          refine ⟨none, 0, 0, none, 0, 0, by rw [hres.out]; (try rfl), ?_, ?_, below_row RO.below RO.lo _⟩
          · rw [hres.out]; exact Rd.nil _ _
          · rw [hres.out]; exact Rd.nil _ _
        have F1 := Lib.hid f1
        by_cases f2 : formB den = true
        case neg =>
          have hres := Lib.hid (show r = (zeroV, 11) by rw [hr, if_neg (fun h => f2 h.2)])
          have F2 := Lib.hid (show formB den = false by cases h : formB den; rfl; exact absurd h f2)
          clear hr f1 f2
          have cc := refForm_any w0 num nb nl
          rw [F1.out] at cc
          refine cc.mono ?_
          rintro e1 w1 ⟨rfl, rfl⟩
          clear cc
          go_wp2_with fail
          have cc := refForm_any w0 den db dl
          rw [F2.out] at cc
          refine cc.mono ?_
          rintro e1 w1 ⟨rfl, rfl⟩
          clear cc
          have row := RO.row
          go_wp2_with first | refine wpList_store_whole rfl 24 _ _ rfl atRat _ _ _ row rfl rfl rfl rfl (rat_one _ _ _ _ _ _ _) ?_
          refine bodyPost_ret (results_cell_two rfl _ _ _ _ _ _ _ rfl (setRow_heap _ _ _ _ _ _ row) Tryz.underlying24 rfl (by kernel_rfl) _ rfl) rfl ?_
          refine ⟨none, 0, 0, none, 0, 0, by rw [hres.out]; (try rfl), ?_, ?_, below_row RO.below RO.lo _⟩
          · rw [hres.out]; exact Rd.nil _ _
          · rw [hres.out]; exact Rd.nil _ _
        have F2 := Lib.hid f2
        rw [if_pos ⟨f1, f2⟩] at hr
        by_cases e1 : dread num 0 < pw 96
        case neg =>
          have hres := Lib.hid (show r = (zeroV, 30) by rw [hr, if_neg (fun h => e1 h.1)])
          have RN := Lib.hid (readC_great f1 e1)
          obtain ⟨rd, hrd⟩ : ∃ rd, rd = readC den := ⟨_, rfl⟩
          have RD := Lib.hid hrd.symm
          clear hr f1 f2 e1 hrd
          have cc := refForm_any w0 num nb nl
          rw [F1.out] at cc
          refine cc.mono ?_
          rintro e1 w1 ⟨rfl, rfl⟩
          clear cc
          go_wp2_with fail
          have cc := refForm_any w0 den db dl
          rw [F2.out] at cc
          refine cc.mono ?_
          rintro e1 w1 ⟨rfl, rfl⟩
          clear cc
          go_wp2_with fail
          have cc := refRead_any w0 num nb nl
          rw [RN.out] at cc
          refine cc.mono ?_
          rintro e1 w2 ⟨an, nn, cn, rfl, hn, hb2⟩
          clear cc
          have RO := RO.later hb2
          clear hb2
          go_wp2_with fail
          have cc := refRead_any w2 den db dl
          rw [RD.out] at cc
          refine cc.mono ?_
          rintro e1 w3 ⟨ad, nd, cd, rfl, hd, hb2⟩
          clear cc
          have RO := RO.later hb2
          have hn := hn.below hb2
          clear hb2
          have row := RO.row
          go_wp2_with first | refine wpList_store_whole rfl 24 _ _ rfl atRat _ _ _ row rfl rfl rfl rfl (rat_one _ _ _ _ _ _ _) ?_
          refine bodyPost_ret (results_cell_two rfl _ _ _ _ _ _ _ rfl (setRow_heap _ _ _ _ _ _ row) Tryz.underlying24 rfl (by kernel_rfl) _ rfl) rfl ?_
          refine ⟨none, 0, 0, none, 0, 0, by rw [hres.out]; (try rfl), ?_, ?_, below_row RO.below RO.lo _⟩
          · rw [hres.out]; exact Rd.nil _ _
          · rw [hres.out]; exact Rd.nil _ _
        have RN := Lib.hid (readC_ok f1 e1)
        by_cases e2 : dread den 0 < pw 96
        case neg =>
          have hres := Lib.hid (show r = (zeroV, 30) by rw [hr, if_neg (fun h => e2 h.2)])
          have RD := Lib.hid (readC_great f2 e2)
          clear hr f1 f2 e1 e2
          have cc := refForm_any w0 num nb nl
          rw [F1.out] at cc
          refine cc.mono ?_
          rintro e1 w1 ⟨rfl, rfl⟩
          clear cc
          go_wp2_with fail
          have cc := refForm_any w0 den db dl
          rw [F2.out] at cc
          refine cc.mono ?_
          rintro e1 w1 ⟨rfl, rfl⟩
          clear cc
          go_wp2_with fail
          have cc := refRead_any w0 num nb nl
          rw [RN.out] at cc
          refine cc.mono ?_
          rintro e1 w2 ⟨an, nn, cn, rfl, hn, hb2⟩
          clear cc
          have RO := RO.later hb2
          clear hb2
          go_wp2_with fail
          have cc := refRead_any w2 den db dl
          rw [RD.out] at cc
          refine cc.mono ?_
          rintro e1 w3 ⟨ad, nd, cd, rfl, hd, hb2⟩
          clear cc
          have RO := RO.later hb2
          have hn := hn.below hb2
          clear hb2
          have row := RO.row
          go_wp2_with first | refine wpList_store_whole rfl 24 _ _ rfl atRat _ _ _ row rfl rfl rfl rfl (rat_one _ _ _ _ _ _ _) ?_
          refine bodyPost_ret (results_cell_two rfl _ _ _ _ _ _ _ rfl (setRow_heap _ _ _ _ _ _ row) Tryz.underlying24 rfl (by kernel_rfl) _ rfl) rfl ?_
          refine ⟨none, 0, 0, none, 0, 0, by rw [hres.out]; (try rfl), ?_, ?_, below_row RO.below RO.lo _⟩
          · rw [hres.out]; exact Rd.nil _ _
          · rw [hres.out]; exact Rd.nil _ _
        have RD := Lib.hid (readC_ok f2 e2)
        rw [if_pos ⟨e1, e2⟩] at hr
        obtain ⟨N, hN⟩ : ∃ N, N = dread num 0 := ⟨_, rfl⟩
        obtain ⟨D, hD⟩ : ∃ D, D = dread den 0 := ⟨_, rfl⟩
        rw [← hN, ← hD] at hr
        rw [← hN] at RN
        rw [← hD] at RD
        clear e1 e2 hN hD
        have q1 : ((strB den).toList == [49]) = decide (den = [49]) := str_is db (ys := [49]) (by simp)
        by_cases d1 : den = [49]
        case pos =>
          have hres := Lib.hid (show r = (zeroV, 11) by rw [hr, if_pos (.inl ⟨rfl, d1⟩)])
          rw [decide_eq_true d1] at q1
          clear hr f1 f2 d1
          have cc := refForm_any w0 num nb nl
          rw [F1.out] at cc
          refine cc.mono ?_
          rintro e1 w1 ⟨rfl, rfl⟩
          clear cc
          go_wp2_with fail
          have cc := refForm_any w0 den db dl
          rw [F2.out] at cc
          refine cc.mono ?_
          rintro e1 w1 ⟨rfl, rfl⟩
          clear cc
          go_wp2_with fail
          have cc := refRead_any w0 num nb nl
          rw [RN.out] at cc
          refine cc.mono ?_
          rintro e1 w2 ⟨an, nn, cn, rfl, hn, hb2⟩
          clear cc
          have RO := RO.later hb2
          clear hb2
          go_wp2_with fail
          have cc := refRead_any w2 den db dl
          rw [RD.out] at cc
          refine cc.mono ?_
          rintro e1 w3 ⟨ad, nd, cd, rfl, hd, hb2⟩
          clear cc
          have RO := RO.later hb2
          have hn := hn.below hb2
          clear hb2
          have hb3 := below_al w3 (.cells #[.bool true, .slice an nn cn, .slice ad nd cd] 24)
          have RX := PRow.new 24 w3 #[.bool true, .slice an nn cn, .slice ad nd cd]
          have RO := RO.later hb3
          have hn := hn.below hb3
          have hd := hd.below hb3
          clear hb3
          go_upto_region 18 with (first | refine wpList_store_new rfl 24 _ _ rfl atRat _ _ _ rfl rfl rfl rfl (rat_one _ _ _ _ _ _ _) ?_)
          generalize w3.alloc (.cells #[.bool true, .slice an nn cn, .slice ad nd cd] 24) = w4 at *
          have row := RO.row
          go_wp2_with first | refine wpList_store_whole rfl 24 _ _ rfl atRat _ _ _ row rfl rfl rfl rfl (rat_one _ _ _ _ _ _ _) ?_
          refine bodyPost_ret (results_cell_two rfl _ _ _ _ _ _ _ rfl (setRow_heap _ _ _ _ _ _ row) Tryz.underlying24 rfl (by kernel_rfl) _ rfl) rfl ?_
          refine ⟨none, 0, 0, none, 0, 0, by rw [hres.out]; (try rfl), ?_, ?_, below_row RO.below RO.lo _⟩
          · rw [hres.out]; exact Rd.nil _ _
          · rw [hres.out]; exact Rd.nil _ _
        rw [decide_eq_false d1] at q1
        by_cases c8 : chkV ⟨true, limbs N, limbs D⟩ = 0
        case neg =>
          have hres := Lib.hid (show r = (zeroV, 11) by rw [hr, if_pos (.inr c8)])
          have C := Lib.hid ((chkV_two _).resolve_left c8)
          clear hr f1 f2 c8 d1
          have cc := refForm_any w0 num nb nl
          rw [F1.out] at cc
          refine cc.mono ?_
          rintro e1 w1 ⟨rfl, rfl⟩
          clear cc
          go_wp2_with fail
          have cc := refForm_any w0 den db dl
          rw [F2.out] at cc
          refine cc.mono ?_
          rintro e1 w1 ⟨rfl, rfl⟩
          clear cc
          go_wp2_with fail
          have cc := refRead_any w0 num nb nl
          rw [RN.out] at cc
          refine cc.mono ?_
          rintro e1 w2 ⟨an, nn, cn, rfl, hn, hb2⟩
          clear cc
          have RO := RO.later hb2
          clear hb2
          go_wp2_with fail
          have cc := refRead_any w2 den db dl
          rw [RD.out] at cc
          refine cc.mono ?_
          rintro e1 w3 ⟨ad, nd, cd, rfl, hd, hb2⟩
          clear cc
          have RO := RO.later hb2
          have hn := hn.below hb2
          clear hb2
          have hb3 := below_al w3 (.cells #[.bool true, .slice an nn cn, .slice ad nd cd] 24)
          have RX := PRow.new 24 w3 #[.bool true, .slice an nn cn, .slice ad nd cd]
          have RO := RO.later hb3
          have hn := hn.below hb3
          have hd := hd.below hb3
          clear hb3
          have p0 := RX.cell 0 _ rfl
          have p1 := RX.cell 1 _ rfl
          have p2 := RX.cell 2 _ rfl
          go_wp2_with first | refine wpList_store_new rfl 24 _ _ rfl atRat _ _ _ rfl rfl rfl rfl (rat_one _ _ _ _ _ _ _) ?_
          generalize w3.alloc (.cells #[.bool true, .slice an nn cn, .slice ad nd cd] 24) = w4 at *
          have cc := refRatCheck_any (neg := true) w4 hn hd
          rw [C.out] at cc
          refine cc.mono ?_
          rintro e1 w5 ⟨rfl, hb2⟩
          clear cc p0 p1 p2
          have RO := RO.later hb2
          have RX := RX.later hb2
          clear hb2 RX hn hd
          have row := RO.row
          go_wp2_with first | refine wpList_store_whole rfl 24 _ _ rfl atRat _ _ _ row rfl rfl rfl rfl (rat_one _ _ _ _ _ _ _) ?_
          refine bodyPost_ret (results_cell_two rfl _ _ _ _ _ _ _ rfl (setRow_heap _ _ _ _ _ _ row) Tryz.underlying24 rfl (by kernel_rfl) _ rfl) rfl ?_
          refine ⟨none, 0, 0, none, 0, 0, by rw [hres.out]; (try rfl), ?_, ?_, below_row RO.below RO.lo _⟩
          · rw [hres.out]; exact Rd.nil _ _
          · rw [hres.out]; exact Rd.nil _ _
        have hres := Lib.hid (show r = (⟨true, limbs N, limbs D⟩, 0) by rw [hr, if_neg (fun h => h.elim (fun h => d1 h.2) (fun h => h c8))])
        have C := Lib.hid c8
        clear hr f1 f2 c8 d1
        have cc := refForm_any w0 num nb nl
        rw [F1.out] at cc
        refine cc.mono ?_
        rintro e1 w1 ⟨rfl, rfl⟩
        clear cc
        go_wp2_with fail
        have cc := refForm_any w0 den db dl
        rw [F2.out] at cc
        refine cc.mono ?_
        rintro e1 w1 ⟨rfl, rfl⟩
        clear cc
        go_wp2_with fail
        have cc := refRead_any w0 num nb nl
        rw [RN.out] at cc
        refine cc.mono ?_
        rintro e1 w2 ⟨an, nn, cn, rfl, hn, hb2⟩
        clear cc
        have RO := RO.later hb2
        clear hb2
        go_wp2_with fail
        have cc := refRead_any w2 den db dl
        rw [RD.out] at cc
        refine cc.mono ?_
        rintro e1 w3 ⟨ad, nd, cd, rfl, hd, hb2⟩
        clear cc
        have RO := RO.later hb2
        have hn := hn.below hb2
        clear hb2
        have hb3 := below_al w3 (.cells #[.bool true, .slice an nn cn, .slice ad nd cd] 24)
        have RX := PRow.new 24 w3 #[.bool true, .slice an nn cn, .slice ad nd cd]
        have RO := RO.later hb3
        have hn := hn.below hb3
        have hd := hd.below hb3
        clear hb3
        have p0 := RX.cell 0 _ rfl
        have p1 := RX.cell 1 _ rfl
        have p2 := RX.cell 2 _ rfl
        go_wp2_with first | refine wpList_store_new rfl 24 _ _ rfl atRat _ _ _ rfl rfl rfl rfl (rat_one _ _ _ _ _ _ _) ?_
        generalize w3.alloc (.cells #[.bool true, .slice an nn cn, .slice ad nd cd] 24) = w4 at *
        have cc := refRatCheck_any (neg := true) w4 hn hd
        rw [C.out] at cc
        refine cc.mono ?_
        rintro e1 w5 ⟨rfl, hb2⟩
        clear cc p0 p1 p2
        have RO := RO.later hb2
        have RX := RX.later hb2
        have hn := hn.below hb2
        have hd := hd.below hb2
        have p0 := RX.cell 0 _ rfl
        have p1 := RX.cell 1 _ rfl
        have p2 := RX.cell 2 _ rfl
        have row := RO.row
        have HB := Lib.hid (fun cs => below_row RO.below RO.lo cs)
        have fin := Lib.hid (fun cs => (⟨rd_rowset hn row (rat_noint _ _ _ _ _ _ _) cs, rd_rowset hd row (rat_noint _ _ _ _ _ _ _) cs⟩ : _ ∧ _))
        clear hb2 hn hd RX RO
        go_wp2_with (refine wpList_store_whole rfl 24 _ _ rfl atRat _ _ _ row rfl rfl rfl rfl (rat_one _ _ _ _ _ _ _) ?_)
        refine bodyPost_ret (results_cell_two rfl _ _ _ _ _ _ _ rfl (setRow_heap _ _ _ _ _ _ row) Tryz.underlying24 rfl (by kernel_rfl) _ rfl) rfl ?_
        refine ⟨an, nn, cn, ad, nd, cd, by rw [hres.out]; (try rfl), ?_, ?_, HB.out _⟩
        · rw [hres.out]; exact (fin.out _).1
        · rw [hres.out]; exact (fin.out _).2
      | false =>
        have hge : k = ys.length := by have := of_decide_eq_false hcut; omega
        have dge : decide ((k : Int) < (ys.length : Int)) = false := decide_eq_false (by omega)
        go_wp2_with fail
        rw [strB_take, strB_one49]
        rw [show ys.take ys.length = num by rw [← hge]; exact NU.out]
        have hr : r = if formB num = true ∧ formB [49] = true then (if dread num 0 < pw 96 ∧ dread [49] 0 < pw 96 then (if (false = true ∧ [49] = [49]) ∨ chkV ⟨true, limbs (dread num 0), limbs (dread [49] 0)⟩ ≠ 0 then (zeroV, 11) else (⟨true, limbs (dread num 0), limbs (dread [49] 0)⟩, 0)) else (zeroV, 30)) else (zeroV, 11) := by
          rw [HR.out, hm, hcut]
          simp only [Bool.false_eq_true, if_false]
        clear hcut
        by_cases f1 : formB num = true
        case neg =>
          have hres := Lib.hid (show r = (zeroV, 11) by rw [hr, if_neg (fun h => f1 h.1)])
          have F1 := Lib.hid (show formB num = false by cases h : formB num; rfl; exact absurd h f1)
          clear hr f1
          have cc := refForm_any w0 num nb nl
          rw [F1.out] at cc
          refine cc.mono ?_
          rintro e1 w1 ⟨rfl, rfl⟩
          clear cc
          have row := RO.row
          go_wp2_with first | refine wpList_store_whole rfl 24 _ _ rfl atRat _ _ _ row rfl rfl rfl rfl (rat_one _ _ _ _ _ _ _) ?_
          refine bodyPost_ret (results_cell_two rfl _ _ _ _ _ _ _ rfl (setRow_heap _ _ _ _ _ _ row) Tryz.underlying24 rfl (by kernel_rfl) _ rfl) rfl ?_
          refine ⟨none, 0, 0, none, 0, 0, by rw [hres.out]; (try rfl), ?_, ?_, below_row RO.below RO.lo _⟩
          · rw [hres.out]; exact Rd.nil _ _
          · rw [hres.out]; exact Rd.nil _ _
        have F1 := Lib.hid f1
        have f2 : formB [49] = true := rfl
        have F2 := Lib.hid f2
        rw [if_pos ⟨f1, f2⟩] at hr
        by_cases e1 : dread num 0 < pw 96
        case neg =>
          have hres := Lib.hid (show r = (zeroV, 30) by rw [hr, if_neg (fun h => e1 h.1)])
          have RN := Lib.hid (readC_great f1 e1)
          obtain ⟨rd, hrd⟩ : ∃ rd, rd = readC [49] := ⟨_, rfl⟩
          have RD := Lib.hid hrd.symm
          clear hr f1 f2 e1 hrd
          have cc := refForm_any w0 num nb nl
          rw [F1.out] at cc
          refine cc.mono ?_
          rintro e1 w1 ⟨rfl, rfl⟩
          clear cc
          go_wp2_with fail
          have cc := refForm_any w0 [49] (by simp) (by decide)
          rw [F2.out] at cc
          refine cc.mono ?_
          rintro e1 w1 ⟨rfl, rfl⟩
          clear cc
          go_wp2_with fail
          have cc := refRead_any w0 num nb nl
          rw [RN.out] at cc
          refine cc.mono ?_
          rintro e1 w2 ⟨an, nn, cn, rfl, hn, hb2⟩
          clear cc
          have RO := RO.later hb2
          clear hb2
          go_wp2_with fail
          have cc := refRead_any w2 [49] (by simp) (by decide)
          rw [RD.out] at cc
          refine cc.mono ?_
          rintro e1 w3 ⟨ad, nd, cd, rfl, hd, hb2⟩
          clear cc
          have RO := RO.later hb2
          have hn := hn.below hb2
          clear hb2
          have row := RO.row
          go_wp2_with first | refine wpList_store_whole rfl 24 _ _ rfl atRat _ _ _ row rfl rfl rfl rfl (rat_one _ _ _ _ _ _ _) ?_
          refine bodyPost_ret (results_cell_two rfl _ _ _ _ _ _ _ rfl (setRow_heap _ _ _ _ _ _ row) Tryz.underlying24 rfl (by kernel_rfl) _ rfl) rfl ?_
          refine ⟨none, 0, 0, none, 0, 0, by rw [hres.out]; (try rfl), ?_, ?_, below_row RO.below RO.lo _⟩
          · rw [hres.out]; exact Rd.nil _ _
          · rw [hres.out]; exact Rd.nil _ _
        have RN := Lib.hid (readC_ok f1 e1)
        have e2 : dread [49] 0 < pw 96 := by decide
        have RD := Lib.hid (readC_ok f2 e2)
        rw [if_pos ⟨e1, e2⟩] at hr
        obtain ⟨N, hN⟩ : ∃ N, N = dread num 0 := ⟨_, rfl⟩
        obtain ⟨D, hD⟩ : ∃ D, D = dread [49] 0 := ⟨_, rfl⟩
        rw [← hN, ← hD] at hr
        rw [← hN] at RN
        rw [← hD] at RD
        clear e1 e2 hN hD
        by_cases c8 : chkV ⟨true, limbs N, limbs D⟩ = 0
        case neg =>
          have hres := Lib.hid (show r = (zeroV, 11) by rw [hr, if_pos (.inr c8)])
          have C := Lib.hid ((chkV_two _).resolve_left c8)
          clear hr f1 f2 c8
          have cc := refForm_any w0 num nb nl
          rw [F1.out] at cc
          refine cc.mono ?_
          rintro e1 w1 ⟨rfl, rfl⟩
          clear cc
          go_wp2_with fail
          have cc := refForm_any w0 [49] (by simp) (by decide)
          rw [F2.out] at cc
          refine cc.mono ?_
          rintro e1 w1 ⟨rfl, rfl⟩
          clear cc
          go_wp2_with fail
          have cc := refRead_any w0 num nb nl
          rw [RN.out] at cc
          refine cc.mono ?_
          rintro e1 w2 ⟨an, nn, cn, rfl, hn, hb2⟩
          clear cc
          have RO := RO.later hb2
          clear hb2
          go_wp2_with fail
          have cc := refRead_any w2 [49] (by simp) (by decide)
          rw [RD.out] at cc
          refine cc.mono ?_
          rintro e1 w3 ⟨ad, nd, cd, rfl, hd, hb2⟩
          clear cc
          have RO := RO.later hb2
          have hn := hn.below hb2
          clear hb2
          have hb3 := below_al w3 (.cells #[.bool true, .slice an nn cn, .slice ad nd cd] 24)
          have RX := PRow.new 24 w3 #[.bool true, .slice an nn cn, .slice ad nd cd]
          have RO := RO.later hb3
          have hn := hn.below hb3
          have hd := hd.below hb3
          clear hb3
          have p0 := RX.cell 0 _ rfl
          have p1 := RX.cell 1 _ rfl
          have p2 := RX.cell 2 _ rfl
          go_wp2_with first | refine wpList_store_new rfl 24 _ _ rfl atRat _ _ _ rfl rfl rfl rfl (rat_one _ _ _ _ _ _ _) ?_
          generalize w3.alloc (.cells #[.bool true, .slice an nn cn, .slice ad nd cd] 24) = w4 at *
          have cc := refRatCheck_any (neg := true) w4 hn hd
          rw [C.out] at cc
          refine cc.mono ?_
          rintro e1 w5 ⟨rfl, hb2⟩
          clear cc p0 p1 p2
          have RO := RO.later hb2
          have RX := RX.later hb2
          clear hb2 RX hn hd
          have row := RO.row
          go_wp2_with first | refine wpList_store_whole rfl 24 _ _ rfl atRat _ _ _ row rfl rfl rfl rfl (rat_one _ _ _ _ _ _ _) ?_
          refine bodyPost_ret (results_cell_two rfl _ _ _ _ _ _ _ rfl (setRow_heap _ _ _ _ _ _ row) Tryz.underlying24 rfl (by kernel_rfl) _ rfl) rfl ?_
          refine ⟨none, 0, 0, none, 0, 0, by rw [hres.out]; (try rfl), ?_, ?_, below_row RO.below RO.lo _⟩
          · rw [hres.out]; exact Rd.nil _ _
          · rw [hres.out]; exact Rd.nil _ _
        have hres := Lib.hid (show r = (⟨true, limbs N, limbs D⟩, 0) by rw [hr, if_neg (fun h => h.elim (fun h => Bool.false_ne_true h.1) (fun h => h c8))])
        have C := Lib.hid c8
        clear hr f1 f2 c8
        have cc := refForm_any w0 num nb nl
        rw [F1.out] at cc
        refine cc.mono ?_
        rintro e1 w1 ⟨rfl, rfl⟩
        clear cc
        go_wp2_with fail
        have cc := refForm_any w0 [49] (by simp) (by decide)
        rw [F2.out] at cc
        refine cc.mono ?_
        rintro e1 w1 ⟨rfl, rfl⟩
        clear cc
        go_wp2_with fail
        have cc := refRead_any w0 num nb nl
        rw [RN.out] at cc
        refine cc.mono ?_
        rintro e1 w2 ⟨an, nn, cn, rfl, hn, hb2⟩
        clear cc
        have RO := RO.later hb2
        clear hb2
        go_wp2_with fail
        have cc := refRead_any w2 [49] (by simp) (by decide)
        rw [RD.out] at cc
        refine cc.mono ?_
        rintro e1 w3 ⟨ad, nd, cd, rfl, hd, hb2⟩
        clear cc
        have RO := RO.later hb2
        have hn := hn.below hb2
        clear hb2
        have hb3 := below_al w3 (.cells #[.bool true, .slice an nn cn, .slice ad nd cd] 24)
        have RX := PRow.new 24 w3 #[.bool true, .slice an nn cn, .slice ad nd cd]
        have RO := RO.later hb3
        have hn := hn.below hb3
        have hd := hd.below hb3
        clear hb3
        have p0 := RX.cell 0 _ rfl
        have p1 := RX.cell 1 _ rfl
        have p2 := RX.cell 2 _ rfl
        go_wp2_with first | refine wpList_store_new rfl 24 _ _ rfl atRat _ _ _ rfl rfl rfl rfl (rat_one _ _ _ _ _ _ _) ?_
        generalize w3.alloc (.cells #[.bool true, .slice an nn cn, .slice ad nd cd] 24) = w4 at *
        have cc := refRatCheck_any (neg := true) w4 hn hd
        rw [C.out] at cc
        refine cc.mono ?_
        rintro e1 w5 ⟨rfl, hb2⟩
        clear cc p0 p1 p2
        have RO := RO.later hb2
        have RX := RX.later hb2
        have hn := hn.below hb2
        have hd := hd.below hb2
        have p0 := RX.cell 0 _ rfl
        have p1 := RX.cell 1 _ rfl
        have p2 := RX.cell 2 _ rfl
        have row := RO.row
        have HB := Lib.hid (fun cs => below_row RO.below RO.lo cs)
        have fin := Lib.hid (fun cs => (⟨rd_rowset hn row (rat_noint _ _ _ _ _ _ _) cs, rd_rowset hd row (rat_noint _ _ _ _ _ _ _) cs⟩ : _ ∧ _))
        clear hb2 hn hd RX RO
        go_wp2_with (refine wpList_store_whole rfl 24 _ _ rfl atRat _ _ _ row rfl rfl rfl rfl (rat_one _ _ _ _ _ _ _) ?_)
        refine bodyPost_ret (results_cell_two rfl _ _ _ _ _ _ _ rfl (setRow_heap _ _ _ _ _ _ row) Tryz.underlying24 rfl (by kernel_rfl) _ rfl) rfl ?_
        refine ⟨an, nn, cn, ad, nd, cd, by rw [hres.out]; (try rfl), ?_, ?_, HB.out _⟩
        · rw [hres.out]; exact (fin.out _).1
        · rw [hres.out]; exact (fin.out _).2
  | false =>
    obtain rfl : ys = xs := by rw [hys, afterB, if_neg (by rw [hm]; exact Bool.false_ne_true)]
    by_cases h0 : ys = []
    · have hz : ys.length = 0 := by rw [h0]; rfl
      have dz : decide ((0 : Int) < (ys.length : Int)) = false := decide_eq_false (by omega)
      have hres := Lib.hid (show r = (zeroV, 11) by
        rw [HR.out, if_neg]
        intro h
        have h1 := h.1
        rw [← NU.out, h0, List.take_nil] at h1
        exact absurd h1 (by decide))
      clear h0 hys HR NU DE SB SA yb yl nb nl db dl
      have RO := PRow.new 24 w #[.bool false, .slice none 0 0, .slice none 0 0]
      go_enter Tryz.func38, Tryz.ntmps38
      go_wp2_with fail
      generalize w.alloc (.cells #[.bool false, .slice none 0 0, .slice none 0 0] 24) = w0 at *
      clear hat0
      go_loop [5] (fun i => i = .int .i64 0) (fun _ => 0)
      case atStart => rfl
      case round =>
        subst hrel
        go_wp2_with fail
        have cc : Calls Tryz.prog 82 #[.string ByteArray.empty] w0 _ := refForm_any w0 [] (by simp) (by decide)
        rw [show formB [] = false from rfl] at cc
        refine cc.mono ?_
        rintro e1 w1 ⟨rfl, rfl⟩
        clear cc
        have row := RO.row
        go_wp2_with first | refine wpList_store_whole rfl 24 _ _ rfl atRat _ _ _ row rfl rfl rfl rfl (rat_one _ _ _ _ _ _ _) ?_
        refine bodyPost_ret (results_cell_two rfl _ _ _ _ _ _ _ rfl (setRow_heap _ _ _ _ _ _ row) Tryz.underlying24 rfl (by kernel_rfl) _ rfl) rfl ?_
        refine ⟨none, 0, 0, none, 0, 0, by rw [hres.out]; (try rfl), ?_, ?_, below_row RO.below RO.lo _⟩
        · rw [hres.out]; exact Rd.nil _ _
        · rw [hres.out]; exact Rd.nil _ _
    · have hl0 : 0 < ys.length := by cases ys with | nil => exact absurd rfl h0 | cons a l => simp
      obtain ⟨b0, hb0⟩ : ∃ b, b = nth ys 0 := ⟨_, rfl⟩
      have d45 : ((b0 : Int) == 45) = false := by
        rw [beq_eq_false_iff_ne, hb0]
        intro h
        cases ys with
        | nil => exact h0 rfl
        | cons x l =>
          have h2 : x = 45 := by have h3 : (((nth (x :: l) 0 : Nat)) : Int) = ((45 : Nat) : Int) := h; exact Int.ofNat.inj h3
          rw [minusB, decide_eq_true h2] at hm
          exact absurd hm (by decide)
      rw [← hb0] at hat0
      clear h0 hys hb0
      have RO := PRow.new 24 w #[.bool false, .slice none 0 0, .slice none 0 0]
      go_enter Tryz.func38, Tryz.ntmps38
      go_wp2_with fail
      generalize w.alloc (.cells #[.bool false, .slice none 0 0, .slice none 0 0] 24) = w0 at *
      clear hat0
      go_loop [5] (fun i => ∃ k : Nat, k ≤ s ∧ i = .int .i64 (k : Nat)) (fun i => s - (intOf i).toNat)
      case atStart => exact ⟨0, Nat.zero_le _, rfl⟩
      case round =>
        obtain ⟨k, hk, rfl⟩ := hrel
        by_cases hks : k < s
        case pos =>
          have hlt : k < ys.length := by omega
          have hatk := strB_at yb k
          have hne : ((nth ys k : Int) != 47) = true := by rw [bne_iff_ne]; have := SB.out k hks; omega
          obtain ⟨bk, hbk⟩ : ∃ b, b = nth ys k := ⟨_, rfl⟩
          rw [← hbk] at hatk hne
          clear hbk
          go_wp2_with fail
          go_round
          case rel => exact ⟨k + 1, by omega, by go_num⟩
          case measure => simp [intOf]; omega
        obtain rfl : k = s := by omega
        clear hks hk
        cases hcut : decide (k < ys.length) with
        | true =>
          have hlt : k < ys.length := of_decide_eq_true hcut
          have hatk := strB_at yb k
          rw [SA.out hlt] at hatk
          go_wp2_with fail
          rw [strB_take, strB_drop]
          rw [NU.out, DE.out]
          have hr : r = if formB num = true ∧ formB den = true then (if dread num 0 < pw 96 ∧ dread den 0 < pw 96 then (if (true = true ∧ den = [49]) ∨ chkV ⟨false, limbs (dread num 0), limbs (dread den 0)⟩ ≠ 0 then (zeroV, 11) else (⟨false, limbs (dread num 0), limbs (dread den 0)⟩, 0)) else (zeroV, 30)) else (zeroV, 11) := by
            rw [HR.out, hm, hcut]
            simp only [if_true]
          clear hcut
          by_cases f1 : formB num = true
          case neg =>
            have hres := Lib.hid (show r = (zeroV, 11) by rw [hr, if_neg (fun h => f1 h.1)])
            have F1 := Lib.hid (show formB num = false by cases h : formB num; rfl; exact absurd h f1)
            clear hr f1
            have cc := refForm_any w0 num nb nl
            rw [F1.out] at cc
            refine cc.mono ?_
            rintro e1 w1 ⟨rfl, rfl⟩
            clear cc
            have row := RO.row
            go_wp2_with first | refine wpList_store_whole rfl 24 _ _ rfl atRat _ _ _ row rfl rfl rfl rfl (rat_one _ _ _ _ _ _ _) ?_
            refine bodyPost_ret (results_cell_two rfl _ _ _ _ _ _ _ rfl (setRow_heap _ _ _ _ _ _ row) Tryz.underlying24 rfl (by kernel_rfl) _ rfl) rfl ?_
            refine ⟨none, 0, 0, none, 0, 0, by rw [hres.out]; (try rfl), ?_, ?_, below_row RO.below RO.lo _⟩
            · rw [hres.out]; exact Rd.nil _ _
            · rw [hres.out]; exact Rd.nil _ _
          have F1 := Lib.hid f1
          by_cases f2 : formB den = true
          case neg =>
            have hres := Lib.hid (show r = (zeroV, 11) by rw [hr, if_neg (fun h => f2 h.2)])
            have F2 := Lib.hid (show formB den = false by cases h : formB den; rfl; exact absurd h f2)
            clear hr f1 f2
            have cc := refForm_any w0 num nb nl
            rw [F1.out] at cc
            refine cc.mono ?_
            rintro e1 w1 ⟨rfl, rfl⟩
            clear cc
            go_wp2_with fail
            have cc := refForm_any w0 den db dl
            rw [F2.out] at cc
            refine cc.mono ?_
            rintro e1 w1 ⟨rfl, rfl⟩
            clear cc
            have row := RO.row
            go_wp2_with first | refine wpList_store_whole rfl 24 _ _ rfl atRat _ _ _ row rfl rfl rfl rfl (rat_one _ _ _ _ _ _ _) ?_
            refine bodyPost_ret (results_cell_two rfl _ _ _ _ _ _ _ rfl (setRow_heap _ _ _ _ _ _ row) Tryz.underlying24 rfl (by kernel_rfl) _ rfl) rfl ?_
            refine ⟨none, 0, 0, none, 0, 0, by rw [hres.out]; (try rfl), ?_, ?_, below_row RO.below RO.lo _⟩
            · rw [hres.out]; exact Rd.nil _ _
            · rw [hres.out]; exact Rd.nil _ _
          have F2 := Lib.hid f2
          rw [if_pos ⟨f1, f2⟩] at hr
          by_cases e1 : dread num 0 < pw 96
          case neg =>
            have hres := Lib.hid (show r = (zeroV, 30) by rw [hr, if_neg (fun h => e1 h.1)])
            have RN := Lib.hid (readC_great f1 e1)
            obtain ⟨rd, hrd⟩ : ∃ rd, rd = readC den := ⟨_, rfl⟩
            have RD := Lib.hid hrd.symm
            clear hr f1 f2 e1 hrd
            have cc := refForm_any w0 num nb nl
            rw [F1.out] at cc
            refine cc.mono ?_
            rintro e1 w1 ⟨rfl, rfl⟩
            clear cc
            go_wp2_with fail
            have cc := refForm_any w0 den db dl
            rw [F2.out] at cc
            refine cc.mono ?_
            rintro e1 w1 ⟨rfl, rfl⟩
            clear cc
            go_wp2_with fail
            have cc := refRead_any w0 num nb nl
            rw [RN.out] at cc
            refine cc.mono ?_
            rintro e1 w2 ⟨an, nn, cn, rfl, hn, hb2⟩
            clear cc
            have RO := RO.later hb2
            clear hb2
            go_wp2_with fail
            have cc := refRead_any w2 den db dl
            rw [RD.out] at cc
            refine cc.mono ?_
            rintro e1 w3 ⟨ad, nd, cd, rfl, hd, hb2⟩
            clear cc
            have RO := RO.later hb2
            have hn := hn.below hb2
            clear hb2
            have row := RO.row
            go_wp2_with first | refine wpList_store_whole rfl 24 _ _ rfl atRat _ _ _ row rfl rfl rfl rfl (rat_one _ _ _ _ _ _ _) ?_
            refine bodyPost_ret (results_cell_two rfl _ _ _ _ _ _ _ rfl (setRow_heap _ _ _ _ _ _ row) Tryz.underlying24 rfl (by kernel_rfl) _ rfl) rfl ?_
            refine ⟨none, 0, 0, none, 0, 0, by rw [hres.out]; (try rfl), ?_, ?_, below_row RO.below RO.lo _⟩
            · rw [hres.out]; exact Rd.nil _ _
            · rw [hres.out]; exact Rd.nil _ _
          have RN := Lib.hid (readC_ok f1 e1)
          by_cases e2 : dread den 0 < pw 96
          case neg =>
            have hres := Lib.hid (show r = (zeroV, 30) by rw [hr, if_neg (fun h => e2 h.2)])
            have RD := Lib.hid (readC_great f2 e2)
            clear hr f1 f2 e1 e2
            have cc := refForm_any w0 num nb nl
            rw [F1.out] at cc
            refine cc.mono ?_
            rintro e1 w1 ⟨rfl, rfl⟩
            clear cc
            go_wp2_with fail
            have cc := refForm_any w0 den db dl
            rw [F2.out] at cc
            refine cc.mono ?_
            rintro e1 w1 ⟨rfl, rfl⟩
            clear cc
            go_wp2_with fail
            have cc := refRead_any w0 num nb nl
            rw [RN.out] at cc
            refine cc.mono ?_
            rintro e1 w2 ⟨an, nn, cn, rfl, hn, hb2⟩
            clear cc
            have RO := RO.later hb2
            clear hb2
            go_wp2_with fail
            have cc := refRead_any w2 den db dl
            rw [RD.out] at cc
            refine cc.mono ?_
            rintro e1 w3 ⟨ad, nd, cd, rfl, hd, hb2⟩
            clear cc
            have RO := RO.later hb2
            have hn := hn.below hb2
            clear hb2
            have row := RO.row
            go_wp2_with first | refine wpList_store_whole rfl 24 _ _ rfl atRat _ _ _ row rfl rfl rfl rfl (rat_one _ _ _ _ _ _ _) ?_
            refine bodyPost_ret (results_cell_two rfl _ _ _ _ _ _ _ rfl (setRow_heap _ _ _ _ _ _ row) Tryz.underlying24 rfl (by kernel_rfl) _ rfl) rfl ?_
            refine ⟨none, 0, 0, none, 0, 0, by rw [hres.out]; (try rfl), ?_, ?_, below_row RO.below RO.lo _⟩
            · rw [hres.out]; exact Rd.nil _ _
            · rw [hres.out]; exact Rd.nil _ _
          have RD := Lib.hid (readC_ok f2 e2)
          rw [if_pos ⟨e1, e2⟩] at hr
          obtain ⟨N, hN⟩ : ∃ N, N = dread num 0 := ⟨_, rfl⟩
          obtain ⟨D, hD⟩ : ∃ D, D = dread den 0 := ⟨_, rfl⟩
          rw [← hN, ← hD] at hr
          rw [← hN] at RN
          rw [← hD] at RD
          clear e1 e2 hN hD
          have q1 : ((strB den).toList == [49]) = decide (den = [49]) := str_is db (ys := [49]) (by simp)
          by_cases d1 : den = [49]
          case pos =>
            have hres := Lib.hid (show r = (zeroV, 11) by rw [hr, if_pos (.inl ⟨rfl, d1⟩)])
            rw [decide_eq_true d1] at q1
            clear hr f1 f2 d1
            have cc := refForm_any w0 num nb nl
            rw [F1.out] at cc
            refine cc.mono ?_
            rintro e1 w1 ⟨rfl, rfl⟩
            clear cc
            go_wp2_with fail
            have cc := refForm_any w0 den db dl
            rw [F2.out] at cc
            refine cc.mono ?_
            rintro e1 w1 ⟨rfl, rfl⟩
            clear cc
            go_wp2_with fail
            have cc := refRead_any w0 num nb nl
            rw [RN.out] at cc
            refine cc.mono ?_
            rintro e1 w2 ⟨an, nn, cn, rfl, hn, hb2⟩
            clear cc
            have RO := RO.later hb2
            clear hb2
            go_wp2_with fail
            have cc := refRead_any w2 den db dl
            rw [RD.out] at cc
            refine cc.mono ?_
            rintro e1 w3 ⟨ad, nd, cd, rfl, hd, hb2⟩
            clear cc
            have RO := RO.later hb2
            have hn := hn.below hb2
            clear hb2
            have hb3 := below_al w3 (.cells #[.bool false, .slice an nn cn, .slice ad nd cd] 24)
            have RX := PRow.new 24 w3 #[.bool false, .slice an nn cn, .slice ad nd cd]
            have RO := RO.later hb3
            have hn := hn.below hb3
            have hd := hd.below hb3
            clear hb3
            go_upto_region 18 with (first | refine wpList_store_new rfl 24 _ _ rfl atRat _ _ _ rfl rfl rfl rfl (rat_one _ _ _ _ _ _ _) ?_)
            generalize w3.alloc (.cells #[.bool false, .slice an nn cn, .slice ad nd cd] 24) = w4 at *
            have row := RO.row
            go_wp2_with first | refine wpList_store_whole rfl 24 _ _ rfl atRat _ _ _ row rfl rfl rfl rfl (rat_one _ _ _ _ _ _ _) ?_
            refine bodyPost_ret (results_cell_two rfl _ _ _ _ _ _ _ rfl (setRow_heap _ _ _ _ _ _ row) Tryz.underlying24 rfl (by kernel_rfl) _ rfl) rfl ?_
            refine ⟨none, 0, 0, none, 0, 0, by rw [hres.out]; (try rfl), ?_, ?_, below_row RO.below RO.lo _⟩
            · rw [hres.out]; exact Rd.nil _ _
            · rw [hres.out]; exact Rd.nil _ _
          rw [decide_eq_false d1] at q1
          by_cases c8 : chkV ⟨false, limbs N, limbs D⟩ = 0
          case neg =>
            have hres := Lib.hid (show r = (zeroV, 11) by rw [hr, if_pos (.inr c8)])
            have C := Lib.hid ((chkV_two _).resolve_left c8)
            clear hr f1 f2 c8 d1
            have cc := refForm_any w0 num nb nl
            rw [F1.out] at cc
            refine cc.mono ?_
            rintro e1 w1 ⟨rfl, rfl⟩
            clear cc
            go_wp2_with fail
            have cc := refForm_any w0 den db dl
            rw [F2.out] at cc
            refine cc.mono ?_
            rintro e1 w1 ⟨rfl, rfl⟩
            clear cc
            go_wp2_with fail
            have cc := refRead_any w0 num nb nl
            rw [RN.out] at cc
            refine cc.mono ?_
            rintro e1 w2 ⟨an, nn, cn, rfl, hn, hb2⟩
            clear cc
            have RO := RO.later hb2
            clear hb2
            go_wp2_with fail
            have cc := refRead_any w2 den db dl
            rw [RD.out] at cc
            refine cc.mono ?_
            rintro e1 w3 ⟨ad, nd, cd, rfl, hd, hb2⟩
            clear cc
            have RO := RO.later hb2
            have hn := hn.below hb2
            clear hb2
            have hb3 := below_al w3 (.cells #[.bool false, .slice an nn cn, .slice ad nd cd] 24)
            have RX := PRow.new 24 w3 #[.bool false, .slice an nn cn, .slice ad nd cd]
            have RO := RO.later hb3
            have hn := hn.below hb3
            have hd := hd.below hb3
            clear hb3
            have p0 := RX.cell 0 _ rfl
            have p1 := RX.cell 1 _ rfl
            have p2 := RX.cell 2 _ rfl
            go_wp2_with first | refine wpList_store_new rfl 24 _ _ rfl atRat _ _ _ rfl rfl rfl rfl (rat_one _ _ _ _ _ _ _) ?_
            generalize w3.alloc (.cells #[.bool false, .slice an nn cn, .slice ad nd cd] 24) = w4 at *
            have cc := refRatCheck_any (neg := false) w4 hn hd
            rw [C.out] at cc
            refine cc.mono ?_
            rintro e1 w5 ⟨rfl, hb2⟩
            clear cc p0 p1 p2
            have RO := RO.later hb2
            have RX := RX.later hb2
            clear hb2 RX hn hd
            have row := RO.row
            go_wp2_with first | refine wpList_store_whole rfl 24 _ _ rfl atRat _ _ _ row rfl rfl rfl rfl (rat_one _ _ _ _ _ _ _) ?_
            refine bodyPost_ret (results_cell_two rfl _ _ _ _ _ _ _ rfl (setRow_heap _ _ _ _ _ _ row) Tryz.underlying24 rfl (by kernel_rfl) _ rfl) rfl ?_
            refine ⟨none, 0, 0, none, 0, 0, by rw [hres.out]; (try rfl), ?_, ?_, below_row RO.below RO.lo _⟩
            · rw [hres.out]; exact Rd.nil _ _
            · rw [hres.out]; exact Rd.nil _ _
          have hres := Lib.hid (show r = (⟨false, limbs N, limbs D⟩, 0) by rw [hr, if_neg (fun h => h.elim (fun h => d1 h.2) (fun h => h c8))])
          have C := Lib.hid c8
          clear hr f1 f2 c8 d1
          have cc := refForm_any w0 num nb nl
          rw [F1.out] at cc
          refine cc.mono ?_
          rintro e1 w1 ⟨rfl, rfl⟩
          clear cc
          go_wp2_with fail
          have cc := refForm_any w0 den db dl
          rw [F2.out] at cc
          refine cc.mono ?_
          rintro e1 w1 ⟨rfl, rfl⟩
          clear cc
          go_wp2_with fail
          have cc := refRead_any w0 num nb nl
          rw [RN.out] at cc
          refine cc.mono ?_
          rintro e1 w2 ⟨an, nn, cn, rfl, hn, hb2⟩
          clear cc
          have RO := RO.later hb2
          clear hb2
          go_wp2_with fail
          have cc := refRead_any w2 den db dl
          rw [RD.out] at cc
          refine cc.mono ?_
          rintro e1 w3 ⟨ad, nd, cd, rfl, hd, hb2⟩
          clear cc
          have RO := RO.later hb2
          have hn := hn.below hb2
          clear hb2
          have hb3 := below_al w3 (.cells #[.bool false, .slice an nn cn, .slice ad nd cd] 24)
          have RX := PRow.new 24 w3 #[.bool false, .slice an nn cn, .slice ad nd cd]
          have RO := RO.later hb3
          have hn := hn.below hb3
          have hd := hd.below hb3
          clear hb3
          have p0 := RX.cell 0 _ rfl
          have p1 := RX.cell 1 _ rfl
          have p2 := RX.cell 2 _ rfl
          go_wp2_with first | refine wpList_store_new rfl 24 _ _ rfl atRat _ _ _ rfl rfl rfl rfl (rat_one _ _ _ _ _ _ _) ?_
          generalize w3.alloc (.cells #[.bool false, .slice an nn cn, .slice ad nd cd] 24) = w4 at *
          have cc := refRatCheck_any (neg := false) w4 hn hd
          rw [C.out] at cc
          refine cc.mono ?_
          rintro e1 w5 ⟨rfl, hb2⟩
          clear cc p0 p1 p2
          have RO := RO.later hb2
          have RX := RX.later hb2
          have hn := hn.below hb2
          have hd := hd.below hb2
          have p0 := RX.cell 0 _ rfl
          have p1 := RX.cell 1 _ rfl
          have p2 := RX.cell 2 _ rfl
          have row := RO.row
          have HB := Lib.hid (fun cs => below_row RO.below RO.lo cs)
          have fin := Lib.hid (fun cs => (⟨rd_rowset hn row (rat_noint _ _ _ _ _ _ _) cs, rd_rowset hd row (rat_noint _ _ _ _ _ _ _) cs⟩ : _ ∧ _))
          clear hb2 hn hd RX RO
          go_wp2_with (refine wpList_store_whole rfl 24 _ _ rfl atRat _ _ _ row rfl rfl rfl rfl (rat_one _ _ _ _ _ _ _) ?_)
          refine bodyPost_ret (results_cell_two rfl _ _ _ _ _ _ _ rfl (setRow_heap _ _ _ _ _ _ row) Tryz.underlying24 rfl (by kernel_rfl) _ rfl) rfl ?_
          refine ⟨an, nn, cn, ad, nd, cd, by rw [hres.out]; (try rfl), ?_, ?_, HB.out _⟩
          · rw [hres.out]; exact (fin.out _).1
          · rw [hres.out]; exact (fin.out _).2
        | false =>
          have hge : k = ys.length := by have := of_decide_eq_false hcut; omega
          have dge : decide ((k : Int) < (ys.length : Int)) = false := decide_eq_false (by omega)
          go_wp2_with fail
          rw [strB_take, strB_one49]
          rw [show ys.take ys.length = num by rw [← hge]; exact NU.out]
          have hr : r = if formB num = true ∧ formB [49] = true then (if dread num 0 < pw 96 ∧ dread [49] 0 < pw 96 then (if (false = true ∧ [49] = [49]) ∨ chkV ⟨false, limbs (dread num 0), limbs (dread [49] 0)⟩ ≠ 0 then (zeroV, 11) else (⟨false, limbs (dread num 0), limbs (dread [49] 0)⟩, 0)) else (zeroV, 30)) else (zeroV, 11) := by
            rw [HR.out, hm, hcut]
            simp only [Bool.false_eq_true, if_false]
          clear hcut
          by_cases f1 : formB num = true
          case neg =>
            have hres := Lib.hid (show r = (zeroV, 11) by rw [hr, if_neg (fun h => f1 h.1)])
            have F1 := Lib.hid (show formB num = false by cases h : formB num; rfl; exact absurd h f1)
            clear hr f1
            have cc := refForm_any w0 num nb nl
            rw [F1.out] at cc
            refine cc.mono ?_
            rintro e1 w1 ⟨rfl, rfl⟩
            clear cc
            have row := RO.row
            go_wp2_with first | refine wpList_store_whole rfl 24 _ _ rfl atRat _ _ _ row rfl rfl rfl rfl (rat_one _ _ _ _ _ _ _) ?_
            refine bodyPost_ret (results_cell_two rfl _ _ _ _ _ _ _ rfl (setRow_heap _ _ _ _ _ _ row) Tryz.underlying24 rfl (by kernel_rfl) _ rfl) rfl ?_
            refine ⟨none, 0, 0, none, 0, 0, by rw [hres.out]; (try rfl), ?_, ?_, below_row RO.below RO.lo _⟩
            · rw [hres.out]; exact Rd.nil _ _
            · rw [hres.out]; exact Rd.nil _ _
          have F1 := Lib.hid f1
          have f2 : formB [49] = true := rfl
          have F2 := Lib.hid f2
          rw [if_pos ⟨f1, f2⟩] at hr
          by_cases e1 : dread num 0 < pw 96
          case neg =>
            have hres := Lib.hid (show r = (zeroV, 30) by rw [hr, if_neg (fun h => e1 h.1)])
            have RN := Lib.hid (readC_great f1 e1)
            obtain ⟨rd, hrd⟩ : ∃ rd, rd = readC [49] := ⟨_, rfl⟩
            have RD := Lib.hid hrd.symm
            clear hr f1 f2 e1 hrd
            have cc := refForm_any w0 num nb nl
            rw [F1.out] at cc
            refine cc.mono ?_
            rintro e1 w1 ⟨rfl, rfl⟩
            clear cc
            go_wp2_with fail
            have cc := refForm_any w0 [49] (by simp) (by decide)
            rw [F2.out] at cc
            refine cc.mono ?_
            rintro e1 w1 ⟨rfl, rfl⟩
            clear cc
            go_wp2_with fail
            have cc := refRead_any w0 num nb nl
            rw [RN.out] at cc
            refine cc.mono ?_
            rintro e1 w2 ⟨an, nn, cn, rfl, hn, hb2⟩
            clear cc
            have RO := RO.later hb2
            clear hb2
            go_wp2_with fail
            have cc := refRead_any w2 [49] (by simp) (by decide)
            rw [RD.out] at cc
            refine cc.mono ?_
            rintro e1 w3 ⟨ad, nd, cd, rfl, hd, hb2⟩
            clear cc
            have RO := RO.later hb2
            have hn := hn.below hb2
            clear hb2
            have row := RO.row
            go_wp2_with first | refine wpList_store_whole rfl 24 _ _ rfl atRat _ _ _ row rfl rfl rfl rfl (rat_one _ _ _ _ _ _ _) ?_
            refine bodyPost_ret (results_cell_two rfl _ _ _ _ _ _ _ rfl (setRow_heap _ _ _ _ _ _ row) Tryz.underlying24 rfl (by kernel_rfl) _ rfl) rfl ?_
            refine ⟨none, 0, 0, none, 0, 0, by rw [hres.out]; (try rfl), ?_, ?_, below_row RO.below RO.lo _⟩
            · rw [hres.out]; exact Rd.nil _ _
            · rw [hres.out]; exact Rd.nil _ _
          have RN := Lib.hid (readC_ok f1 e1)
          have e2 : dread [49] 0 < pw 96 := by decide
          have RD := Lib.hid (readC_ok f2 e2)
          rw [if_pos ⟨e1, e2⟩] at hr
          obtain ⟨N, hN⟩ : ∃ N, N = dread num 0 := ⟨_, rfl⟩
          obtain ⟨D, hD⟩ : ∃ D, D = dread [49] 0 := ⟨_, rfl⟩
          rw [← hN, ← hD] at hr
          rw [← hN] at RN
          rw [← hD] at RD
          clear e1 e2 hN hD
          by_cases c8 : chkV ⟨false, limbs N, limbs D⟩ = 0
          case neg =>
            have hres := Lib.hid (show r = (zeroV, 11) by rw [hr, if_pos (.inr c8)])
            have C := Lib.hid ((chkV_two _).resolve_left c8)
            clear hr f1 f2 c8
            have cc := refForm_any w0 num nb nl
            rw [F1.out] at cc
            refine cc.mono ?_
            rintro e1 w1 ⟨rfl, rfl⟩
            clear cc
            go_wp2_with fail
            have cc := refForm_any w0 [49] (by simp) (by decide)
            rw [F2.out] at cc
            refine cc.mono ?_
            rintro e1 w1 ⟨rfl, rfl⟩
            clear cc
            go_wp2_with fail
            have cc := refRead_any w0 num nb nl
            rw [RN.out] at cc
            refine cc.mono ?_
            rintro e1 w2 ⟨an, nn, cn, rfl, hn, hb2⟩
            clear cc
            have RO := RO.later hb2
            clear hb2
            go_wp2_with fail
            have cc := refRead_any w2 [49] (by simp) (by decide)
            rw [RD.out] at cc
            refine cc.mono ?_
            rintro e1 w3 ⟨ad, nd, cd, rfl, hd, hb2⟩
            clear cc
            have RO := RO.later hb2
            have hn := hn.below hb2
            clear hb2
            have hb3 := below_al w3 (.cells #[.bool false, .slice an nn cn, .slice ad nd cd] 24)
            have RX := PRow.new 24 w3 #[.bool false, .slice an nn cn, .slice ad nd cd]
            have RO := RO.later hb3
            have hn := hn.below hb3
            have hd := hd.below hb3
            clear hb3
            have p0 := RX.cell 0 _ rfl
            have p1 := RX.cell 1 _ rfl
            have p2 := RX.cell 2 _ rfl
            go_wp2_with first | refine wpList_store_new rfl 24 _ _ rfl atRat _ _ _ rfl rfl rfl rfl (rat_one _ _ _ _ _ _ _) ?_
            generalize w3.alloc (.cells #[.bool false, .slice an nn cn, .slice ad nd cd] 24) = w4 at *
            have cc := refRatCheck_any (neg := false) w4 hn hd
            rw [C.out] at cc
            refine cc.mono ?_
            rintro e1 w5 ⟨rfl, hb2⟩
            clear cc p0 p1 p2
            have RO := RO.later hb2
            have RX := RX.later hb2
            clear hb2 RX hn hd
            have row := RO.row
            go_wp2_with first | refine wpList_store_whole rfl 24 _ _ rfl atRat _ _ _ row rfl rfl rfl rfl (rat_one _ _ _ _ _ _ _) ?_
            refine bodyPost_ret (results_cell_two rfl _ _ _ _ _ _ _ rfl (setRow_heap _ _ _ _ _ _ row) Tryz.underlying24 rfl (by kernel_rfl) _ rfl) rfl ?_
            refine ⟨none, 0, 0, none, 0, 0, by rw [hres.out]; (try rfl), ?_, ?_, below_row RO.below RO.lo _⟩
            · rw [hres.out]; exact Rd.nil _ _
            · rw [hres.out]; exact Rd.nil _ _
          have hres := Lib.hid (show r = (⟨false, limbs N, limbs D⟩, 0) by rw [hr, if_neg (fun h => h.elim (fun h => Bool.false_ne_true h.1) (fun h => h c8))])
          have C := Lib.hid c8
          clear hr f1 f2 c8
          have cc := refForm_any w0 num nb nl
          rw [F1.out] at cc
          refine cc.mono ?_
          rintro e1 w1 ⟨rfl, rfl⟩
          clear cc
          go_wp2_with fail
          have cc := refForm_any w0 [49] (by simp) (by decide)
          rw [F2.out] at cc
          refine cc.mono ?_
          rintro e1 w1 ⟨rfl, rfl⟩
          clear cc
          go_wp2_with fail
          have cc := refRead_any w0 num nb nl
          rw [RN.out] at cc
          refine cc.mono ?_
          rintro e1 w2 ⟨an, nn, cn, rfl, hn, hb2⟩
          clear cc
          have RO := RO.later hb2
          clear hb2
          go_wp2_with fail
          have cc := refRead_any w2 [49] (by simp) (by decide)
          rw [RD.out] at cc
          refine cc.mono ?_
          rintro e1 w3 ⟨ad, nd, cd, rfl, hd, hb2⟩
          clear cc
          have RO := RO.later hb2
          have hn := hn.below hb2
          clear hb2
          have hb3 := below_al w3 (.cells #[.bool false, .slice an nn cn, .slice ad nd cd] 24)
          have RX := PRow.new 24 w3 #[.bool false, .slice an nn cn, .slice ad nd cd]
          have RO := RO.later hb3
          have hn := hn.below hb3
          have hd := hd.below hb3
          clear hb3
          have p0 := RX.cell 0 _ rfl
          have p1 := RX.cell 1 _ rfl
          have p2 := RX.cell 2 _ rfl
          go_wp2_with first | refine wpList_store_new rfl 24 _ _ rfl atRat _ _ _ rfl rfl rfl rfl (rat_one _ _ _ _ _ _ _) ?_
          generalize w3.alloc (.cells #[.bool false, .slice an nn cn, .slice ad nd cd] 24) = w4 at *
          have cc := refRatCheck_any (neg := false) w4 hn hd
          rw [C.out] at cc
          refine cc.mono ?_
          rintro e1 w5 ⟨rfl, hb2⟩
          clear cc p0 p1 p2
          have RO := RO.later hb2
          have RX := RX.later hb2
          have hn := hn.below hb2
          have hd := hd.below hb2
          have p0 := RX.cell 0 _ rfl
          have p1 := RX.cell 1 _ rfl
          have p2 := RX.cell 2 _ rfl
          have row := RO.row
          have HB := Lib.hid (fun cs => below_row RO.below RO.lo cs)
          have fin := Lib.hid (fun cs => (⟨rd_rowset hn row (rat_noint _ _ _ _ _ _ _) cs, rd_rowset hd row (rat_noint _ _ _ _ _ _ _) cs⟩ : _ ∧ _))
          clear hb2 hn hd RX RO
          go_wp2_with (refine wpList_store_whole rfl 24 _ _ rfl atRat _ _ _ row rfl rfl rfl rfl (rat_one _ _ _ _ _ _ _) ?_)
          refine bodyPost_ret (results_cell_two rfl _ _ _ _ _ _ _ rfl (setRow_heap _ _ _ _ _ _ row) Tryz.underlying24 rfl (by kernel_rfl) _ rfl) rfl ?_
          refine ⟨an, nn, cn, ad, nd, cd, by rw [hres.out]; (try rfl), ?_, ?_, HB.out _⟩
          · rw [hres.out]; exact (fin.out _).1
          · rw [hres.out]; exact (fin.out _).2

end Go.Proofs.YtdaajeklnhbhjaaGreatDoor
