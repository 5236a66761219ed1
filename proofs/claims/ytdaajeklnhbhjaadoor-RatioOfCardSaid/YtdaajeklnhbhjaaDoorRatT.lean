/- Rational numbers: Read. Condition: not too long. Printed by gen_ratt.py. -/
import Derived.Test.YtdaajeklnhbhjaaDoorRatS
namespace Go.Proofs.YtdaajeklnhbhjaaDoor
open Go.RowKit Go.Suf
set_option linter.unusedVariables false
set_option linter.unusedSimpArgs false

def numB (xs : List Nat) : List Nat := (afterB xs).take (slashB (afterB xs))
def cutB (xs : List Nat) : Bool := decide (slashB (afterB xs) < (afterB xs).length)
def denB (xs : List Nat) : List Nat := if cutB xs = true then (afterB xs).drop (slashB (afterB xs) + 1) else [49]

def readV (xs : List Nat) : QV × Int :=
  if formB (numB xs) = true ∧ formB (denB xs) = true then
    (if dread (numB xs) 0 < pw 96 ∧ dread (denB xs) 0 < pw 96 then
      (if (cutB xs = true ∧ denB xs = [49]) ∨ chkV ⟨minusB xs, limbs (dread (numB xs) 0), limbs (dread (denB xs) 0)⟩ ≠ 0 then (zeroV, 11)
       else (⟨minusB xs, limbs (dread (numB xs) 0), limbs (dread (denB xs) 0)⟩, 0))
     else (zeroV, 30))
  else (zeroV, 11)

theorem after_le (xs : List Nat) : (afterB xs).length ≤ xs.length := by
  unfold afterB
  split
  · rw [List.length_drop]; omega
  · exact Nat.le_refl _
theorem after_bd {xs : List Nat} (h : ∀ x ∈ xs, x < 256) : ∀ x ∈ afterB xs, x < 256 := by
  intro x hx
  unfold afterB at hx
  split at hx
  · exact h x (List.mem_of_mem_drop hx)
  · exact h x hx
theorem readC_ok {xs : List Nat} (h : formB xs = true) (h2 : dread xs 0 < pw 96) : readC xs = (limbs (dread xs 0), 0) := by rw [readC, if_pos h, fit_limbs h2]
theorem readC_great {xs : List Nat} (h : formB xs = true) (h2 : ¬ dread xs 0 < pw 96) : readC xs = ([], 30) := by rw [readC, if_pos h, fit_great h2]

set_option maxRecDepth 100000 in
set_option maxHeartbeats 4000000 in
theorem ratRead_any (w : World) (xs : List Nat) (hb : ∀ x ∈ xs, x < 256) (hl : xs.length ≤ 1099511627776) :
    Calls Tryd.prog 18 #[.string (strB xs)] w (RetQE w (readV xs)) := by
  obtain ⟨r, hr⟩ : ∃ r, r = readV xs := ⟨_, rfl⟩
  rw [← hr]
  have yl : (afterB xs).length ≤ 1099511627776 := Nat.le_trans (after_le xs) hl
  have yb := after_bd hb
  obtain ⟨num, hnum⟩ : ∃ n, n = (afterB xs).take (slashB (afterB xs)) := ⟨_, rfl⟩
  obtain ⟨den, hden⟩ : ∃ n, n = (afterB xs).drop (slashB (afterB xs) + 1) := ⟨_, rfl⟩
  have nb : ∀ x ∈ num, x < 256 := fun x hx => yb x (by rw [hnum] at hx; exact List.mem_of_mem_take hx)
  have nl : num.length ≤ 1099511627776 := by rw [hnum, List.length_take]; omega
  have db : ∀ x ∈ den, x < 256 := fun x hx => yb x (by rw [hden] at hx; exact List.mem_of_mem_drop hx)
  have dl : den.length ≤ 1099511627776 := by rw [hden, List.length_drop]; omega
  have NU := Lib.hid hnum.symm
  have DE := Lib.hid hden.symm
  clear hnum hden
  by_cases f1 : formB num = true
  case neg =>
    have hres := Lib.hid (show r = (zeroV, 11) by rw [hr, readV, if_neg (fun h => f1 (by have := h.1; rwa [show numB xs = num from NU.out] at this))])
    have F1 := Lib.hid (show formB num = false by cases h : formB num; rfl; exact absurd h f1)
    obtain ⟨cb, hcb⟩ : ∃ cb, cb = decide (slashB (afterB xs) < (afterB xs).length) := ⟨_, rfl⟩
    have CU := Lib.hid hcb.symm
    clear hr f1 hcb
    have RO := PRow.new 24 w #[.bool false, .slice none 0 0, .slice none 0 0]
    go_enter Tryd.func18, Tryd.ntmps18
    go_wp2_with fail
    generalize w.alloc (.cells #[.bool false, .slice none 0 0, .slice none 0 0] 24) = w0 at *
    refine (cutp_any w0 xs hb).mono ?_
    rintro e1 w1 ⟨rfl, rfl⟩
    go_wp2_with fail
    have cc := cut_any w1 (afterB xs) yb yl
    rw [NU.out, DE.out, CU.out] at cc
    refine cc.mono ?_
    rintro e1 w2 ⟨rfl, hb2⟩
    clear cc
    have RO := RO.later hb2
    clear hb2
    go_wp2_with fail
    have cc := ratForm_any w2 num nb nl
    rw [F1.out] at cc
    refine cc.mono ?_
    rintro e1 w3 ⟨rfl, hb2⟩
    clear cc
    have RO := RO.later hb2
    clear hb2
    have row := RO.row
    have x0 := RO.cell 0 _ rfl
    have x1 := RO.cell 1 _ rfl
    have x2 := RO.cell 2 _ rfl
    go_wp2_with first | refine wpList_store_whole rfl 24 _ _ rfl atRat _ _ _ row rfl rfl rfl rfl (rat_one _ _ _ _ _ _ _) ?_
    refine bodyPost_ret (results_cell_two rfl _ _ _ _ _ _ _ rfl (setRow_heap _ _ _ _ _ _ row) Tryd.underlying24 rfl (by kernel_rfl) _ rfl) rfl ?_
    refine ⟨none, 0, 0, none, 0, 0, by rw [hres.out]; (try rfl), ?_, ?_, below_row RO.below RO.lo _⟩
    · rw [hres.out]; exact Rd.nil _ _
    · rw [hres.out]; exact Rd.nil _ _
  cases hcut : decide (slashB (afterB xs) < (afterB xs).length) with
  | true =>
    have CU := Lib.hid (show decide (slashB (afterB xs) < (afterB xs).length) = true from hcut)
    have hr : r = if formB num = true ∧ formB den = true then (if dread num 0 < pw 96 ∧ dread den 0 < pw 96 then (if (true = true ∧ den = [49]) ∨ chkV ⟨minusB xs, limbs (dread num 0), limbs (dread den 0)⟩ ≠ 0 then (zeroV, 11) else (⟨minusB xs, limbs (dread num 0), limbs (dread den 0)⟩, 0)) else (zeroV, 30)) else (zeroV, 11) := by
      rw [hr]
      unfold readV denB
      rw [show cutB xs = true from hcut, show numB xs = num from NU.out]
      rw [if_pos rfl, DE.out]
    by_cases f2 : formB den = true
    case neg =>
      have hres := Lib.hid (show r = (zeroV, 11) by rw [hr, if_neg (fun h => f2 h.2)])
      have F1 := Lib.hid f1
      have F2 := Lib.hid (show formB den = false by cases h : formB den; rfl; exact absurd h f2)
      clear hr f1 f2 hcut
      have RO := PRow.new 24 w #[.bool false, .slice none 0 0, .slice none 0 0]
      go_enter Tryd.func18, Tryd.ntmps18
      go_wp2_with fail
      generalize w.alloc (.cells #[.bool false, .slice none 0 0, .slice none 0 0] 24) = w0 at *
      refine (cutp_any w0 xs hb).mono ?_
      rintro e1 w1 ⟨rfl, rfl⟩
      go_wp2_with fail
      have cc := cut_any w1 (afterB xs) yb yl
      rw [NU.out, DE.out, CU.out] at cc
      refine cc.mono ?_
      rintro e1 w2 ⟨rfl, hb2⟩
      clear cc
      have RO := RO.later hb2
      clear hb2
      go_wp2_with fail
      have cc := ratForm_any w2 num nb nl
      rw [F1.out] at cc
      refine cc.mono ?_
      rintro e1 w3 ⟨rfl, hb2⟩
      clear cc
      have RO := RO.later hb2
      clear hb2
      go_wp2_with fail
      have cc := ratForm_any w3 den db dl
      rw [F2.out] at cc
      refine cc.mono ?_
      rintro e1 w4 ⟨rfl, hb2⟩
      clear cc
      have RO := RO.later hb2
      clear hb2
      have row := RO.row
      have x0 := RO.cell 0 _ rfl
      have x1 := RO.cell 1 _ rfl
      have x2 := RO.cell 2 _ rfl
      go_wp2_with first | refine wpList_store_whole rfl 24 _ _ rfl atRat _ _ _ row rfl rfl rfl rfl (rat_one _ _ _ _ _ _ _) ?_
      refine bodyPost_ret (results_cell_two rfl _ _ _ _ _ _ _ rfl (setRow_heap _ _ _ _ _ _ row) Tryd.underlying24 rfl (by kernel_rfl) _ rfl) rfl ?_
      refine ⟨none, 0, 0, none, 0, 0, by rw [hres.out]; (try rfl), ?_, ?_, below_row RO.below RO.lo _⟩
      · rw [hres.out]; exact Rd.nil _ _
      · rw [hres.out]; exact Rd.nil _ _
    have F1 := Lib.hid f1
    have F2 := Lib.hid f2
    rw [if_pos ⟨f1, f2⟩] at hr
    by_cases e1 : dread num 0 < pw 96
    case neg =>
      have hres := Lib.hid (show r = (zeroV, 30) by rw [hr, if_neg (fun h => e1 h.1)])
      have RN := Lib.hid (readC_great f1 e1)
      clear hr f1 f2 e1 hcut
      have RO := PRow.new 24 w #[.bool false, .slice none 0 0, .slice none 0 0]
      go_enter Tryd.func18, Tryd.ntmps18
      go_wp2_with fail
      generalize w.alloc (.cells #[.bool false, .slice none 0 0, .slice none 0 0] 24) = w0 at *
      refine (cutp_any w0 xs hb).mono ?_
      rintro e1 w1 ⟨rfl, rfl⟩
      go_wp2_with fail
      have cc := cut_any w1 (afterB xs) yb yl
      rw [NU.out, DE.out, CU.out] at cc
      refine cc.mono ?_
      rintro e1 w2 ⟨rfl, hb2⟩
      clear cc
      have RO := RO.later hb2
      clear hb2
      go_wp2_with fail
      have cc := ratForm_any w2 num nb nl
      rw [F1.out] at cc
      refine cc.mono ?_
      rintro e1 w3 ⟨rfl, hb2⟩
      clear cc
      have RO := RO.later hb2
      clear hb2
      go_wp2_with fail
      have cc := ratForm_any w3 den db dl
      rw [F2.out] at cc
      refine cc.mono ?_
      rintro e1 w4 ⟨rfl, hb2⟩
      clear cc
      have RO := RO.later hb2
      clear hb2
      go_wp2_with fail
      refine (ratOne_any w4).mono ?_
      rintro e1 w5 ⟨rfl, rfl⟩
      have hb2 := below_al w4 (.cells #[.int .u32 1] 47)
      have RO := RO.later hb2
      have kx := RO.lt
      have hb3 := below_al (w4.alloc (.cells #[.int .u32 1] 47)) (.cells #[.bool (minusB xs), .slice none 0 0, .slice (some ⟨w4.heap.size, 0, none⟩) 1 1] 24)
      have RX := (PRow.new 24 (w4.alloc (.cells #[.int .u32 1] 47)) #[.bool (minusB xs), .slice none 0 0, .slice (some ⟨w4.heap.size, 0, none⟩) 1 1]).rebase (RO.below.trans (hb3.mono RO.below.size)) RO.below.size
      have RO := RO.later hb3
      simp only [World.size_alloc] at RX kx
      clear hb2 hb3
      go_wp2_with first | refine wpList_store_new rfl 24 _ _ rfl atRat _ _ _ rfl rfl rfl rfl (rat_one _ _ _ _ _ _ _) ?_
      generalize (w4.alloc (.cells #[.int .u32 1] 47)).alloc (.cells #[.bool (minusB xs), .slice none 0 0, .slice (some ⟨w4.heap.size, 0, none⟩) 1 1] 24) = w6 at *
      have cc := Read_any w6 num nb nl
      rw [RN.out] at cc
      refine cc.mono ?_
      rintro e1 w7 ⟨an, nn, cn, rfl, hn, hb2⟩
      clear cc
      have RO := RO.later hb2
      have RX := RX.later hb2
      clear hb2
      have fr := RX.free 1
      have ce := RX.cell 1 _ rfl
      have hn := rd_setcell hn (i := 1) RX.row (rat_noint _ _ _ _ _ _ _) (.slice an nn cn)
      have RO := RO.other (p := ⟨w4.heap.size + 1, 1, none⟩) (by show w.heap.size ≠ w4.heap.size + 1; omega) RX.lo (.slice an nn cn)
      have RX := RX.set 1 (.slice an nn cn)
      clear hn RX
      go_upto_region 8 with fail
      generalize w7.setCell ⟨w4.heap.size + 1, 1, none⟩ (.slice an nn cn) = w8 at *
      clear fr ce
      have row := RO.row
      have x0 := RO.cell 0 _ rfl
      have x1 := RO.cell 1 _ rfl
      have x2 := RO.cell 2 _ rfl
      go_wp2_with first | refine wpList_store_whole rfl 24 _ _ rfl atRat _ _ _ row rfl rfl rfl rfl (rat_one _ _ _ _ _ _ _) ?_
      refine bodyPost_ret (results_cell_two rfl _ _ _ _ _ _ _ rfl (setRow_heap _ _ _ _ _ _ row) Tryd.underlying24 rfl (by kernel_rfl) _ rfl) rfl ?_
      refine ⟨none, 0, 0, none, 0, 0, by rw [hres.out]; (try rfl), ?_, ?_, below_row RO.below RO.lo _⟩
      · rw [hres.out]; exact Rd.nil _ _
      · rw [hres.out]; exact Rd.nil _ _
    have RN := Lib.hid (readC_ok f1 e1)
    by_cases e2 : dread den 0 < pw 96
    case neg =>
      have hres := Lib.hid (show r = (zeroV, 30) by rw [hr, if_neg (fun h => e2 h.2)])
      have RD := Lib.hid (readC_great f2 e2)
      clear hr f1 f2 e1 e2 hcut
      have RO := PRow.new 24 w #[.bool false, .slice none 0 0, .slice none 0 0]
      go_enter Tryd.func18, Tryd.ntmps18
      go_wp2_with fail
      generalize w.alloc (.cells #[.bool false, .slice none 0 0, .slice none 0 0] 24) = w0 at *
      refine (cutp_any w0 xs hb).mono ?_
      rintro e1 w1 ⟨rfl, rfl⟩
      go_wp2_with fail
      have cc := cut_any w1 (afterB xs) yb yl
      rw [NU.out, DE.out, CU.out] at cc
      refine cc.mono ?_
      rintro e1 w2 ⟨rfl, hb2⟩
      clear cc
      have RO := RO.later hb2
      clear hb2
      go_wp2_with fail
      have cc := ratForm_any w2 num nb nl
      rw [F1.out] at cc
      refine cc.mono ?_
      rintro e1 w3 ⟨rfl, hb2⟩
      clear cc
      have RO := RO.later hb2
      clear hb2
      go_wp2_with fail
      have cc := ratForm_any w3 den db dl
      rw [F2.out] at cc
      refine cc.mono ?_
      rintro e1 w4 ⟨rfl, hb2⟩
      clear cc
      have RO := RO.later hb2
      clear hb2
      go_wp2_with fail
      refine (ratOne_any w4).mono ?_
      rintro e1 w5 ⟨rfl, rfl⟩
      have hb2 := below_al w4 (.cells #[.int .u32 1] 47)
      have RO := RO.later hb2
      have kx := RO.lt
      have hb3 := below_al (w4.alloc (.cells #[.int .u32 1] 47)) (.cells #[.bool (minusB xs), .slice none 0 0, .slice (some ⟨w4.heap.size, 0, none⟩) 1 1] 24)
      have RX := (PRow.new 24 (w4.alloc (.cells #[.int .u32 1] 47)) #[.bool (minusB xs), .slice none 0 0, .slice (some ⟨w4.heap.size, 0, none⟩) 1 1]).rebase (RO.below.trans (hb3.mono RO.below.size)) RO.below.size
      have RO := RO.later hb3
      simp only [World.size_alloc] at RX kx
      clear hb2 hb3
      go_wp2_with first | refine wpList_store_new rfl 24 _ _ rfl atRat _ _ _ rfl rfl rfl rfl (rat_one _ _ _ _ _ _ _) ?_
      generalize (w4.alloc (.cells #[.int .u32 1] 47)).alloc (.cells #[.bool (minusB xs), .slice none 0 0, .slice (some ⟨w4.heap.size, 0, none⟩) 1 1] 24) = w6 at *
      have cc := Read_any w6 num nb nl
      rw [RN.out] at cc
      refine cc.mono ?_
      rintro e1 w7 ⟨an, nn, cn, rfl, hn, hb2⟩
      clear cc
      have RO := RO.later hb2
      have RX := RX.later hb2
      clear hb2
      have fr := RX.free 1
      have ce := RX.cell 1 _ rfl
      have hn := rd_setcell hn (i := 1) RX.row (rat_noint _ _ _ _ _ _ _) (.slice an nn cn)
      have RO := RO.other (p := ⟨w4.heap.size + 1, 1, none⟩) (by show w.heap.size ≠ w4.heap.size + 1; omega) RX.lo (.slice an nn cn)
      have RX := RX.set 1 (.slice an nn cn)
      go_wp2_with fail
      generalize w7.setCell ⟨w4.heap.size + 1, 1, none⟩ (.slice an nn cn) = w8 at *
      clear fr ce
      have cc := Read_any w8 den db dl
      rw [RD.out] at cc
      refine cc.mono ?_
      rintro e1 w9 ⟨ad, nd, cd, rfl, hd, hb2⟩
      clear cc
      have RO := RO.later hb2
      have RX := RX.later hb2
      have hn := hn.below hb2
      clear hb2
      have fr := RX.free 2
      have ce := RX.cell 2 _ rfl
      have hd := rd_setcell hd (i := 2) RX.row (rat_noint _ _ _ _ _ _ _) (.slice ad nd cd)
      have hn := rd_setcell hn (i := 2) RX.row (rat_noint _ _ _ _ _ _ _) (.slice ad nd cd)
      have RO := RO.other (p := ⟨w4.heap.size + 1, 2, none⟩) (by show w.heap.size ≠ w4.heap.size + 1; omega) RX.lo (.slice ad nd cd)
      have RX := RX.set 2 (.slice ad nd cd)
      clear hn hd RX
      go_upto_region 13 with fail
      generalize w9.setCell ⟨w4.heap.size + 1, 2, none⟩ (.slice ad nd cd) = w10 at *
      clear fr ce
      have row := RO.row
      have x0 := RO.cell 0 _ rfl
      have x1 := RO.cell 1 _ rfl
      have x2 := RO.cell 2 _ rfl
      go_wp2_with first | refine wpList_store_whole rfl 24 _ _ rfl atRat _ _ _ row rfl rfl rfl rfl (rat_one _ _ _ _ _ _ _) ?_
      refine bodyPost_ret (results_cell_two rfl _ _ _ _ _ _ _ rfl (setRow_heap _ _ _ _ _ _ row) Tryd.underlying24 rfl (by kernel_rfl) _ rfl) rfl ?_
      refine ⟨none, 0, 0, none, 0, 0, by rw [hres.out]; (try rfl), ?_, ?_, below_row RO.below RO.lo _⟩
      · rw [hres.out]; exact Rd.nil _ _
      · rw [hres.out]; exact Rd.nil _ _
    have RD := Lib.hid (readC_ok f2 e2)
    rw [if_pos ⟨e1, e2⟩] at hr
    obtain ⟨N, hN⟩ : ∃ N, N = dread num 0 := ⟨_, rfl⟩
    obtain ⟨D, hD⟩ : ∃ D, D = dread den 0 := ⟨_, rfl⟩
    rw [← hN, ← hD] at hr
    rw [← hN] at RN
    rw [← hD] at RD
    clear e1 e2 hN hD
    have q1 : ((strB den).toList == [49]) = decide (den = [49]) := str_is db (ys := [49]) (by simp)
    by_cases d1 : den = [49]
    case pos =>
      have hres := Lib.hid (show r = (zeroV, 11) by rw [hr, if_pos (.inl ⟨rfl, d1⟩)])
      rw [decide_eq_true d1] at q1
      clear hr f1 f2 d1 hcut
      have RO := PRow.new 24 w #[.bool false, .slice none 0 0, .slice none 0 0]
      go_enter Tryd.func18, Tryd.ntmps18
      go_wp2_with fail
      generalize w.alloc (.cells #[.bool false, .slice none 0 0, .slice none 0 0] 24) = w0 at *
      refine (cutp_any w0 xs hb).mono ?_
      rintro e1 w1 ⟨rfl, rfl⟩
      go_wp2_with fail
      have cc := cut_any w1 (afterB xs) yb yl
      rw [NU.out, DE.out, CU.out] at cc
      refine cc.mono ?_
      rintro e1 w2 ⟨rfl, hb2⟩
      clear cc
      have RO := RO.later hb2
      clear hb2
      go_wp2_with fail
      have cc := ratForm_any w2 num nb nl
      rw [F1.out] at cc
      refine cc.mono ?_
      rintro e1 w3 ⟨rfl, hb2⟩
      clear cc
      have RO := RO.later hb2
      clear hb2
      go_wp2_with fail
      have cc := ratForm_any w3 den db dl
      rw [F2.out] at cc
      refine cc.mono ?_
      rintro e1 w4 ⟨rfl, hb2⟩
      clear cc
      have RO := RO.later hb2
      clear hb2
      go_wp2_with fail
      refine (ratOne_any w4).mono ?_
      rintro e1 w5 ⟨rfl, rfl⟩
      have hb2 := below_al w4 (.cells #[.int .u32 1] 47)
      have RO := RO.later hb2
      have kx := RO.lt
      have hb3 := below_al (w4.alloc (.cells #[.int .u32 1] 47)) (.cells #[.bool (minusB xs), .slice none 0 0, .slice (some ⟨w4.heap.size, 0, none⟩) 1 1] 24)
      have RX := (PRow.new 24 (w4.alloc (.cells #[.int .u32 1] 47)) #[.bool (minusB xs), .slice none 0 0, .slice (some ⟨w4.heap.size, 0, none⟩) 1 1]).rebase (RO.below.trans (hb3.mono RO.below.size)) RO.below.size
      have RO := RO.later hb3
      simp only [World.size_alloc] at RX kx
      clear hb2 hb3
      go_wp2_with first | refine wpList_store_new rfl 24 _ _ rfl atRat _ _ _ rfl rfl rfl rfl (rat_one _ _ _ _ _ _ _) ?_
      generalize (w4.alloc (.cells #[.int .u32 1] 47)).alloc (.cells #[.bool (minusB xs), .slice none 0 0, .slice (some ⟨w4.heap.size, 0, none⟩) 1 1] 24) = w6 at *
      have cc := Read_any w6 num nb nl
      rw [RN.out] at cc
      refine cc.mono ?_
      rintro e1 w7 ⟨an, nn, cn, rfl, hn, hb2⟩
      clear cc
      have RO := RO.later hb2
      have RX := RX.later hb2
      clear hb2
      have fr := RX.free 1
      have ce := RX.cell 1 _ rfl
      have hn := rd_setcell hn (i := 1) RX.row (rat_noint _ _ _ _ _ _ _) (.slice an nn cn)
      have RO := RO.other (p := ⟨w4.heap.size + 1, 1, none⟩) (by show w.heap.size ≠ w4.heap.size + 1; omega) RX.lo (.slice an nn cn)
      have RX := RX.set 1 (.slice an nn cn)
      go_wp2_with fail
      generalize w7.setCell ⟨w4.heap.size + 1, 1, none⟩ (.slice an nn cn) = w8 at *
      clear fr ce
      have cc := Read_any w8 den db dl
      rw [RD.out] at cc
      refine cc.mono ?_
      rintro e1 w9 ⟨ad, nd, cd, rfl, hd, hb2⟩
      clear cc
      have RO := RO.later hb2
      have RX := RX.later hb2
      have hn := hn.below hb2
      clear hb2
      have fr := RX.free 2
      have ce := RX.cell 2 _ rfl
      have hd := rd_setcell hd (i := 2) RX.row (rat_noint _ _ _ _ _ _ _) (.slice ad nd cd)
      have hn := rd_setcell hn (i := 2) RX.row (rat_noint _ _ _ _ _ _ _) (.slice ad nd cd)
      have RO := RO.other (p := ⟨w4.heap.size + 1, 2, none⟩) (by show w.heap.size ≠ w4.heap.size + 1; omega) RX.lo (.slice ad nd cd)
      have RX := RX.set 2 (.slice ad nd cd)
      have p0 := RX.cell 0 _ rfl
      have p1 := RX.cell 1 _ rfl
      have p2 := RX.cell 2 _ rfl
      clear hn hd RX p0 p1 p2
      go_upto_region 15 with fail
      generalize w9.setCell ⟨w4.heap.size + 1, 2, none⟩ (.slice ad nd cd) = w10 at *
      clear fr ce
      have row := RO.row
      have x0 := RO.cell 0 _ rfl
      have x1 := RO.cell 1 _ rfl
      have x2 := RO.cell 2 _ rfl
      go_wp2_with first | refine wpList_store_whole rfl 24 _ _ rfl atRat _ _ _ row rfl rfl rfl rfl (rat_one _ _ _ _ _ _ _) ?_
      refine bodyPost_ret (results_cell_two rfl _ _ _ _ _ _ _ rfl (setRow_heap _ _ _ _ _ _ row) Tryd.underlying24 rfl (by kernel_rfl) _ rfl) rfl ?_
      refine ⟨none, 0, 0, none, 0, 0, by rw [hres.out]; (try rfl), ?_, ?_, below_row RO.below RO.lo _⟩
      · rw [hres.out]; exact Rd.nil _ _
      · rw [hres.out]; exact Rd.nil _ _
    rw [decide_eq_false d1] at q1
    by_cases c8 : chkV ⟨minusB xs, limbs N, limbs D⟩ = 0
    case neg =>
      have hres := Lib.hid (show r = (zeroV, 11) by rw [hr, if_pos (.inr c8)])
      have C := Lib.hid ((chkV_two _).resolve_left c8)
      clear hr f1 f2 c8 hcut d1
      have RO := PRow.new 24 w #[.bool false, .slice none 0 0, .slice none 0 0]
      go_enter Tryd.func18, Tryd.ntmps18
      go_wp2_with fail
      generalize w.alloc (.cells #[.bool false, .slice none 0 0, .slice none 0 0] 24) = w0 at *
      refine (cutp_any w0 xs hb).mono ?_
      rintro e1 w1 ⟨rfl, rfl⟩
      go_wp2_with fail
      have cc := cut_any w1 (afterB xs) yb yl
      rw [NU.out, DE.out, CU.out] at cc
      refine cc.mono ?_
      rintro e1 w2 ⟨rfl, hb2⟩
      clear cc
      have RO := RO.later hb2
      clear hb2
      go_wp2_with fail
      have cc := ratForm_any w2 num nb nl
      rw [F1.out] at cc
      refine cc.mono ?_
      rintro e1 w3 ⟨rfl, hb2⟩
      clear cc
      have RO := RO.later hb2
      clear hb2
      go_wp2_with fail
      have cc := ratForm_any w3 den db dl
      rw [F2.out] at cc
      refine cc.mono ?_
      rintro e1 w4 ⟨rfl, hb2⟩
      clear cc
      have RO := RO.later hb2
      clear hb2
      go_wp2_with fail
      refine (ratOne_any w4).mono ?_
      rintro e1 w5 ⟨rfl, rfl⟩
      have hb2 := below_al w4 (.cells #[.int .u32 1] 47)
      have RO := RO.later hb2
      have kx := RO.lt
      have hb3 := below_al (w4.alloc (.cells #[.int .u32 1] 47)) (.cells #[.bool (minusB xs), .slice none 0 0, .slice (some ⟨w4.heap.size, 0, none⟩) 1 1] 24)
      have RX := (PRow.new 24 (w4.alloc (.cells #[.int .u32 1] 47)) #[.bool (minusB xs), .slice none 0 0, .slice (some ⟨w4.heap.size, 0, none⟩) 1 1]).rebase (RO.below.trans (hb3.mono RO.below.size)) RO.below.size
      have RO := RO.later hb3
      simp only [World.size_alloc] at RX kx
      clear hb2 hb3
      go_wp2_with first | refine wpList_store_new rfl 24 _ _ rfl atRat _ _ _ rfl rfl rfl rfl (rat_one _ _ _ _ _ _ _) ?_
      generalize (w4.alloc (.cells #[.int .u32 1] 47)).alloc (.cells #[.bool (minusB xs), .slice none 0 0, .slice (some ⟨w4.heap.size, 0, none⟩) 1 1] 24) = w6 at *
      have cc := Read_any w6 num nb nl
      rw [RN.out] at cc
      refine cc.mono ?_
      rintro e1 w7 ⟨an, nn, cn, rfl, hn, hb2⟩
      clear cc
      have RO := RO.later hb2
      have RX := RX.later hb2
      clear hb2
      have fr := RX.free 1
      have ce := RX.cell 1 _ rfl
      have hn := rd_setcell hn (i := 1) RX.row (rat_noint _ _ _ _ _ _ _) (.slice an nn cn)
      have RO := RO.other (p := ⟨w4.heap.size + 1, 1, none⟩) (by show w.heap.size ≠ w4.heap.size + 1; omega) RX.lo (.slice an nn cn)
      have RX := RX.set 1 (.slice an nn cn)
      go_wp2_with fail
      generalize w7.setCell ⟨w4.heap.size + 1, 1, none⟩ (.slice an nn cn) = w8 at *
      clear fr ce
      have cc := Read_any w8 den db dl
      rw [RD.out] at cc
      refine cc.mono ?_
      rintro e1 w9 ⟨ad, nd, cd, rfl, hd, hb2⟩
      clear cc
      have RO := RO.later hb2
      have RX := RX.later hb2
      have hn := hn.below hb2
      clear hb2
      have fr := RX.free 2
      have ce := RX.cell 2 _ rfl
      have hd := rd_setcell hd (i := 2) RX.row (rat_noint _ _ _ _ _ _ _) (.slice ad nd cd)
      have hn := rd_setcell hn (i := 2) RX.row (rat_noint _ _ _ _ _ _ _) (.slice ad nd cd)
      have RO := RO.other (p := ⟨w4.heap.size + 1, 2, none⟩) (by show w.heap.size ≠ w4.heap.size + 1; omega) RX.lo (.slice ad nd cd)
      have RX := RX.set 2 (.slice ad nd cd)
      have p0 := RX.cell 0 _ rfl
      have p1 := RX.cell 1 _ rfl
      have p2 := RX.cell 2 _ rfl
      go_wp2_with fail
      generalize w9.setCell ⟨w4.heap.size + 1, 2, none⟩ (.slice ad nd cd) = w10 at *
      have cc := ratCheck_any (neg := minusB xs) w10 hn hd
      rw [C.out] at cc
      refine cc.mono ?_
      rintro e1 w11 ⟨rfl, hb2⟩
      clear cc p0 p1 p2 fr ce
      have RO := RO.later hb2
      have RX := RX.later hb2
      clear hb2 RX hn hd
      have row := RO.row
      have x0 := RO.cell 0 _ rfl
      have x1 := RO.cell 1 _ rfl
      have x2 := RO.cell 2 _ rfl
      go_wp2_with first | refine wpList_store_whole rfl 24 _ _ rfl atRat _ _ _ row rfl rfl rfl rfl (rat_one _ _ _ _ _ _ _) ?_
      refine bodyPost_ret (results_cell_two rfl _ _ _ _ _ _ _ rfl (setRow_heap _ _ _ _ _ _ row) Tryd.underlying24 rfl (by kernel_rfl) _ rfl) rfl ?_
      refine ⟨none, 0, 0, none, 0, 0, by rw [hres.out]; (try rfl), ?_, ?_, below_row RO.below RO.lo _⟩
      · rw [hres.out]; exact Rd.nil _ _
      · rw [hres.out]; exact Rd.nil _ _
    have hres := Lib.hid (show r = (⟨minusB xs, limbs N, limbs D⟩, 0) by rw [hr, if_neg (fun h => h.elim (fun h => d1 h.2) (fun h => h c8))])
    have C := Lib.hid c8
    clear hr f1 f2 c8 hcut d1
    have RO := PRow.new 24 w #[.bool false, .slice none 0 0, .slice none 0 0]
    go_enter Tryd.func18, Tryd.ntmps18
    go_wp2_with fail
    generalize w.alloc (.cells #[.bool false, .slice none 0 0, .slice none 0 0] 24) = w0 at *
    refine (cutp_any w0 xs hb).mono ?_
    rintro e1 w1 ⟨rfl, rfl⟩
    go_wp2_with fail
    have cc := cut_any w1 (afterB xs) yb yl
    rw [NU.out, DE.out, CU.out] at cc
    refine cc.mono ?_
    rintro e1 w2 ⟨rfl, hb2⟩
    clear cc
    have RO := RO.later hb2
    clear hb2
    go_wp2_with fail
    have cc := ratForm_any w2 num nb nl
    rw [F1.out] at cc
    refine cc.mono ?_
    rintro e1 w3 ⟨rfl, hb2⟩
    clear cc
    have RO := RO.later hb2
    clear hb2
    go_wp2_with fail
    have cc := ratForm_any w3 den db dl
    rw [F2.out] at cc
    refine cc.mono ?_
    rintro e1 w4 ⟨rfl, hb2⟩
    clear cc
    have RO := RO.later hb2
    clear hb2
    go_wp2_with fail
    refine (ratOne_any w4).mono ?_
    rintro e1 w5 ⟨rfl, rfl⟩
    have hb2 := below_al w4 (.cells #[.int .u32 1] 47)
    have RO := RO.later hb2
    have kx := RO.lt
    have hb3 := below_al (w4.alloc (.cells #[.int .u32 1] 47)) (.cells #[.bool (minusB xs), .slice none 0 0, .slice (some ⟨w4.heap.size, 0, none⟩) 1 1] 24)
    have RX := (PRow.new 24 (w4.alloc (.cells #[.int .u32 1] 47)) #[.bool (minusB xs), .slice none 0 0, .slice (some ⟨w4.heap.size, 0, none⟩) 1 1]).rebase (RO.below.trans (hb3.mono RO.below.size)) RO.below.size
    have RO := RO.later hb3
    simp only [World.size_alloc] at RX kx
    clear hb2 hb3
    go_wp2_with first | refine wpList_store_new rfl 24 _ _ rfl atRat _ _ _ rfl rfl rfl rfl (rat_one _ _ _ _ _ _ _) ?_
    generalize (w4.alloc (.cells #[.int .u32 1] 47)).alloc (.cells #[.bool (minusB xs), .slice none 0 0, .slice (some ⟨w4.heap.size, 0, none⟩) 1 1] 24) = w6 at *
    have cc := Read_any w6 num nb nl
    rw [RN.out] at cc
    refine cc.mono ?_
    rintro e1 w7 ⟨an, nn, cn, rfl, hn, hb2⟩
    clear cc
    have RO := RO.later hb2
    have RX := RX.later hb2
    clear hb2
    have fr := RX.free 1
    have ce := RX.cell 1 _ rfl
    have hn := rd_setcell hn (i := 1) RX.row (rat_noint _ _ _ _ _ _ _) (.slice an nn cn)
    have RO := RO.other (p := ⟨w4.heap.size + 1, 1, none⟩) (by show w.heap.size ≠ w4.heap.size + 1; omega) RX.lo (.slice an nn cn)
    have RX := RX.set 1 (.slice an nn cn)
    go_wp2_with fail
    generalize w7.setCell ⟨w4.heap.size + 1, 1, none⟩ (.slice an nn cn) = w8 at *
    clear fr ce
    have cc := Read_any w8 den db dl
    rw [RD.out] at cc
    refine cc.mono ?_
    rintro e1 w9 ⟨ad, nd, cd, rfl, hd, hb2⟩
    clear cc
    have RO := RO.later hb2
    have RX := RX.later hb2
    have hn := hn.below hb2
    clear hb2
    have fr := RX.free 2
    have ce := RX.cell 2 _ rfl
    have hd := rd_setcell hd (i := 2) RX.row (rat_noint _ _ _ _ _ _ _) (.slice ad nd cd)
    have hn := rd_setcell hn (i := 2) RX.row (rat_noint _ _ _ _ _ _ _) (.slice ad nd cd)
    have RO := RO.other (p := ⟨w4.heap.size + 1, 2, none⟩) (by show w.heap.size ≠ w4.heap.size + 1; omega) RX.lo (.slice ad nd cd)
    have RX := RX.set 2 (.slice ad nd cd)
    have p0 := RX.cell 0 _ rfl
    have p1 := RX.cell 1 _ rfl
    have p2 := RX.cell 2 _ rfl
    go_wp2_with fail
    generalize w9.setCell ⟨w4.heap.size + 1, 2, none⟩ (.slice ad nd cd) = w10 at *
    have cc := ratCheck_any (neg := minusB xs) w10 hn hd
    rw [C.out] at cc
    refine cc.mono ?_
    rintro e1 w11 ⟨rfl, hb2⟩
    clear cc p0 p1 p2 fr ce
    have RO := RO.later hb2
    have RX := RX.later hb2
    have hn := hn.below hb2
    have hd := hd.below hb2
    have p0 := RX.cell 0 _ rfl
    have p1 := RX.cell 1 _ rfl
    have p2 := RX.cell 2 _ rfl
    have row := RO.row
    have HB := Lib.hid (fun cs => below_row RO.below RO.lo cs)
    have fin := Lib.hid (fun cs => (⟨rd_rowset hn row (rat_noint _ _ _ _ _ _ _) cs, rd_rowset hd row (rat_noint _ _ _ _ _ _ _) cs⟩ : _ ∧ _))
    clear hb2 hn hd RX RO
    go_wp2_with (refine wpList_store_whole rfl 24 _ _ rfl atRat _ _ _ row rfl rfl rfl rfl (rat_one _ _ _ _ _ _ _) ?_)
    refine bodyPost_ret (results_cell_two rfl _ _ _ _ _ _ _ rfl (setRow_heap _ _ _ _ _ _ row) Tryd.underlying24 rfl (by kernel_rfl) _ rfl) rfl ?_
    refine ⟨an, nn, cn, ad, nd, cd, by rw [hres.out]; (try rfl), ?_, ?_, HB.out _⟩
    · rw [hres.out]; exact (fin.out _).1
    · rw [hres.out]; exact (fin.out _).2
  | false =>
    have CU := Lib.hid (show decide (slashB (afterB xs) < (afterB xs).length) = false from hcut)
    have hr : r = if formB num = true ∧ formB [49] = true then (if dread num 0 < pw 96 ∧ dread [49] 0 < pw 96 then (if (false = true ∧ [49] = [49]) ∨ chkV ⟨minusB xs, limbs (dread num 0), limbs (dread [49] 0)⟩ ≠ 0 then (zeroV, 11) else (⟨minusB xs, limbs (dread num 0), limbs (dread [49] 0)⟩, 0)) else (zeroV, 30)) else (zeroV, 11) := by
      rw [hr]
      unfold readV denB
      rw [show cutB xs = false from hcut, show numB xs = num from NU.out]
      rw [if_neg Bool.false_ne_true]
    have f2 : formB [49] = true := rfl
    have F1 := Lib.hid f1
    have F2 := Lib.hid f2
    rw [if_pos ⟨f1, f2⟩] at hr
    by_cases e1 : dread num 0 < pw 96
    case neg =>
      have hres := Lib.hid (show r = (zeroV, 30) by rw [hr, if_neg (fun h => e1 h.1)])
      have RN := Lib.hid (readC_great f1 e1)
      clear hr f1 f2 e1 hcut
      have RO := PRow.new 24 w #[.bool false, .slice none 0 0, .slice none 0 0]
      go_enter Tryd.func18, Tryd.ntmps18
      go_wp2_with fail
      generalize w.alloc (.cells #[.bool false, .slice none 0 0, .slice none 0 0] 24) = w0 at *
      refine (cutp_any w0 xs hb).mono ?_
      rintro e1 w1 ⟨rfl, rfl⟩
      go_wp2_with fail
      have cc := cut_any w1 (afterB xs) yb yl
      rw [NU.out, DE.out, CU.out] at cc
      refine cc.mono ?_
      rintro e1 w2 ⟨rfl, hb2⟩
      clear cc
      have RO := RO.later hb2
      clear hb2
      go_wp2_with fail
      have cc := ratForm_any w2 num nb nl
      rw [F1.out] at cc
      refine cc.mono ?_
      rintro e1 w3 ⟨rfl, hb2⟩
      clear cc
      have RO := RO.later hb2
      clear hb2
      go_wp2_with fail
      refine (ratOne_any w3).mono ?_
      rintro e1 w5 ⟨rfl, rfl⟩
      have hb2 := below_al w3 (.cells #[.int .u32 1] 47)
      have RO := RO.later hb2
      have kx := RO.lt
      have hb3 := below_al (w3.alloc (.cells #[.int .u32 1] 47)) (.cells #[.bool (minusB xs), .slice none 0 0, .slice (some ⟨w3.heap.size, 0, none⟩) 1 1] 24)
      have RX := (PRow.new 24 (w3.alloc (.cells #[.int .u32 1] 47)) #[.bool (minusB xs), .slice none 0 0, .slice (some ⟨w3.heap.size, 0, none⟩) 1 1]).rebase (RO.below.trans (hb3.mono RO.below.size)) RO.below.size
      have RO := RO.later hb3
      simp only [World.size_alloc] at RX kx
      clear hb2 hb3
      go_wp2_with first | refine wpList_store_new rfl 24 _ _ rfl atRat _ _ _ rfl rfl rfl rfl (rat_one _ _ _ _ _ _ _) ?_
      generalize (w3.alloc (.cells #[.int .u32 1] 47)).alloc (.cells #[.bool (minusB xs), .slice none 0 0, .slice (some ⟨w3.heap.size, 0, none⟩) 1 1] 24) = w6 at *
      have cc := Read_any w6 num nb nl
      rw [RN.out] at cc
      refine cc.mono ?_
      rintro e1 w7 ⟨an, nn, cn, rfl, hn, hb2⟩
      clear cc
      have RO := RO.later hb2
      have RX := RX.later hb2
      clear hb2
      have fr := RX.free 1
      have ce := RX.cell 1 _ rfl
      have hn := rd_setcell hn (i := 1) RX.row (rat_noint _ _ _ _ _ _ _) (.slice an nn cn)
      have RO := RO.other (p := ⟨w3.heap.size + 1, 1, none⟩) (by show w.heap.size ≠ w3.heap.size + 1; omega) RX.lo (.slice an nn cn)
      have RX := RX.set 1 (.slice an nn cn)
      clear hn RX
      go_upto_region 8 with fail
      generalize w7.setCell ⟨w3.heap.size + 1, 1, none⟩ (.slice an nn cn) = w8 at *
      clear fr ce
      have row := RO.row
      have x0 := RO.cell 0 _ rfl
      have x1 := RO.cell 1 _ rfl
      have x2 := RO.cell 2 _ rfl
      go_wp2_with first | refine wpList_store_whole rfl 24 _ _ rfl atRat _ _ _ row rfl rfl rfl rfl (rat_one _ _ _ _ _ _ _) ?_
      refine bodyPost_ret (results_cell_two rfl _ _ _ _ _ _ _ rfl (setRow_heap _ _ _ _ _ _ row) Tryd.underlying24 rfl (by kernel_rfl) _ rfl) rfl ?_
      refine ⟨none, 0, 0, none, 0, 0, by rw [hres.out]; (try rfl), ?_, ?_, below_row RO.below RO.lo _⟩
      · rw [hres.out]; exact Rd.nil _ _
      · rw [hres.out]; exact Rd.nil _ _
    have RN := Lib.hid (readC_ok f1 e1)
    have e2 : dread [49] 0 < pw 96 := by decide
    have RD := Lib.hid (readC_ok f2 e2)
    rw [if_pos ⟨e1, e2⟩] at hr
    obtain ⟨N, hN⟩ : ∃ N, N = dread num 0 := ⟨_, rfl⟩
    obtain ⟨D, hD⟩ : ∃ D, D = dread [49] 0 := ⟨_, rfl⟩
    rw [← hN, ← hD] at hr
    rw [← hN] at RN
    rw [← hD] at RD
    clear e1 e2 hN hD
    by_cases c8 : chkV ⟨minusB xs, limbs N, limbs D⟩ = 0
    case neg =>
      have hres := Lib.hid (show r = (zeroV, 11) by rw [hr, if_pos (.inr c8)])
      have C := Lib.hid ((chkV_two _).resolve_left c8)
      clear hr f1 f2 c8 hcut
      have RO := PRow.new 24 w #[.bool false, .slice none 0 0, .slice none 0 0]
      go_enter Tryd.func18, Tryd.ntmps18
      go_wp2_with fail
      generalize w.alloc (.cells #[.bool false, .slice none 0 0, .slice none 0 0] 24) = w0 at *
      refine (cutp_any w0 xs hb).mono ?_
      rintro e1 w1 ⟨rfl, rfl⟩
      go_wp2_with fail
      have cc := cut_any w1 (afterB xs) yb yl
      rw [NU.out, DE.out, CU.out] at cc
      refine cc.mono ?_
      rintro e1 w2 ⟨rfl, hb2⟩
      clear cc
      have RO := RO.later hb2
      clear hb2
      go_wp2_with fail
      have cc := ratForm_any w2 num nb nl
      rw [F1.out] at cc
      refine cc.mono ?_
      rintro e1 w3 ⟨rfl, hb2⟩
      clear cc
      have RO := RO.later hb2
      clear hb2
      go_wp2_with fail
      refine (ratOne_any w3).mono ?_
      rintro e1 w5 ⟨rfl, rfl⟩
      have hb2 := below_al w3 (.cells #[.int .u32 1] 47)
      have RO := RO.later hb2
      have kx := RO.lt
      have hb3 := below_al (w3.alloc (.cells #[.int .u32 1] 47)) (.cells #[.bool (minusB xs), .slice none 0 0, .slice (some ⟨w3.heap.size, 0, none⟩) 1 1] 24)
      have RX := (PRow.new 24 (w3.alloc (.cells #[.int .u32 1] 47)) #[.bool (minusB xs), .slice none 0 0, .slice (some ⟨w3.heap.size, 0, none⟩) 1 1]).rebase (RO.below.trans (hb3.mono RO.below.size)) RO.below.size
      have RO := RO.later hb3
      simp only [World.size_alloc] at RX kx
      clear hb2 hb3
      go_wp2_with first | refine wpList_store_new rfl 24 _ _ rfl atRat _ _ _ rfl rfl rfl rfl (rat_one _ _ _ _ _ _ _) ?_
      generalize (w3.alloc (.cells #[.int .u32 1] 47)).alloc (.cells #[.bool (minusB xs), .slice none 0 0, .slice (some ⟨w3.heap.size, 0, none⟩) 1 1] 24) = w6 at *
      have cc := Read_any w6 num nb nl
      rw [RN.out] at cc
      refine cc.mono ?_
      rintro e1 w7 ⟨an, nn, cn, rfl, hn, hb2⟩
      clear cc
      have RO := RO.later hb2
      have RX := RX.later hb2
      clear hb2
      have fr := RX.free 1
      have ce := RX.cell 1 _ rfl
      have hn := rd_setcell hn (i := 1) RX.row (rat_noint _ _ _ _ _ _ _) (.slice an nn cn)
      have RO := RO.other (p := ⟨w3.heap.size + 1, 1, none⟩) (by show w.heap.size ≠ w3.heap.size + 1; omega) RX.lo (.slice an nn cn)
      have RX := RX.set 1 (.slice an nn cn)
      go_wp2_with fail
      generalize w7.setCell ⟨w3.heap.size + 1, 1, none⟩ (.slice an nn cn) = w8 at *
      clear fr ce
      have cc := Read_any w8 [49] (by simp) (by decide)
      rw [RD.out] at cc
      refine cc.mono ?_
      rintro e1 w9 ⟨ad, nd, cd, rfl, hd, hb2⟩
      clear cc
      have RO := RO.later hb2
      have RX := RX.later hb2
      have hn := hn.below hb2
      clear hb2
      have fr := RX.free 2
      have ce := RX.cell 2 _ rfl
      have hd := rd_setcell hd (i := 2) RX.row (rat_noint _ _ _ _ _ _ _) (.slice ad nd cd)
      have hn := rd_setcell hn (i := 2) RX.row (rat_noint _ _ _ _ _ _ _) (.slice ad nd cd)
      have RO := RO.other (p := ⟨w3.heap.size + 1, 2, none⟩) (by show w.heap.size ≠ w3.heap.size + 1; omega) RX.lo (.slice ad nd cd)
      have RX := RX.set 2 (.slice ad nd cd)
      have p0 := RX.cell 0 _ rfl
      have p1 := RX.cell 1 _ rfl
      have p2 := RX.cell 2 _ rfl
      go_wp2_with fail
      generalize w9.setCell ⟨w3.heap.size + 1, 2, none⟩ (.slice ad nd cd) = w10 at *
      have cc := ratCheck_any (neg := minusB xs) w10 hn hd
      rw [C.out] at cc
      refine cc.mono ?_
      rintro e1 w11 ⟨rfl, hb2⟩
      clear cc p0 p1 p2 fr ce
      have RO := RO.later hb2
      have RX := RX.later hb2
      clear hb2 RX hn hd
      have row := RO.row
      have x0 := RO.cell 0 _ rfl
      have x1 := RO.cell 1 _ rfl
      have x2 := RO.cell 2 _ rfl
      go_wp2_with first | refine wpList_store_whole rfl 24 _ _ rfl atRat _ _ _ row rfl rfl rfl rfl (rat_one _ _ _ _ _ _ _) ?_
      refine bodyPost_ret (results_cell_two rfl _ _ _ _ _ _ _ rfl (setRow_heap _ _ _ _ _ _ row) Tryd.underlying24 rfl (by kernel_rfl) _ rfl) rfl ?_
      refine ⟨none, 0, 0, none, 0, 0, by rw [hres.out]; (try rfl), ?_, ?_, below_row RO.below RO.lo _⟩
      · rw [hres.out]; exact Rd.nil _ _
      · rw [hres.out]; exact Rd.nil _ _
    have hres := Lib.hid (show r = (⟨minusB xs, limbs N, limbs D⟩, 0) by rw [hr, if_neg (fun h => h.elim (fun h => Bool.false_ne_true h.1) (fun h => h c8))])
    have C := Lib.hid c8
    clear hr f1 f2 c8 hcut
    have RO := PRow.new 24 w #[.bool false, .slice none 0 0, .slice none 0 0]
    go_enter Tryd.func18, Tryd.ntmps18
    go_wp2_with fail
    generalize w.alloc (.cells #[.bool false, .slice none 0 0, .slice none 0 0] 24) = w0 at *
    refine (cutp_any w0 xs hb).mono ?_
    rintro e1 w1 ⟨rfl, rfl⟩
    go_wp2_with fail
    have cc := cut_any w1 (afterB xs) yb yl
    rw [NU.out, DE.out, CU.out] at cc
    refine cc.mono ?_
    rintro e1 w2 ⟨rfl, hb2⟩
    clear cc
    have RO := RO.later hb2
    clear hb2
    go_wp2_with fail
    have cc := ratForm_any w2 num nb nl
    rw [F1.out] at cc
    refine cc.mono ?_
    rintro e1 w3 ⟨rfl, hb2⟩
    clear cc
    have RO := RO.later hb2
    clear hb2
    go_wp2_with fail
    refine (ratOne_any w3).mono ?_
    rintro e1 w5 ⟨rfl, rfl⟩
    have hb2 := below_al w3 (.cells #[.int .u32 1] 47)
    have RO := RO.later hb2
    have kx := RO.lt
    have hb3 := below_al (w3.alloc (.cells #[.int .u32 1] 47)) (.cells #[.bool (minusB xs), .slice none 0 0, .slice (some ⟨w3.heap.size, 0, none⟩) 1 1] 24)
    have RX := (PRow.new 24 (w3.alloc (.cells #[.int .u32 1] 47)) #[.bool (minusB xs), .slice none 0 0, .slice (some ⟨w3.heap.size, 0, none⟩) 1 1]).rebase (RO.below.trans (hb3.mono RO.below.size)) RO.below.size
    have RO := RO.later hb3
    simp only [World.size_alloc] at RX kx
    clear hb2 hb3
    go_wp2_with first | refine wpList_store_new rfl 24 _ _ rfl atRat _ _ _ rfl rfl rfl rfl (rat_one _ _ _ _ _ _ _) ?_
    generalize (w3.alloc (.cells #[.int .u32 1] 47)).alloc (.cells #[.bool (minusB xs), .slice none 0 0, .slice (some ⟨w3.heap.size, 0, none⟩) 1 1] 24) = w6 at *
    have cc := Read_any w6 num nb nl
    rw [RN.out] at cc
    refine cc.mono ?_
    rintro e1 w7 ⟨an, nn, cn, rfl, hn, hb2⟩
    clear cc
    have RO := RO.later hb2
    have RX := RX.later hb2
    clear hb2
    have fr := RX.free 1
    have ce := RX.cell 1 _ rfl
    have hn := rd_setcell hn (i := 1) RX.row (rat_noint _ _ _ _ _ _ _) (.slice an nn cn)
    have RO := RO.other (p := ⟨w3.heap.size + 1, 1, none⟩) (by show w.heap.size ≠ w3.heap.size + 1; omega) RX.lo (.slice an nn cn)
    have RX := RX.set 1 (.slice an nn cn)
    go_wp2_with fail
    generalize w7.setCell ⟨w3.heap.size + 1, 1, none⟩ (.slice an nn cn) = w8 at *
    clear fr ce
    have cc := Read_any w8 [49] (by simp) (by decide)
    rw [RD.out] at cc
    refine cc.mono ?_
    rintro e1 w9 ⟨ad, nd, cd, rfl, hd, hb2⟩
    clear cc
    have RO := RO.later hb2
    have RX := RX.later hb2
    have hn := hn.below hb2
    clear hb2
    have fr := RX.free 2
    have ce := RX.cell 2 _ rfl
    have hd := rd_setcell hd (i := 2) RX.row (rat_noint _ _ _ _ _ _ _) (.slice ad nd cd)
    have hn := rd_setcell hn (i := 2) RX.row (rat_noint _ _ _ _ _ _ _) (.slice ad nd cd)
    have RO := RO.other (p := ⟨w3.heap.size + 1, 2, none⟩) (by show w.heap.size ≠ w3.heap.size + 1; omega) RX.lo (.slice ad nd cd)
    have RX := RX.set 2 (.slice ad nd cd)
    have p0 := RX.cell 0 _ rfl
    have p1 := RX.cell 1 _ rfl
    have p2 := RX.cell 2 _ rfl
    go_wp2_with fail
    generalize w9.setCell ⟨w3.heap.size + 1, 2, none⟩ (.slice ad nd cd) = w10 at *
    have cc := ratCheck_any (neg := minusB xs) w10 hn hd
    rw [C.out] at cc
    refine cc.mono ?_
    rintro e1 w11 ⟨rfl, hb2⟩
    clear cc p0 p1 p2 fr ce
    have RO := RO.later hb2
    have RX := RX.later hb2
    have hn := hn.below hb2
    have hd := hd.below hb2
    have p0 := RX.cell 0 _ rfl
    have p1 := RX.cell 1 _ rfl
    have p2 := RX.cell 2 _ rfl
    have row := RO.row
    have HB := Lib.hid (fun cs => below_row RO.below RO.lo cs)
    have fin := Lib.hid (fun cs => (⟨rd_rowset hn row (rat_noint _ _ _ _ _ _ _) cs, rd_rowset hd row (rat_noint _ _ _ _ _ _ _) cs⟩ : _ ∧ _))
    clear hb2 hn hd RX RO
    go_wp2_with (refine wpList_store_whole rfl 24 _ _ rfl atRat _ _ _ row rfl rfl rfl rfl (rat_one _ _ _ _ _ _ _) ?_)
    refine bodyPost_ret (results_cell_two rfl _ _ _ _ _ _ _ rfl (setRow_heap _ _ _ _ _ _ row) Tryd.underlying24 rfl (by kernel_rfl) _ rfl) rfl ?_
    refine ⟨an, nn, cn, ad, nd, cd, by rw [hres.out]; (try rfl), ?_, ?_, HB.out _⟩
    · rw [hres.out]; exact (fin.out _).1
    · rw [hres.out]; exact (fin.out _).2

end Go.Proofs.YtdaajeklnhbhjaaDoor
