/- Over of comparison audits, and the answer's; the law's own part. -/
import Derived.Test.YtmkcdlhhbnakiaaCmpK
namespace Go.Proofs.Ytmkcdlhhbnakiaa
open Go.RowKit Go.Suf
set_option linter.unusedVariables false
set_option linter.unusedSimpArgs false

theorem overC_no {x y : Int} (h : ¬ ((0 ≤ x ∧ x ≤ 2) ∧ 0 ≤ y ∧ y ≤ 2)) : overC x y = (0, 2) := by unfold overC; rw [if_neg h]
theorem overC_yes {x y : Int} (h : (0 ≤ x ∧ x ≤ 2) ∧ 0 ≤ y ∧ y ≤ 2) : overC x y = (x - y, 0) := by unfold overC; rw [if_pos h]

set_option maxHeartbeats 1000000 in
theorem over_any (w : World) (x y : Int) : Calls Try.prog 12 #[.int .i64 x, .int .i64 y] w (RetIEB w (overC x y)) := by
  obtain ⟨r, hr⟩ : ∃ r, r = overC x y := ⟨_, rfl⟩
  rw [← hr]
  by_cases h1 : 0 ≤ x ∧ x ≤ 2
  case neg =>
    have e := Lib.hid (show r = (0, 2) by rw [hr]; exact overC_no (fun h => h1 h.1))
    have D1 := Lib.hid (show decide (0 ≤ x ∧ x ≤ 2) = false from decide_eq_false h1)
    clear hr h1
    go_enter Try.func12, Try.ntmps12
    go_wp2_with fail
    have cc := within_any w x 0 2
    rw [D1.out] at cc
    refine cc.mono ?_
    rintro e1 w9 ⟨rfl, hw⟩
    have hw := hw.symm
    subst hw
    clear cc
    go_wp2_with fail
    go_ret2
    exact ⟨by rw [e.out]; rfl, Below.refl _ _⟩
  case pos =>
  have D1 := Lib.hid (show decide (0 ≤ x ∧ x ≤ 2) = true from decide_eq_true h1)
  by_cases h2 : 0 ≤ y ∧ y ≤ 2
  case neg =>
    have e := Lib.hid (show r = (0, 2) by rw [hr]; exact overC_no (fun h => h2 h.2))
    have D2 := Lib.hid (show decide (0 ≤ y ∧ y ≤ 2) = false from decide_eq_false h2)
    clear hr h1 h2
    go_enter Try.func12, Try.ntmps12
    go_wp2_with fail
    have cc := within_any w x 0 2
    rw [D1.out] at cc
    refine cc.mono ?_
    rintro e1 w9 ⟨rfl, hw⟩
    have hw := hw.symm
    subst hw
    clear cc
    go_wp2_with fail
    have cc := within_any w y 0 2
    rw [D2.out] at cc
    refine cc.mono ?_
    rintro e1 w9 ⟨rfl, hw⟩
    have hw := hw.symm
    subst hw
    clear cc
    go_wp2_with fail
    go_ret2
    exact ⟨by rw [e.out]; rfl, Below.refl _ _⟩
  case pos =>
  have e := Lib.hid (show r = (x - y, 0) by rw [hr]; exact overC_yes ⟨h1, h2⟩)
  have D2 := Lib.hid (show decide (0 ≤ y ∧ y ≤ 2) = true from decide_eq_true h2)
  have WR := Lib.hid (show wrap64 (x - y) = x - y by simp only [wrap64]; omega)
  have xa := h1.1
  have xb := h1.2
  have ya := h2.1
  have yb := h2.2
  clear hr h1 h2
  go_enter Try.func12, Try.ntmps12
  go_wp2_with fail
  have cc := within_any w x 0 2
  rw [D1.out] at cc
  refine cc.mono ?_
  rintro e1 w9 ⟨rfl, hw⟩
  have hw := hw.symm
  subst hw
  clear cc
  go_wp2_with fail
  have cc := within_any w y 0 2
  rw [D2.out] at cc
  refine cc.mono ?_
  rintro e1 w9 ⟨rfl, hw⟩
  have hw := hw.symm
  subst hw
  clear cc
  go_wp2_with fail
  go_ret2
  exact ⟨by rw [e.out]; first | rfl | (rw [WR.out]; rfl), Below.refl _ _⟩

set_option maxHeartbeats 1000000 in
theorem refOver_any (w : World) (x y : Int) : Calls Try.prog 36 #[.int .i64 x, .int .i64 y] w (RetIEB w (overC x y)) := by
  obtain ⟨r, hr⟩ : ∃ r, r = overC x y := ⟨_, rfl⟩
  rw [← hr]
  by_cases u0 : x < 0
  case pos =>
    have e := Lib.hid (show r = (0, 2) by rw [hr]; exact overC_no (fun h => by omega))
    have d0 : decide (x < 0) = true := decide_eq_true u0
    clear hr u0 
    go_enter Try.func36, Try.ntmps36
    go_wp2_with fail
    go_ret2
    exact ⟨by rw [e.out]; rfl, Below.refl _ _⟩
  case neg =>
  have d0 : decide (x < 0) = false := decide_eq_false u0
  by_cases u1 : 2 < x
  case pos =>
    have e := Lib.hid (show r = (0, 2) by rw [hr]; exact overC_no (fun h => by omega))
    have d1 : decide (2 < x) = true := decide_eq_true u1
    clear hr u1 u0
    go_enter Try.func36, Try.ntmps36
    go_wp2_with fail
    go_ret2
    exact ⟨by rw [e.out]; rfl, Below.refl _ _⟩
  case neg =>
  have d1 : decide (2 < x) = false := decide_eq_false u1
  by_cases u2 : y < 0
  case pos =>
    have e := Lib.hid (show r = (0, 2) by rw [hr]; exact overC_no (fun h => by omega))
    have d2 : decide (y < 0) = true := decide_eq_true u2
    clear hr u2 u0 u1
    go_enter Try.func36, Try.ntmps36
    go_wp2_with fail
    go_ret2
    exact ⟨by rw [e.out]; rfl, Below.refl _ _⟩
  case neg =>
  have d2 : decide (y < 0) = false := decide_eq_false u2
  by_cases u3 : 2 < y
  case pos =>
    have e := Lib.hid (show r = (0, 2) by rw [hr]; exact overC_no (fun h => by omega))
    have d3 : decide (2 < y) = true := decide_eq_true u3
    clear hr u3 u0 u1 u2
    go_enter Try.func36, Try.ntmps36
    go_wp2_with fail
    go_ret2
    exact ⟨by rw [e.out]; rfl, Below.refl _ _⟩
  case neg =>
  have d3 : decide (2 < y) = false := decide_eq_false u3
  have e := Lib.hid (show r = (x - y, 0) by rw [hr]; exact overC_yes ⟨⟨by omega, by omega⟩, by omega, by omega⟩)
  have WR := Lib.hid (show wrap64 (x - y) = x - y by simp only [wrap64]; omega)
  have xa : 0 ≤ x := by omega
  have xb : x ≤ 2 := by omega
  have ya : 0 ≤ y := by omega
  have yb : y ≤ 2 := by omega
  clear hr u0 u1 u2 u3
  go_enter Try.func36, Try.ntmps36
  go_wp2_with fail
  go_ret2
  exact ⟨by rw [e.out]; first | rfl | (rw [WR.out]; rfl), Below.refl _ _⟩

set_option maxRecDepth 100000 in
set_option maxHeartbeats 1000000 in
theorem cmPart_any (w : World) (n d : Int) (h1 : -9223372036854775808 ≤ n) (h2 : n < 9223372036854775808) (h3 : -9223372036854775808 ≤ d) (h4 : d < 9223372036854775808) :
    Calls Try.prog 14 #[.int .i64 n, .int .i64 d] w (RetQ w (ofC n d).1) := by
  obtain ⟨r, hr⟩ : ∃ r, r = ofC n d := ⟨_, rfl⟩
  rw [← hr]
  have HR := Lib.hid hr
  have R0 := Row.new w #[.bool false, .slice none 0 0, .slice none 0 0]
  have HN := Lib.hid (show (-9223372036854775808 ≤ n ∧ n < 9223372036854775808) ∧ (-9223372036854775808 ≤ d ∧ d < 9223372036854775808) from ⟨⟨h1, h2⟩, h3, h4⟩)
  clear hr h1 h2 h3 h4
  go_enter Try.func14, Try.ntmps14
  go_wp2_with fail
  have cc := refRatOf_any (w.alloc (.cells #[.bool false, .slice none 0 0, .slice none 0 0] 34)) n d HN.out.1.1 HN.out.1.2 HN.out.2.1 HN.out.2.2
  rw [← HR.out] at cc
  refine cc.mono ?_
  rintro e2 w1 ⟨ap, np, cp, aq, nq, cq, rfl, hp, hq, hb⟩
  clear cc
  have R1 := R0.later hb
  have hA := below_al w1 (.cells #[.bool r.1.neg, .slice ap np cp, .slice aq nq cq] 34)
  have R2 := R1.later hA
  have hp := hp.below hA
  have hq := hq.below hA
  have H2 := Has.new w1 #[.bool r.1.neg, .slice ap np cp, .slice aq nq cq] 34
  have k0 := H2.cell 0 _ rfl
  have k1 := H2.cell 1 _ rfl
  have k2 := H2.cell 2 _ rfl
  have row := R2.row
  have HB := Lib.hid (fun cs => below_row R2.below R2.lo cs)
  have fin := Lib.hid (fun cs => (⟨rd_rowset hp row (rat_noint _ _ _ _ _ _ _) cs, rd_rowset hq row (rat_noint _ _ _ _ _ _ _) cs⟩ : _ ∧ _))
  clear hb hA
  go_wp2_with first | refine wpList_store_new rfl 34 _ _ rfl atRat _ _ _ rfl rfl rfl rfl (rat_one _ _ _ _ _ _ _) ?_ | refine wpList_store_whole rfl 34 _ _ rfl atRat _ _ _ row rfl rfl rfl rfl (rat_one _ _ _ _ _ _ _) ?_
  refine bodyPost_ret (results_cell_row rfl _ _ _ _ _ _ _ rfl (setRow_heap _ _ _ _ _ _ row) Try.underlying34 rfl (by kernel_rfl)) rfl ?_
  exact ⟨ap, np, cp, aq, nq, cq, rfl, (fin.out _).1, (fin.out _).2, HB.out _⟩

end Go.Proofs.Ytmkcdlhhbnakiaa
/- SampleSize of comparison audits in the answer. -/
namespace Go.Proofs.Ytmkcdlhhbnakiaa
open Go.RowKit Go.Suf
set_option linter.unusedVariables false
set_option linter.unusedSimpArgs false

/-- The state at the start and the levels behind it, opaque. -/
theorem size_parts {bet ballots margin : Int} (hb : mayC bet ballots margin) : ∃ (q : CV) (lv : Nat → Nat), newCC bet ballots margin = (q, 0) ∧ mayC q.bet q.ballots q.margin ∧ q.lev = limbs (lv 0) ∧ (∀ k, nextC q (lv k) 0 = lv (k + 1)) ∧ (∀ k, lv k ≤ mostN) ∧ lv = levC (c0 bet ballots margin) :=
  ⟨cN bet ballots margin 0, levC (c0 bet ballots margin), newCC_yes hb, hb, by unfold cN c0; with_reducible rfl, fun k => nextC_same (d := c0 bet ballots margin) ⟨by unfold cN c0; with_reducible rfl, by unfold cN c0; with_reducible rfl, by unfold cN c0; with_reducible rfl⟩ _ _, levC_le _, rfl⟩

/-- The search, opaque. -/
theorem seek_parts {c : CV} {lv : Nat → Nat} (h : lv = levC c) (N D : Nat) : ∃ sk : Nat → Nat → Int × Int, (sk = seekC c N D) ∧ (∀ k, sk 0 k = (0, 6)) ∧ (∀ f k, sureN (lv k) N D = true → sk (f + 1) k = ((k : Int), 0)) ∧ (∀ f k, ¬ sureN (lv k) N D = true → sk (f + 1) k = sk f (k + 1)) := by
  subst h
  exact ⟨_, rfl, fun _ => rfl, fun _ _ => seekC_yes, fun _ _ => seekC_no⟩

theorem sizeCC_bet {bet ballots margin : Int} {x : QV} (h : ¬ mayC bet ballots margin) : sizeCC bet ballots margin x = (0, 2) := by unfold sizeCC; rw [if_neg h]
theorem sizeCC_lim {bet ballots margin : Int} {x : QV} (h : mayC bet ballots margin) (h2 : limC x ≠ 0) : sizeCC bet ballots margin x = (0, limC x) := by unfold sizeCC; rw [if_pos h, if_neg h2]
theorem sizeCC_ok {bet ballots margin : Int} {x : QV} (h : mayC bet ballots margin) (h2 : limC x = 0) : sizeCC bet ballots margin x = seekC (c0 bet ballots margin) (val x.num) (val x.den) 4097 0 := by unfold sizeCC; rw [if_pos h, if_pos h2]; unfold c0; with_reducible rfl

set_option maxRecDepth 100000 in
set_option maxHeartbeats 4000000 in
theorem refCmSampleSize_any (w : World) (bet ballots margin : Int) {g : Bool} {a b : Option Addr} {n m c d : Nat} {xs ys : List Nat} (h1 : Rd .u32 w a n c xs) (h2 : Rd .u32 w b m d ys) :
    Calls Try.prog 23 #[.int .i64 bet, .int .i64 ballots, .int .i64 margin, ratV g a n c b m d] w (RetIEB w (sizeCC bet ballots margin ⟨g, xs, ys⟩)) := by
  obtain ⟨r, hr⟩ : ∃ r, r = sizeCC bet ballots margin ⟨g, xs, ys⟩ := ⟨_, rfl⟩
  rw [← hr]
  have L1 := Has.new w #[.bool g, .slice a n c, .slice b m d] 34
  by_cases hb : mayC bet ballots margin
  case neg =>
    have e := Lib.hid (show r = (0, 2) by rw [hr]; exact sizeCC_bet hb)
    have N := Lib.hid (newCC_no hb)
    clear hr hb
    go_enter Try.func23, Try.ntmps23
    go_wp2_with fail
    have cc := refCmNew_any (w.alloc (.cells #[.bool g, .slice a n c, .slice b m d] 34)) bet ballots margin
    rw [N.out] at cc
    refine cc.mono ?_
    rintro e1 w1 ⟨a1, n1, c1, b1, m1, d1, rfl, x1, x2, hb⟩
    clear cc
    have L1 := L1.later hb
    go_wp2_with (refine wpList_store_new rfl 25 _ _ rfl atCmp _ _ _ rfl rfl rfl rfl (cm_one zeroCV _ _ _ _ _ _) ?_)
    go_ret2
    exact ⟨by rw [e.out]; rfl, L1.below.trans ((below_al w1 _).mono L1.below.size)⟩
  case pos =>
  obtain ⟨q, lv, pN, pM, pL, pX, pE, pS⟩ := size_parts hb
  have bt := Lib.hid pM
  have N := Lib.hid pN
  have PL := Lib.hid pL
  have PX := Lib.hid pX
  have PE := Lib.hid pE
  clear pM pN pL pX pE
  by_cases hl : limC ⟨g, xs, ys⟩ = 0
  case neg =>
    obtain ⟨s, hs⟩ : ∃ s, s = limC ⟨g, xs, ys⟩ := ⟨_, rfl⟩
    have e := Lib.hid (show r = (0, s) by rw [hr, hs]; exact sizeCC_lim hb hl)
    have HS := Lib.hid hs
    rw [← hs] at hl
    have d1 : (s != 0) = true := by rw [bne_iff_ne]; exact hl
    clear hr hb hl hs
    go_enter Try.func23, Try.ntmps23
    go_wp2_with fail
    have cc := refCmNew_any (w.alloc (.cells #[.bool g, .slice a n c, .slice b m d] 34)) bet ballots margin
    rw [N.out] at cc
    refine cc.mono ?_
    rintro e1 w1 ⟨a1, n1, c1, b1, m1, d1, rfl, x1, x2, hb⟩
    clear cc
    have L1 := (L1.later hb).later (below_al w1 (.cells (cmC q a1 n1 c1 b1 m1 d1) 25))
    have k0 := L1.cell 0 _ rfl
    have k1 := L1.cell 1 _ rfl
    have k2 := L1.cell 2 _ rfl
    clear hb
    go_wp2_with (refine wpList_store_new rfl 25 _ _ rfl atCmp _ _ _ rfl rfl rfl rfl (cm_one q _ _ _ _ _ _) ?_)
    have cc := refCheckLimit_any (g := g) _ (h1.below L1.below) (h2.below L1.below)
    rw [← HS.out] at cc
    refine cc.mono ?_
    rintro e1 w2 ⟨rfl, hb⟩
    clear cc
    go_wp2_with fail
    go_ret2
    exact ⟨by rw [e.out]; rfl, L1.below.trans (hb.mono L1.below.size)⟩
  case pos =>
  obtain ⟨N0, D0, LM⟩ := limC_get (x := ⟨g, xs, ys⟩) h1.bd h2.bd hl
  have exs : xs = limbs N0 := LM.num
  have eys : ys = limbs D0 := LM.den
  obtain ⟨sk, sE, s0, sY, sN⟩ := seek_parts pS N0 D0
  have HR := Lib.hid (show r = sk 4097 0 by rw [sE]; rw [hr, sizeCC_ok hb hl]; show seekC (c0 bet ballots margin) (val xs) (val ys) 4097 0 = seekC (c0 bet ballots margin) N0 D0 4097 0; rw [exs, eys, val_limbs, val_limbs])
  have LT := Lib.hid (show N0 < 18446744073709551616 ∧ D0 < 18446744073709551616 from ⟨Nat.lt_of_le_of_lt LM.le LM.lt, LM.lt⟩)
  have SZ := Lib.hid s0
  have SY := Lib.hid sY
  have SN := Lib.hid sN
  have SU := Lib.hid (fun k => (show sureC (limbs (lv k)) xs ys = sureN (lv k) N0 D0 by rw [exs, eys]; exact sureC_ok (PE.out k) LT.out.1 LT.out.2))
  have C2 := Lib.hid hl
  clear hr hb hl LM exs eys sE s0 sY sN pS
  go_enter Try.func23, Try.ntmps23
  go_wp2_with fail
  have cc := refCmNew_any (w.alloc (.cells #[.bool g, .slice a n c, .slice b m d] 34)) bet ballots margin
  rw [N.out] at cc
  refine cc.mono ?_
  rintro e1 w1 ⟨a1, n1, c1, b1, m1, d1, rfl, x1, x2, hb⟩
  clear cc
  have hA := below_al w1 (.cells (cmC q a1 n1 c1 b1 m1 d1) 25)
  have L2 := (L1.later hb).later hA
  have RG := (PRow.new 25 w1 (cmC q a1 n1 c1 b1 m1 d1)).rebase (w1 := w.alloc (.cells #[.bool g, .slice a n c, .slice b m d] 34)) (hb.trans (hA.mono hb.size)) hb.size
  have x1 := x1.below hA
  have x2 := x2.below hA
  have k0 := L2.cell 0 _ rfl
  have k1 := L2.cell 1 _ rfl
  have k2 := L2.cell 2 _ rfl
  clear hb hA
  go_wp2_with (refine wpList_store_new rfl 25 _ _ rfl atCmp _ _ _ rfl rfl rfl rfl (cm_one q _ _ _ _ _ _) ?_)
  have cc := refCheckLimit_any (g := g) _ (h1.below L2.below) (h2.below L2.below)
  rw [C2.out] at cc
  refine cc.mono ?_
  rintro e1 w2 ⟨rfl, hb⟩
  clear cc k0 k1 k2
  have RG := RG.later hb
  have k8 := RG.cell 8 _ rfl
  have x1 := x1.below hb
  rw [PL.out] at x1
  have BB := RG.below
  have LW := RG.lt
  clear hb x2 L2
  clear BB
  go_wp2_with fail
  clear k8
  go_loopw [12, 13] (fun l i wr => ∃ (k : Nat) (a3 : Option Addr) (n3 c3 : Nat), k ≤ 4097 ∧ i = .int .i64 (k : Nat) ∧ l = .slice a3 n3 c3 ∧ Rd .u32 wr a3 n3 c3 (limbs (lv k)) ∧ Below w2.heap.size w2 wr ∧ Hid (r = sk (4097 - k) k)) (fun _ i _ => 4097 - (intOf i).toNat)
  case atStart => exact ⟨0, a1, n1, c1, Nat.zero_le _, rfl, rfl, x1, Below.refl _ _, HR⟩
  case round =>
    obtain ⟨k, a3, n3, c3, hk, rfl, rfl, z1, BW, HK⟩ := hrel
    have L3 := L1.later (RG.below.trans (BW.mono RG.below.size))
    have RK := RG.later BW
    by_cases hlt : k < 4097
    · have k0 := L3.cell 0 _ rfl
      have k1 := L3.cell 1 _ rfl
      have k2 := L3.cell 2 _ rfl
      obtain ⟨f, hf⟩ : ∃ f, 4097 - k = f + 1 := ⟨4096 - k, by omega⟩
      have HF := Lib.hid hf
      have HLT := Lib.hid hlt
      clear hf
      go_wp2_with fail
      have cc := reached_any (g := g) _ z1 (h1.below L3.below) (h2.below L3.below)
      rw [SU.out] at cc
      obtain ⟨t, ht⟩ : ∃ t, t = sureN (lv k) N0 D0 := ⟨_, rfl⟩
      have HT := Lib.hid ht
      rw [← ht] at cc
      refine cc.mono ?_
      rintro e1 w3 ⟨rfl, hb⟩
      clear cc ht k0 k1 k2
      have BW := BW.trans (hb.mono BW.size)
      have z1 := z1.below hb
      cases t
      · have HN := Lib.hid (show r = sk (4097 - (k + 1)) (k + 1) by
          rw [HK.out, HF.out, SN.out f k (by rw [← HT.out]; simp), show f = 4097 - (k + 1) by have := HF.out; omega])
        have RK := RK.later hb
        have k0 := RK.cell 0 _ rfl
        have k1 := RK.cell 1 _ rfl
        have k2 := RK.cell 2 _ rfl
        have k3 := RK.cell 3 _ rfl
        have k4 := RK.cell 4 _ rfl
        have k5 := RK.cell 5 _ rfl
        have k6 := RK.cell 6 _ rfl
        have k7 := RK.cell 7 _ rfl
        have k8 := RK.cell 8 _ rfl
        have k9 := RK.cell 9 _ rfl
        clear hb
        go_wp2_with fail
        have cc := refNext_any (q := q) (a := a1) (n := n1) (c := c1) (b := b1) (m := m1) (d := d1) w3 bt.out (x := 0) (by decide) (by decide) z1 (PE.out k)
        refine cc.mono ?_
        rintro e1 w4 ⟨a4, n4, c4, rfl, y1, hb⟩
        clear cc k0 k1 k2 k3 k4 k5 k6 k7 k8 k9
        rw [PX.out] at y1
        have BW := BW.trans (hb.mono BW.size)
        go_wp2_with fail
        go_roundw
        case rel => exact ⟨k + 1, a4, n4, c4, by have := HLT.out; omega, by go_num, rfl, y1, BW, HN⟩
        case measure => simp [intOf]; have := HLT.out; omega
      · have e := Lib.hid (show r = ((k : Int), 0) by rw [HK.out, HF.out, SY.out _ _ HT.out.symm])
        go_wp2_with fail
        go_ret2
        exact ⟨by rw [e.out]; rfl, L3.below.trans (hb.mono L3.below.size)⟩
    · obtain rfl : k = 4097 := by omega
      have e := Lib.hid (show r = (0, 6) by rw [HK.out]; exact SZ.out _)
      go_wp2_with fail
      go_ret2
      exact ⟨by rw [e.out]; rfl, L3.below⟩

end Go.Proofs.Ytmkcdlhhbnakiaa
