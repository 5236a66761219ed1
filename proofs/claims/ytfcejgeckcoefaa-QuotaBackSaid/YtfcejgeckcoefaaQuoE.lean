/- Fixed-point numbers: Share, Down, Up, Ratio, both. Printed by gen_quoe.py. -/
import Derived.Test.YtfcejgeckcoefaaQuoD
namespace Go.Proofs.Ytfcejgeckcoefaa
open Go.RowKit Go.Suf
set_option linter.unusedVariables false
set_option linter.unusedSimpArgs false

def i64 (z : Int) : Prop := -9223372036854775808 ≤ z ∧ z ≤ 9223372036854775807
def tellN (n : Nat) : Int × Int := if n ≤ 1000000000000000 then ((n : Int), 0) else (0, 30)
def shareQ (a b c : Int) : Int × Int := if inQ a ∧ inQ b ∧ inQ c then (if c = 0 then (0, 40) else tellN (a.toNat * b.toNat / c.toNat)) else (0, 2)
def downQ (a b : Int) : Int × Int := if inQ a ∧ inQ b then tellN (a.toNat * b.toNat / 1000000000) else (0, 2)
def upQ (a b : Int) : Int × Int := if inQ a ∧ inQ b then tellN (a.toNat * b.toNat / 1000000000 + (if a.toNat * b.toNat % 1000000000 = 0 then 0 else 1)) else (0, 2)
def ratQ (n : Int) : QV × Int := if inQ n then ofC n 1000000000 else (zeroV, 2)

theorem downQ_share (a b : Int) : shareQ a b 1000000000 = downQ a b := by
  unfold shareQ downQ
  by_cases h : inQ a ∧ inQ b
  · rw [if_pos h, if_pos ⟨h.1, h.2, by unfold inQ; decide⟩, if_neg (by decide)]
    rfl
  · rw [if_neg h, if_neg (fun h2 => h ⟨h2.1, h2.2.1⟩)]

theorem all2 {a b : Int} : ([a, b].all fun x => decide (inQ x)) = decide (inQ a ∧ inQ b) := by simp [Bool.decide_and]
theorem all3 {a b c : Int} : ([a, b, c].all fun x => decide (inQ x)) = decide (inQ a ∧ inQ b ∧ inQ c) := by simp [Bool.decide_and]
theorem all1 {a : Int} : ([a].all fun x => decide (inQ x)) = decide (inQ a) := by simp

theorem rdI_lit (w : World) (xs : List Int) (n : Nat) (hn : xs.length = n) (hm : n ≤ maxLen) (h : ∀ x ∈ xs, i64 x) : RdI (w.alloc (.cells (intsV xs).toArray 3)) (some ⟨w.heap.size, 0, none⟩) n n xs := by
  have s := sl_lit w (intsV xs) 3 (intsV_one xs) (by rw [intsV_size, hn]; exact hm)
  rw [intsV_size, hn] at s
  exact ⟨hn, s, h⟩

theorem prod_yes {a b c : Nat} (h0 : 0 < c) (h : a * b / c ≤ 1000000000000000) (hc : c ≤ 1000000000000000) : prodQ a b c = (a * b / c, a * b % c, true) := by
  unfold prodQ
  rw [if_neg, Nat.min_eq_left (Nat.le_trans h (by decide)), decide_eq_true h]
  intro hh
  have h2 : c * 18446744073709551616 ≤ a * b := (Nat.le_div_iff_mul_le (by decide)).1 hh
  have h3 : 18446744073709551616 ≤ a * b / c := (Nat.le_div_iff_mul_le h0).2 (by rw [Nat.mul_comm]; exact h2)
  exact absurd (Nat.le_trans h3 h) (by decide)

theorem prod_no {a b c : Nat} (h0 : 0 < c) (h : ¬ a * b / c ≤ 1000000000000000) (hc : c ≤ 1000000000000000) : ∃ n m, prodQ a b c = (n, m, false) ∧ n ≤ 1000000000000001 ∧ m ≤ 1000000000000000 := by
  unfold prodQ
  by_cases hh : c ≤ a * b / 18446744073709551616
  · rw [if_pos hh]
    exact ⟨0, 0, rfl, Nat.zero_le _, Nat.zero_le _⟩
  · rw [if_neg hh, decide_eq_false h]
    exact ⟨_, _, rfl, Nat.min_le_right _ _, Nat.le_trans (Nat.le_of_lt (Nat.mod_lt _ h0)) hc⟩

theorem inQ_nat {a : Int} (h : inQ a) : ∃ n : Nat, a = (n : Int) ∧ n ≤ 1000000000000000 ∧ a.toNat = n := by
  unfold inQ at h
  exact ⟨a.toNat, by omega, by omega, rfl⟩

set_option maxRecDepth 100000 in
set_option maxHeartbeats 2000000 in
theorem share_any (w : World) (a b c : Int) (ha : i64 a) (hb : i64 b) (hc : i64 c) : Calls Try.prog 22 #[.int .i64 a, .int .i64 b, .int .i64 c] w (RetIEB w (shareQ a b c)) := by
  obtain ⟨r, hr⟩ : ∃ r, r = shareQ a b c := ⟨_, rfl⟩
  rw [← hr]
  have cc := all_any (w.alloc (.cells #[.int .i64 a, .int .i64 b, .int .i64 c] 3)) (rdI_lit w [a, b, c] 3 rfl (by decide) (by intro x hx; simp at hx; rcases hx with rfl | rfl | rfl <;> assumption))
  rw [all3] at cc
  have BA := below_al w (.cells #[.int .i64 a, .int .i64 b, .int .i64 c] 3)
  by_cases h : inQ a ∧ inQ b ∧ inQ c
  case neg =>
    have e := Lib.hid (show r = (0, 2) by rw [hr, shareQ, if_neg h])
    rw [decide_eq_false h] at cc
    clear hr h ha hb hc
    go_enter Try.func22, Try.ntmps22
    go_wp2_with fail
    refine cc.mono ?_
    rintro e1 w9 ⟨rfl, rfl⟩
    go_wp2_with fail
    go_ret2
    exact ⟨by rw [e.out]; rfl, BA⟩
  rw [decide_eq_true h] at cc
  have hs0 : r = if c = 0 then (0, 40) else tellN (a.toNat * b.toNat / c.toNat) := by rw [hr, shareQ, if_pos h]
  obtain ⟨A, rfl, la, -⟩ := inQ_nat h.1
  obtain ⟨B, rfl, lb, -⟩ := inQ_nat h.2.1
  obtain ⟨C, rfl, lc, -⟩ := inQ_nat h.2.2
  simp only [Int.toNat_natCast] at hs0
  clear hr h ha hb hc
  by_cases h0 : C = 0
  · have e := Lib.hid (show r = (0, 40) by rw [hs0, if_pos (by omega)])
    subst h0
    clear hs0
    go_enter Try.func22, Try.ntmps22
    go_wp2_with fail
    refine cc.mono ?_
    rintro e1 w9 ⟨rfl, rfl⟩
    go_wp2_with fail
    go_ret2
    exact ⟨by rw [e.out]; rfl, BA⟩
  have z0 : ((C : Int) == 0) = false := beq_eq_false_iff_ne.2 (by omega)
  have hs : r = tellN (A * B / C) := by rw [hs0, if_neg (by omega)]
  clear hs0
  have PC := qproduct_any (w.alloc (.cells #[.int .i64 (A : Nat), .int .i64 (B : Nat), .int .i64 (C : Nat)] 3)) A B C la lb lc (by omega)
  by_cases ok : A * B / C ≤ 1000000000000000
  · have e := Lib.hid (show r = (((A * B / C : Nat) : Int), 0) by rw [hs, tellN, if_pos ok])
    rw [prod_yes (by omega) ok lc] at PC
    obtain ⟨q, hq⟩ : ∃ q, q = A * B / C := ⟨_, rfl⟩
    obtain ⟨m, hm⟩ : ∃ m, m = A * B % C := ⟨_, rfl⟩
    rw [← hq, ← hm] at PC
    rw [← hq] at e
    clear hs ok hq hm la lb lc h0
    go_enter Try.func22, Try.ntmps22
    go_wp2_with fail
    refine cc.mono ?_
    rintro e1 w9 ⟨rfl, rfl⟩
    go_wp2_with fail
    refine PC.mono ?_
    rintro e1 w9 ⟨rfl, hb⟩
    go_wp2_with fail
    go_ret2
    exact ⟨by rw [e.out]; rfl, BA.trans (hb.mono BA.size)⟩
  · have e := Lib.hid (show r = (0, 30) by rw [hs, tellN, if_neg ok])
    obtain ⟨n, m, pe, -, -⟩ := prod_no (by omega) ok lc
    rw [pe] at PC
    clear hs ok pe la lb lc h0
    go_enter Try.func22, Try.ntmps22
    go_wp2_with fail
    refine cc.mono ?_
    rintro e1 w9 ⟨rfl, rfl⟩
    go_wp2_with fail
    refine PC.mono ?_
    rintro e1 w9 ⟨rfl, hb⟩
    go_wp2_with fail
    go_ret2
    exact ⟨by rw [e.out]; rfl, BA.trans (hb.mono BA.size)⟩

set_option maxRecDepth 100000 in
set_option maxHeartbeats 1000000 in
theorem down_any (w : World) (a b : Int) (ha : i64 a) (hb : i64 b) : Calls Try.prog 18 #[.int .i64 a, .int .i64 b] w (RetIEB w (downQ a b)) := by
  obtain ⟨r, hr⟩ : ∃ r, r = downQ a b := ⟨_, rfl⟩
  rw [← hr]
  have cc := all_any (w.alloc (.cells #[.int .i64 a, .int .i64 b] 3)) (rdI_lit w [a, b] 2 rfl (by decide) (by intro x hx; simp at hx; rcases hx with rfl | rfl <;> assumption))
  rw [all2] at cc
  have BA := below_al w (.cells #[.int .i64 a, .int .i64 b] 3)
  have SC := share_any (w.alloc (.cells #[.int .i64 a, .int .i64 b] 3)) a b 1000000000 ha hb (by unfold i64; decide)
  rw [downQ_share, ← hr] at SC
  by_cases h : inQ a ∧ inQ b
  case neg =>
    have e := Lib.hid (show r = (0, 2) by rw [hr, downQ, if_neg h])
    rw [decide_eq_false h] at cc
    clear hr h ha hb SC
    go_enter Try.func18, Try.ntmps18
    go_wp2_with fail
    refine cc.mono ?_
    rintro e1 w9 ⟨rfl, rfl⟩
    go_wp2_with fail
    go_ret2
    exact ⟨by rw [e.out]; rfl, BA⟩
  rw [decide_eq_true h] at cc
  clear hr h ha hb
  go_enter Try.func18, Try.ntmps18
  go_wp2_with fail
  refine cc.mono ?_
  rintro e1 w9 ⟨rfl, rfl⟩
  go_wp2_with fail
  refine SC.mono ?_
  rintro e1 w9 ⟨rfl, hb⟩
  go_wp2_with fail
  go_ret2
  exact ⟨rfl, BA.trans (hb.mono BA.size)⟩

set_option maxRecDepth 100000 in
set_option maxHeartbeats 2000000 in
theorem up_any (w : World) (a b : Int) (ha : i64 a) (hb : i64 b) : Calls Try.prog 20 #[.int .i64 a, .int .i64 b] w (RetIEB w (upQ a b)) := by
  obtain ⟨r, hr⟩ : ∃ r, r = upQ a b := ⟨_, rfl⟩
  rw [← hr]
  have cc := all_any (w.alloc (.cells #[.int .i64 a, .int .i64 b] 3)) (rdI_lit w [a, b] 2 rfl (by decide) (by intro x hx; simp at hx; rcases hx with rfl | rfl <;> assumption))
  rw [all2] at cc
  have BA := below_al w (.cells #[.int .i64 a, .int .i64 b] 3)
  by_cases h : inQ a ∧ inQ b
  case neg =>
    have e := Lib.hid (show r = (0, 2) by rw [hr, upQ, if_neg h])
    rw [decide_eq_false h] at cc
    clear hr h ha hb
    go_enter Try.func20, Try.ntmps20
    go_wp2_with fail
    refine cc.mono ?_
    rintro e1 w9 ⟨rfl, rfl⟩
    go_wp2_with fail
    go_ret2
    exact ⟨by rw [e.out]; rfl, BA⟩
  rw [decide_eq_true h] at cc
  obtain ⟨A, rfl, la, -⟩ := inQ_nat h.1
  obtain ⟨B, rfl, lb, -⟩ := inQ_nat h.2
  have hs : r = tellN (A * B / 1000000000 + (if A * B % 1000000000 = 0 then 0 else 1)) := by rw [hr, upQ, if_pos h]; rfl
  clear hr h ha hb
  have PC := qproduct_any (w.alloc (.cells #[.int .i64 (A : Nat), .int .i64 (B : Nat)] 3)) A B 1000000000 la lb (by decide) (by decide)
  by_cases ok : A * B / 1000000000 ≤ 1000000000000000
  · rw [prod_yes (by decide) ok (by decide)] at PC
    obtain ⟨q, hq⟩ : ∃ q, q = A * B / 1000000000 := ⟨_, rfl⟩
    obtain ⟨m, hm⟩ : ∃ m, m = A * B % 1000000000 := ⟨_, rfl⟩
    rw [← hq, ← hm] at PC hs
    rw [← hq] at ok
    have OK := Lib.hid ok
    by_cases m0 : m = 0
    · have e := Lib.hid (show r = ((q : Int), 0) by rw [hs, if_pos m0, Nat.add_zero, tellN, if_pos ok])
      have dq : decide ((1000000000000000 : Int) < (q : Int)) = false := decide_eq_false (by omega)
      subst m0
      clear hs ok hq hm la lb
      go_enter Try.func20, Try.ntmps20
      go_wp2_with fail
      refine cc.mono ?_
      rintro e1 w9 ⟨rfl, rfl⟩
      go_wp2_with fail
      refine PC.mono ?_
      rintro e1 w9 ⟨rfl, hb⟩
      go_wp2_with fail
      go_ret2
      exact ⟨by rw [e.out]; rfl, BA.trans (hb.mono BA.size)⟩
    · have dm : decide ((0 : Int) < (m : Int)) = true := decide_eq_true (by omega)
      have dmn : decide (0 < m) = true := decide_eq_true (by omega)
      obtain ⟨q', hq'⟩ : ∃ q', q' = q + 1 := ⟨_, rfl⟩
      have w1 : IntKind.i64.wrap ((q : Int) + 1) = (q' : Int) := by rw [wrap_i64 (by omega) (by omega), hq']; omega
      have w2 : wrap64 ((q : Int) + 1) = (q' : Int) := by simp only [wrap64]; omega
      by_cases ok2 : q' ≤ 1000000000000000
      · have e := Lib.hid (show r = ((q' : Int), 0) by rw [hs, if_neg m0, ← hq', tellN, if_pos ok2])
        have dq : decide ((1000000000000000 : Int) < (q' : Int)) = false := decide_eq_false (by omega)
        have EQ := Lib.hid hq'
        clear hs ok hq hm la lb m0 ok2 hq'
        go_enter Try.func20, Try.ntmps20
        go_wp2_with fail
        refine cc.mono ?_
        rintro e1 w9 ⟨rfl, rfl⟩
        go_wp2_with fail
        refine PC.mono ?_
        rintro e1 w9 ⟨rfl, hb⟩
        go_wp2_with fail
        go_ret2
        exact ⟨by rw [e.out]; first | rfl | (rw [EQ.out]; rfl), BA.trans (hb.mono BA.size)⟩
      · have e := Lib.hid (show r = (0, 30) by rw [hs, if_neg m0, ← hq', tellN, if_neg ok2])
        obtain rfl : q = 1000000000000000 := by omega
        have dq : decide ((1000000000000000 : Int) < (q' : Int)) = true := decide_eq_true (by omega)
        clear hs ok hq hm la lb m0 ok2 hq' w1 w2 dq
        go_enter Try.func20, Try.ntmps20
        go_wp2_with fail
        refine cc.mono ?_
        rintro e1 w9 ⟨rfl, rfl⟩
        go_wp2_with fail
        refine PC.mono ?_
        rintro e1 w9 ⟨rfl, hb⟩
        go_wp2_with fail
        go_ret2
        exact ⟨by rw [e.out]; rfl, BA.trans (hb.mono BA.size)⟩
  · have e := Lib.hid (show r = (0, 30) by
      rw [hs, tellN, if_neg]
      intro hh
      exact ok (Nat.le_trans (Nat.le_add_right _ _) hh))
    obtain ⟨n, m, pe, nb, mb⟩ := prod_no (by decide) ok (by decide)
    rw [pe] at PC
    obtain ⟨n', hn'⟩ : ∃ n', n' = n + 1 := ⟨_, rfl⟩
    have w1 : IntKind.i64.wrap ((n : Int) + 1) = (n' : Int) := by rw [wrap_i64 (by omega) (by omega), hn']; omega
    have w2 : wrap64 ((n : Int) + 1) = (n' : Int) := by simp only [wrap64]; omega
    have EN := Lib.hid hn'
    clear hs ok pe la lb nb mb hn'
    by_cases m0 : m = 0
    · subst m0
      go_enter Try.func20, Try.ntmps20
      go_wp2_with fail
      refine cc.mono ?_
      rintro e1 w9 ⟨rfl, rfl⟩
      go_wp2_with fail
      refine PC.mono ?_
      rintro e1 w9 ⟨rfl, hb⟩
      go_wp2_with fail
      go_ret2
      exact ⟨by rw [e.out]; rfl, BA.trans (hb.mono BA.size)⟩
    · have dm : decide ((0 : Int) < (m : Int)) = true := decide_eq_true (by omega)
      have dmn : decide (0 < m) = true := decide_eq_true (by omega)
      clear m0
      go_enter Try.func20, Try.ntmps20
      go_wp2_with fail
      refine cc.mono ?_
      rintro e1 w9 ⟨rfl, rfl⟩
      go_wp2_with fail
      refine PC.mono ?_
      rintro e1 w9 ⟨rfl, hb⟩
      go_wp2_with fail
      go_ret2
      exact ⟨by rw [e.out]; rfl, BA.trans (hb.mono BA.size)⟩

set_option maxRecDepth 100000 in
set_option maxHeartbeats 1000000 in
theorem qratio_any (w : World) (n : Int) (hn : i64 n) : Calls Try.prog 24 #[.int .i64 n] w (RetQE w (ratQ n)) := by
  obtain ⟨r, hr⟩ : ∃ r, r = ratQ n := ⟨_, rfl⟩
  rw [← hr]
  have R0 := (Row.new w #[.bool false, .slice none 0 0, .slice none 0 0]).later (below_al _ (.cells #[.int .i64 n] 3))
  have cc := all_any ((w.alloc (.cells #[.bool false, .slice none 0 0, .slice none 0 0] 27)).alloc (.cells #[.int .i64 n] 3)) (rdI_lit (w.alloc (.cells #[.bool false, .slice none 0 0, .slice none 0 0] 27)) [n] 1 rfl (by decide) (by intro x hx; simp at hx; rw [hx]; exact hn))
  rw [all1] at cc
  simp only [World.size_alloc] at cc
  by_cases h : inQ n
  case neg =>
    have e := Lib.hid (show r = (zeroV, 2) by rw [hr, ratQ, if_neg h])
    have row := R0.row
    have HB := Lib.hid (fun cs => below_row R0.below R0.lo cs)
    rw [decide_eq_false h] at cc
    clear hr h hn
    go_enter Try.func24, Try.ntmps24
    go_wp2_with fail
    refine cc.mono ?_
    rintro e1 w9 ⟨rfl, rfl⟩
    go_wp2_with (refine wpList_store_whole rfl 27 _ _ rfl atRat _ _ _ row rfl rfl rfl rfl (rat_one _ _ _ _ _ _ _) ?_)
    refine bodyPost_ret (results_cell_two rfl _ _ _ _ _ _ _ rfl (setRow_heap _ _ _ _ _ _ row) Try.underlying27 rfl (by kernel_rfl) _ rfl) rfl ?_
    refine ⟨none, 0, 0, none, 0, 0, by rw [e.out]; rfl, ?_, ?_, HB.out _⟩
    · rw [e.out]; exact Rd.nil _ _
    · rw [e.out]; exact Rd.nil _ _
  have HR := Lib.hid (show r = ofC n 1000000000 by rw [hr, ratQ, if_pos h])
  rw [decide_eq_true h] at cc
  have OC := ratOf_any ((w.alloc (.cells #[.bool false, .slice none 0 0, .slice none 0 0] 27)).alloc (.cells #[.int .i64 n] 3)) n 1000000000 (by have := hn.1; omega) (by have := hn.2; omega) (by decide) (by decide)
  rw [← HR.out] at OC
  clear hr h hn
  go_enter Try.func24, Try.ntmps24
  go_wp2_with fail
  refine cc.mono ?_
  rintro e1 w9 ⟨rfl, rfl⟩
  go_wp2_with fail
  refine OC.mono ?_
  rintro e1 w1 ⟨ap, np, cp, aq, nq, cq, rfl, hp, hq, hb⟩
  clear cc OC
  have R1 := R0.later hb
  have row := R1.row
  have HB := Lib.hid (fun cs => below_row R1.below R1.lo cs)
  have fin := Lib.hid (fun cs => (⟨rd_rowset hp row (rat_noint _ _ _ _ _ _ _) cs, rd_rowset hq row (rat_noint _ _ _ _ _ _ _) cs⟩ : _ ∧ _))
  clear hb hp hq
  go_wp2_with (refine wpList_store_whole rfl 27 _ _ rfl atRat _ _ _ row rfl rfl rfl rfl (rat_one _ _ _ _ _ _ _) ?_)
  refine bodyPost_ret (results_cell_two rfl _ _ _ _ _ _ _ rfl (setRow_heap _ _ _ _ _ _ row) Try.underlying27 rfl (by kernel_rfl) _ rfl) rfl ?_
  exact ⟨ap, np, cp, aq, nq, cq, rfl, (fin.out _).1, (fin.out _).2, HB.out _⟩

set_option maxRecDepth 100000 in
set_option maxHeartbeats 1000000 in
theorem refQratio_any (w : World) (n : Int) (hn : i64 n) : Calls Try.prog 25 #[.int .i64 n] w (RetQE w (ratQ n)) := by
  obtain ⟨r, hr⟩ : ∃ r, r = ratQ n := ⟨_, rfl⟩
  rw [← hr]
  have R0 := Row.new w #[.bool false, .slice none 0 0, .slice none 0 0]
  have cc := refIn_any (w.alloc (.cells #[.bool false, .slice none 0 0, .slice none 0 0] 27)) n
  by_cases h : inQ n
  case neg =>
    have e := Lib.hid (show r = (zeroV, 2) by rw [hr, ratQ, if_neg h])
    have row := R0.row
    have HB := Lib.hid (fun cs => below_row R0.below R0.lo cs)
    rw [decide_eq_false h] at cc
    clear hr h hn
    go_enter Try.func25, Try.ntmps25
    go_wp2_with fail
    refine cc.mono ?_
    rintro e1 w9 ⟨rfl, rfl⟩
    go_wp2_with (refine wpList_store_whole rfl 27 _ _ rfl atRat _ _ _ row rfl rfl rfl rfl (rat_one _ _ _ _ _ _ _) ?_)
    refine bodyPost_ret (results_cell_two rfl _ _ _ _ _ _ _ rfl (setRow_heap _ _ _ _ _ _ row) Try.underlying27 rfl (by kernel_rfl) _ rfl) rfl ?_
    refine ⟨none, 0, 0, none, 0, 0, by rw [e.out]; rfl, ?_, ?_, HB.out _⟩
    · rw [e.out]; exact Rd.nil _ _
    · rw [e.out]; exact Rd.nil _ _
  have HR := Lib.hid (show r = ofC n 1000000000 by rw [hr, ratQ, if_pos h])
  rw [decide_eq_true h] at cc
  have OC := refRatOf_any (w.alloc (.cells #[.bool false, .slice none 0 0, .slice none 0 0] 27)) n 1000000000 (by have := hn.1; omega) (by have := hn.2; omega) (by decide) (by decide)
  rw [← HR.out] at OC
  clear hr h hn
  go_enter Try.func25, Try.ntmps25
  go_wp2_with fail
  refine cc.mono ?_
  rintro e1 w9 ⟨rfl, rfl⟩
  go_wp2_with fail
  refine OC.mono ?_
  rintro e1 w1 ⟨ap, np, cp, aq, nq, cq, rfl, hp, hq, hb⟩
  clear cc OC
  have R1 := R0.later hb
  have row := R1.row
  have HB := Lib.hid (fun cs => below_row R1.below R1.lo cs)
  have fin := Lib.hid (fun cs => (⟨rd_rowset hp row (rat_noint _ _ _ _ _ _ _) cs, rd_rowset hq row (rat_noint _ _ _ _ _ _ _) cs⟩ : _ ∧ _))
  clear hb hp hq
  go_wp2_with (refine wpList_store_whole rfl 27 _ _ rfl atRat _ _ _ row rfl rfl rfl rfl (rat_one _ _ _ _ _ _ _) ?_)
  refine bodyPost_ret (results_cell_two rfl _ _ _ _ _ _ _ rfl (setRow_heap _ _ _ _ _ _ row) Try.underlying27 rfl (by kernel_rfl) _ rfl) rfl ?_
  exact ⟨ap, np, cp, aq, nq, cq, rfl, (fin.out _).1, (fin.out _).2, HB.out _⟩

/-- A quotient, and whether there is a rest. -/
def RetDB (w : World) (q : Nat) (m : Nat) : Ending → World → Prop := fun e w' => ∃ a n c, e = .returned (.tuple #[.slice a n c, .bool (decide (0 < m))]) ∧ Rd .u32 w' a n c (limbs q) ∧ Below w.heap.size w w'

set_option maxRecDepth 100000 in
set_option maxHeartbeats 1000000 in
theorem divided_any (w : World) (a b c : Nat) (ha : a ≤ 1000000000000000) (hb : b ≤ 1000000000000000) (hc : c ≤ 1000000000000000) (h0 : 0 < c) : Calls Try.prog 41 #[.int .i64 (a : Nat), .int .i64 (b : Nat), .int .i64 (c : Nat)] w (RetDB w (a * b / c) (a * b % c)) := by
  have ca : IntKind.u64.wrap (a : Int) = (a : Int) := wrap_u64 (by omega) (by omega)
  have cb : IntKind.u64.wrap (b : Int) = (b : Int) := wrap_u64 (by omega) (by omega)
  have cc' : IntKind.u64.wrap (c : Int) = (c : Int) := wrap_u64 (by omega) (by omega)
  have p2 : 18446744073709551616 = pw 2 := by decide
  have la : a < pw 2 := by rw [← p2]; omega
  have lb : b < pw 2 := by rw [← p2]; omega
  have lc : c < pw 2 := by rw [← p2]; omega
  have l96 : pw 2 ≤ pw 96 := pw_le (by decide)
  have ab : a * b < pw 96 := Nat.lt_of_lt_of_le (mul_lt_pw la lb) (pw_le (by decide))
  have OA := fun w => refOf_any w a (by omega)
  have OB := fun w => refOf_any w b (by omega)
  have OC := fun w => refOf_any w c (by omega)
  have ME := Lib.hid (mul_ok (Nat.lt_of_lt_of_le la l96) (Nat.lt_of_lt_of_le lb l96) ab)
  have DE := Lib.hid (div_ok ab (Nat.lt_of_lt_of_le lc l96) h0)
  obtain ⟨m, hm⟩ : ∃ m, m = a * b % c := ⟨_, rfl⟩
  rw [← hm] at DE ⊢
  clear ha hb hc h0 p2 la lb lc l96 ab hm
  go_enter Try.func41, Try.ntmps41
  go_wp2_with fail
  refine (OA _).mono ?_
  rintro e1 w1 ⟨a1, n1, c1, rfl, y1, hb⟩
  have B0 := hb
  clear hb OA
  go_wp2_with fail
  refine (OB _).mono ?_
  rintro e1 w2 ⟨a2, n2, c2, rfl, y2, hb⟩
  have B0 := B0.trans (hb.mono B0.size)
  have y1 := y1.below hb
  clear hb OB
  go_wp2_with fail
  have cc := refMul_any _ y1 y2
  rw [ME.out] at cc
  refine cc.mono ?_
  rintro e1 w3 ⟨a3, n3, c3, rfl, y3, hb⟩
  have B0 := B0.trans (hb.mono B0.size)
  clear cc hb y1 y2
  go_wp2_with fail
  refine (OC _).mono ?_
  rintro e1 w4 ⟨a4, n4, c4, rfl, y4, hb⟩
  have B0 := B0.trans (hb.mono B0.size)
  have y3 := y3.below hb
  clear hb OC
  go_wp2_with fail
  have cc := refDiv_any _ y3 y4
  rw [DE.out] at cc
  refine cc.mono ?_
  rintro e1 w5 ⟨aq, nq, cq, ar, nr, cr, rfl, yq, yr, hb⟩
  have B0 := B0.trans (hb.mono B0.size)
  have LN := yr.len
  clear cc hb y3 y4 yr
  have RD := Lib.hid (show decide ((0 : Int) < (nr : Int)) = decide (0 < m) by
    rw [decide_eq_decide]
    by_cases h : m = 0
    · have e0 : nr = 0 := by rw [h, limbs_zero] at LN; exact LN.symm
      omega
    · have e0 : nr ≠ 0 := by rw [← LN]; exact limbs_len0 (A := m) (by omega)
      omega)
  clear LN
  go_wp2_with fail
  go_ret2
  exact ⟨aq, nq, cq, by rw [← RD.out]; first | rfl | simp, yq, B0⟩

set_option maxRecDepth 100000 in
set_option maxHeartbeats 1000000 in
theorem told_any (w : World) {a : Option Addr} {n c q : Nat} (h : Rd .u32 w a n c (limbs q)) (hq : q < pw 96) : Calls Try.prog 42 #[.slice a n c] w (RetIEB w (tellN q)) := by
  obtain ⟨r, hr⟩ : ∃ r, r = tellN q := ⟨_, rfl⟩
  rw [← hr]
  have cc := refWord_any w h
  by_cases big : q < 18446744073709551616
  · rw [word_ok big] at cc
    by_cases ok : q ≤ 1000000000000000
    · have e := Lib.hid (show r = ((q : Int), 0) by rw [hr, tellN, if_pos ok])
      have dq : decide ((1000000000000000 : Int) < (q : Int)) = false := decide_eq_false (by omega)
      have cv : IntKind.i64.wrap (q : Int) = (q : Int) := wrap_i64 (by omega) (by omega)
      clear hr ok big hq
      go_enter Try.func42, Try.ntmps42
      go_wp2_with fail
      refine cc.mono ?_
      rintro e1 w9 ⟨rfl, hw⟩
      subst hw
      go_wp2_with fail
      go_ret2
      exact ⟨by rw [e.out]; rfl, Below.refl _ _⟩
    · have e := Lib.hid (show r = (0, 30) by rw [hr, tellN, if_neg ok])
      have dq : (1000000000000000 : Int) < (q : Int) := by omega
      clear hr ok big hq
      go_enter Try.func42, Try.ntmps42
      go_wp2_with fail
      refine cc.mono ?_
      rintro e1 w9 ⟨rfl, hw⟩
      subst hw
      go_wp2_with fail
      go_ret2
      exact ⟨by rw [e.out]; rfl, Below.refl _ _⟩
  · rw [word_big hq big] at cc
    have e := Lib.hid (show r = (0, 30) by rw [hr, tellN, if_neg (by omega)])
    clear hr big hq
    go_enter Try.func42, Try.ntmps42
    go_wp2_with fail
    refine cc.mono ?_
    rintro e1 w9 ⟨rfl, hw⟩
    subst hw
    go_wp2_with fail
    go_ret2
    exact ⟨by rw [e.out]; rfl, Below.refl _ _⟩

theorem quo_lt {a b c : Nat} (ha : a ≤ 1000000000000000) (hb : b ≤ 1000000000000000) : a * b / c + 1 < pw 96 := by
  have h1 : a * b ≤ 1000000000000000 * 1000000000000000 := Nat.mul_le_mul ha hb
  have h2 := Nat.div_le_self (a * b) c
  have h3 : 1000000000000000 * 1000000000000000 + 1 < pw 4 := by decide
  exact Nat.lt_of_le_of_lt (Nat.add_le_add_right (Nat.le_trans h2 h1) 1) (Nat.lt_of_lt_of_le h3 (pw_le (by decide)))

set_option maxRecDepth 100000 in
set_option maxHeartbeats 2000000 in
theorem refDown_any (w : World) (a b : Int) : Calls Try.prog 19 #[.int .i64 a, .int .i64 b] w (RetIEB w (downQ a b)) := by
  obtain ⟨r, hr⟩ : ∃ r, r = downQ a b := ⟨_, rfl⟩
  rw [← hr]
  have ca := refIn_any w a
  have cb := refIn_any w b
  by_cases ha : inQ a
  case neg =>
    have e := Lib.hid (show r = (0, 2) by rw [hr, downQ, if_neg (fun h => ha h.1)])
    rw [decide_eq_false ha] at ca
    clear hr ha
    go_enter Try.func19, Try.ntmps19
    go_wp2_with fail
    refine ca.mono ?_
    rintro e1 w9 ⟨rfl, rfl⟩
    go_wp2_with fail
    go_ret2
    exact ⟨by rw [e.out]; rfl, Below.refl _ _⟩
  rw [decide_eq_true ha] at ca
  by_cases hb : inQ b
  case neg =>
    have e := Lib.hid (show r = (0, 2) by rw [hr, downQ, if_neg (fun h => hb h.2)])
    rw [decide_eq_false hb] at cb
    clear hr ha hb
    go_enter Try.func19, Try.ntmps19
    go_wp2_with fail
    refine ca.mono ?_
    rintro e1 w9 ⟨rfl, rfl⟩
    go_wp2_with fail
    refine cb.mono ?_
    rintro e1 w9 ⟨rfl, rfl⟩
    go_wp2_with fail
    go_ret2
    exact ⟨by rw [e.out]; rfl, Below.refl _ _⟩
  rw [decide_eq_true hb] at cb
  obtain ⟨A, rfl, la, -⟩ := inQ_nat ha
  obtain ⟨B, rfl, lb, -⟩ := inQ_nat hb
  have hr2 : r = tellN (A * B / 1000000000) := by rw [hr, downQ, if_pos ⟨ha, hb⟩]; rfl
  clear hr ha hb
  have hr := hr2
  clear hr2
  have D := divided_any w A B 1000000000 la lb (by decide) (by decide)
  have QL := Lib.hid (quo_lt (c := 1000000000) la lb)
  obtain ⟨q, hq⟩ : ∃ q, q = A * B / 1000000000 := ⟨_, rfl⟩
  obtain ⟨m, hm⟩ : ∃ m, m = A * B % 1000000000 := ⟨_, rfl⟩
  rw [← hq, ← hm] at D
  rw [← hq] at QL
  rw [← hq] at hr
  have HR := Lib.hid hr
  clear hr hq hm la lb
  go_enter Try.func19, Try.ntmps19
  go_wp2_with fail
  refine ca.mono ?_
  rintro e1 w9 ⟨rfl, rfl⟩
  go_wp2_with fail
  refine cb.mono ?_
  rintro e1 w9 ⟨rfl, rfl⟩
  go_wp2_with fail
  refine D.mono ?_
  rintro e1 w1 ⟨a1, n1, c1, rfl, y1, hb⟩
  clear D
  go_wp2_with fail
  have cc := told_any w1 y1 (by have := QL.out; omega)
  rw [← HR.out] at cc
  refine cc.mono ?_
  rintro e1 w2 ⟨rfl, hb2⟩
  go_wp2_with fail
  go_ret2
  exact ⟨rfl, hb.trans (hb2.mono hb.size)⟩

set_option maxRecDepth 100000 in
set_option maxHeartbeats 2000000 in
theorem refUp_any (w : World) (a b : Int) : Calls Try.prog 21 #[.int .i64 a, .int .i64 b] w (RetIEB w (upQ a b)) := by
  obtain ⟨r, hr⟩ : ∃ r, r = upQ a b := ⟨_, rfl⟩
  rw [← hr]
  have ca := refIn_any w a
  have cb := refIn_any w b
  by_cases ha : inQ a
  case neg =>
    have e := Lib.hid (show r = (0, 2) by rw [hr, upQ, if_neg (fun h => ha h.1)])
    rw [decide_eq_false ha] at ca
    clear hr ha
    go_enter Try.func21, Try.ntmps21
    go_wp2_with fail
    refine ca.mono ?_
    rintro e1 w9 ⟨rfl, rfl⟩
    go_wp2_with fail
    go_ret2
    exact ⟨by rw [e.out]; rfl, Below.refl _ _⟩
  rw [decide_eq_true ha] at ca
  by_cases hb : inQ b
  case neg =>
    have e := Lib.hid (show r = (0, 2) by rw [hr, upQ, if_neg (fun h => hb h.2)])
    rw [decide_eq_false hb] at cb
    clear hr ha hb
    go_enter Try.func21, Try.ntmps21
    go_wp2_with fail
    refine ca.mono ?_
    rintro e1 w9 ⟨rfl, rfl⟩
    go_wp2_with fail
    refine cb.mono ?_
    rintro e1 w9 ⟨rfl, rfl⟩
    go_wp2_with fail
    go_ret2
    exact ⟨by rw [e.out]; rfl, Below.refl _ _⟩
  rw [decide_eq_true hb] at cb
  obtain ⟨A, rfl, la, -⟩ := inQ_nat ha
  obtain ⟨B, rfl, lb, -⟩ := inQ_nat hb
  have hr2 : r = tellN (A * B / 1000000000 + (if A * B % 1000000000 = 0 then 0 else 1)) := by rw [hr, upQ, if_pos ⟨ha, hb⟩]; rfl
  clear hr ha hb
  have hr := hr2
  clear hr2
  have D := divided_any w A B 1000000000 la lb (by decide) (by decide)
  have QL := Lib.hid (quo_lt (c := 1000000000) la lb)
  obtain ⟨q, hq⟩ : ∃ q, q = A * B / 1000000000 := ⟨_, rfl⟩
  obtain ⟨m, hm⟩ : ∃ m, m = A * B % 1000000000 := ⟨_, rfl⟩
  rw [← hq, ← hm] at D
  rw [← hq] at QL
  rw [← hq, ← hm] at hr
  by_cases m0 : m = 0
  · have HR := Lib.hid (show r = tellN q by rw [hr, if_pos m0, Nat.add_zero])
    subst m0
    clear hr hq hm la lb
    go_enter Try.func21, Try.ntmps21
    go_wp2_with fail
    refine ca.mono ?_
    rintro e1 w9 ⟨rfl, rfl⟩
    go_wp2_with fail
    refine cb.mono ?_
    rintro e1 w9 ⟨rfl, rfl⟩
    go_wp2_with fail
    refine D.mono ?_
    rintro e1 w1 ⟨a1, n1, c1, rfl, y1, hb⟩
    clear D
    go_wp2_with fail
    have cc := told_any w1 y1 (by have := QL.out; omega)
    rw [← HR.out] at cc
    refine cc.mono ?_
    rintro e1 w2 ⟨rfl, hb2⟩
    go_wp2_with fail
    go_ret2
    exact ⟨rfl, hb.trans (hb2.mono hb.size)⟩
  · have HR := Lib.hid (show r = tellN (q + 1) by rw [hr, if_neg m0])
    have dm : decide (0 < m) = true := decide_eq_true (by omega)
    clear hr hq hm la lb m0
    go_enter Try.func21, Try.ntmps21
    go_wp2_with fail
    refine ca.mono ?_
    rintro e1 w9 ⟨rfl, rfl⟩
    go_wp2_with fail
    refine cb.mono ?_
    rintro e1 w9 ⟨rfl, rfl⟩
    go_wp2_with fail
    refine D.mono ?_
    rintro e1 w1 ⟨a1, n1, c1, rfl, y1, hb⟩
    clear D
    have hA := below_al w1 (.cells #[.int .u32 1] 56)
    have BB := hb.trans (hA.mono hb.size)
    have y1 := y1.below hA
    have hl := lit_one w1
    clear hA hb
    go_wp2_with fail
    have cc := refAdd_any _ y1 hl
    rw [add_ok QL.out] at cc
    refine cc.mono ?_
    rintro e1 w2 ⟨a2, n2, c2, rfl, y2, hb⟩
    have BB := BB.trans (hb.mono BB.size)
    clear cc hb y1 hl
    go_wp2_with fail
    have cc := told_any w2 y2 QL.out
    rw [← HR.out] at cc
    refine cc.mono ?_
    rintro e1 w3 ⟨rfl, hb2⟩
    go_wp2_with fail
    go_ret2
    exact ⟨rfl, BB.trans (hb2.mono BB.size)⟩

set_option maxRecDepth 100000 in
set_option maxHeartbeats 2000000 in
theorem refShare_any (w : World) (a b c : Int) : Calls Try.prog 23 #[.int .i64 a, .int .i64 b, .int .i64 c] w (RetIEB w (shareQ a b c)) := by
  obtain ⟨r, hr⟩ : ∃ r, r = shareQ a b c := ⟨_, rfl⟩
  rw [← hr]
  have ca := refIn_any w a
  have cb := refIn_any w b
  have cc := refIn_any w c
  by_cases ha : inQ a
  case neg =>
    have e := Lib.hid (show r = (0, 2) by rw [hr, shareQ, if_neg (fun h => ha h.1)])
    rw [decide_eq_false ha] at ca
    clear hr ha
    go_enter Try.func23, Try.ntmps23
    go_wp2_with fail
    refine ca.mono ?_
    rintro e1 w9 ⟨rfl, rfl⟩
    go_wp2_with fail
    go_ret2
    exact ⟨by rw [e.out]; rfl, Below.refl _ _⟩
  rw [decide_eq_true ha] at ca
  by_cases hb : inQ b
  case neg =>
    have e := Lib.hid (show r = (0, 2) by rw [hr, shareQ, if_neg (fun h => hb h.2.1)])
    rw [decide_eq_false hb] at cb
    clear hr ha hb
    go_enter Try.func23, Try.ntmps23
    go_wp2_with fail
    refine ca.mono ?_
    rintro e1 w9 ⟨rfl, rfl⟩
    go_wp2_with fail
    refine cb.mono ?_
    rintro e1 w9 ⟨rfl, rfl⟩
    go_wp2_with fail
    go_ret2
    exact ⟨by rw [e.out]; rfl, Below.refl _ _⟩
  rw [decide_eq_true hb] at cb
  by_cases hc : inQ c
  case neg =>
    have e := Lib.hid (show r = (0, 2) by rw [hr, shareQ, if_neg (fun h => hc h.2.2)])
    rw [decide_eq_false hc] at cc
    clear hr ha hb hc
    go_enter Try.func23, Try.ntmps23
    go_wp2_with fail
    refine ca.mono ?_
    rintro e1 w9 ⟨rfl, rfl⟩
    go_wp2_with fail
    refine cb.mono ?_
    rintro e1 w9 ⟨rfl, rfl⟩
    go_wp2_with fail
    refine cc.mono ?_
    rintro e1 w9 ⟨rfl, rfl⟩
    go_wp2_with fail
    go_ret2
    exact ⟨by rw [e.out]; rfl, Below.refl _ _⟩
  rw [decide_eq_true hc] at cc
  obtain ⟨A, rfl, la, -⟩ := inQ_nat ha
  obtain ⟨B, rfl, lb, -⟩ := inQ_nat hb
  obtain ⟨C, rfl, lc, -⟩ := inQ_nat hc
  have hr2 : r = if (C : Int) = 0 then (0, 40) else tellN (A * B / C) := by rw [hr, shareQ, if_pos ⟨ha, hb, hc⟩]; rfl
  clear hr ha hb hc
  have hr := hr2
  clear hr2
  by_cases h0 : C = 0
  · have e := Lib.hid (show r = (0, 40) by rw [hr, if_pos (by omega)])
    subst h0
    clear hr
    go_enter Try.func23, Try.ntmps23
    go_wp2_with fail
    refine ca.mono ?_
    rintro e1 w9 ⟨rfl, rfl⟩
    go_wp2_with fail
    refine cb.mono ?_
    rintro e1 w9 ⟨rfl, rfl⟩
    go_wp2_with fail
    refine cc.mono ?_
    rintro e1 w9 ⟨rfl, rfl⟩
    go_wp2_with fail
    go_ret2
    exact ⟨by rw [e.out]; rfl, Below.refl _ _⟩
  have z0 : ((C : Int) == 0) = false := beq_eq_false_iff_ne.2 (by omega)
  rw [if_neg (by omega)] at hr
  have D := divided_any w A B C la lb lc (by omega)
  have QL := Lib.hid (quo_lt (c := C) la lb)
  obtain ⟨q, hq⟩ : ∃ q, q = A * B / C := ⟨_, rfl⟩
  obtain ⟨m, hm⟩ : ∃ m, m = A * B % C := ⟨_, rfl⟩
  rw [← hq, ← hm] at D
  rw [← hq] at QL
  rw [← hq] at hr
  have HR := Lib.hid hr
  clear hr hq hm la lb lc h0
  go_enter Try.func23, Try.ntmps23
  go_wp2_with fail
  refine ca.mono ?_
  rintro e1 w9 ⟨rfl, rfl⟩
  go_wp2_with fail
  refine cb.mono ?_
  rintro e1 w9 ⟨rfl, rfl⟩
  go_wp2_with fail
  refine cc.mono ?_
  rintro e1 w9 ⟨rfl, rfl⟩
  go_wp2_with fail
  refine D.mono ?_
  rintro e1 w1 ⟨a1, n1, c1, rfl, y1, hb⟩
  clear D
  go_wp2_with fail
  have cc := told_any w1 y1 (by have := QL.out; omega)
  rw [← HR.out] at cc
  refine cc.mono ?_
  rintro e1 w2 ⟨rfl, hb2⟩
  go_wp2_with fail
  go_ret2
  exact ⟨rfl, hb.trans (hb2.mono hb.size)⟩

end Go.Proofs.Ytfcejgeckcoefaa
