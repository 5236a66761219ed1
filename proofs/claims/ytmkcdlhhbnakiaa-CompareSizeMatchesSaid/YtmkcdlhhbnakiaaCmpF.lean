/- Check of comparison audits in the answer. -/
import Derived.Test.YtmkcdlhhbnakiaaCmpE
namespace Go.Proofs.Ytmkcdlhhbnakiaa
open Go.RowKit Go.Suf
set_option linter.unusedVariables false
set_option linter.unusedSimpArgs false

/-- Whether the first k counts are in range. -/
def okK (q : CV) : Nat → Bool
  | 0 => true
  | k + 1 => okK q k && decide (inS (seenN q k))

theorem okK_step (q : CV) (k : Nat) : okK q (k + 1) = (okK q k && decide (inS (seenN q k))) := rfl

theorem okK_five (q : CV) : okK q 5 = seenOkC q := by
  show ((((true && decide (inS q.s0)) && decide (inS q.s1)) && decide (inS q.s2)) && decide (inS q.s3) && decide (inS q.s4)) = _
  unfold seenOkC
  by_cases h0 : inS q.s0 <;> by_cases h1 : inS q.s1 <;> by_cases h2 : inS q.s2 <;> by_cases h3 : inS q.s3 <;> by_cases h4 : inS q.s4 <;> simp [h0, h1, h2, h3, h4]

theorem chkC_no' {q : CV} (h : ¬ (mayC q.bet q.ballots q.margin ∧ seenOkC q = true ∧ leC q.lev q.best = true ∧ leC [0, 0, 1] q.best = true ∧ leC q.best [0, 0, 0, 0, 1] = true)) : chkC q = 8 := by
  unfold chkC
  rw [if_neg h]

set_option maxRecDepth 100000 in
set_option maxHeartbeats 8000000 in
theorem refCmCheck_any (w : World) {q : CV} {a b : Option Addr} {n m c d : Nat} (h1 : Rd .u32 w a n c q.lev) (h2 : Rd .u32 w b m d q.best) (hw : CW q) :
    Calls Try.prog 25 #[cmV q a n c b m d] w (RetIB w (chkC q)) := by
  obtain ⟨r, hr⟩ : ∃ r, r = chkC q := ⟨_, rfl⟩
  rw [← hr]
  have HR := Lib.hid hr
  clear hr
  have L1 := Has.new w (cmC q a n c b m d) 25
  have q1 := h1.below L1.below
  have q2 := h2.below L1.below
  clear h1 h2
  by_cases hm : mayC q.bet q.ballots q.margin
  case neg =>
    have e := Lib.hid (show r = 8 by rw [HR.out]; exact chkC_no' (fun h => hm h.1))
    have MY := Lib.hid (show decide (mayC q.bet q.ballots q.margin) = false from decide_eq_false hm)
    clear hm
    go_enter Try.func25, Try.ntmps25
    go_wp2_with fail
    have LD := L1
    have hb := (Below.refl (w.alloc (.cells (cmC q a n c b m d) 25)).heap.size (w.alloc (.cells (cmC q a n c b m d) 25))).drew
    have LD := LD.later hb
    have q1 := q1.below hb
    have q2 := q2.below hb
    clear hb
    refine wp_region_held_drew (S := (fun w' => w'.cell? ⟨w.heap.size, 0, none⟩ = some (.int .i64 q.bet) ∧ w'.cell? ⟨w.heap.size, 1, none⟩ = some (.int .i64 q.ballots) ∧ w'.cell? ⟨w.heap.size, 2, none⟩ = some (.int .i64 q.margin) ∧ w'.cell? ⟨w.heap.size, 8, none⟩ = some (.slice a n c) ∧ w'.cell? ⟨w.heap.size, 9, none⟩ = some (.slice b m d))) (by kernel_rfl) ?_ (fun hHeld => ?_)
    · exact ⟨LD.cell 0 _ rfl, LD.cell 1 _ rfl, LD.cell 2 _ rfl, LD.cell 8 _ rfl, LD.cell 9 _ rfl⟩
    generalize (w.alloc (.cells (cmC q a n c b m d) 25)).drew = WD at *
    refine wpAnyH_take (i := 0) (oi := ?a1_0) (v := ?b1_0) ?c1_0 (by kernel_rfl) (by kernel_rfl) (by kernel_rfl) ?d1_0 ?e1_0 (by assumption) ?f1_0
    case c1_0 => simp only [tA, tS, tZ]; rfl
    case d1_0 => exact fun _ _ _ h => h
    case e1_0 => (refine Or.inl ⟨by rfl, ?_⟩; intro w h; (try dsimp only at h); go_simp; all_goals with_reducible rfl)
    try simp only [Act.put, tI, tP, tQ]
    refine wpAnyH_take (i := 1) (oi := ?a1_1) (v := ?b1_1) ?c1_1 (by kernel_rfl) (by kernel_rfl) (by kernel_rfl) ?d1_1 ?e1_1 (by assumption) ?f1_1
    case c1_1 => simp only [tA, tS, tZ]; rfl
    case d1_1 => exact fun _ _ _ h => h
    case e1_1 => (refine Or.inl ⟨by rfl, ?_⟩; intro w h; (try dsimp only at h); go_simp; all_goals with_reducible rfl)
    try simp only [Act.put, tI, tP, tQ]
    refine wpAnyH_take (i := 2) (oi := ?a1_2) (v := ?b1_2) ?c1_2 (by kernel_rfl) (by kernel_rfl) (by kernel_rfl) ?d1_2 ?e1_2 (by assumption) ?f1_2
    case c1_2 => simp only [tA, tS, tZ]; rfl
    case d1_2 => exact fun _ _ _ h => h
    case e1_2 => (refine Or.inl ⟨by rfl, ?_⟩; intro w h; (try dsimp only at h); go_simp; all_goals with_reducible rfl)
    try simp only [Act.put, tI, tP, tQ]
    refine wpAnyH_take (i := 3) (oi := ?a1_3) (v := ?b1_3) ?c1_3 (by kernel_rfl) (by kernel_rfl) (by kernel_rfl) ?d1_3 ?e1_3 (by assumption) ?f1_3
    case c1_3 => simp only [tA, tS, tZ]; rfl
    case d1_3 => exact fun _ _ _ h => h
    case e1_3 => (refine Or.inl ⟨by rfl, ?_⟩; intro w h; (try dsimp only at h); go_simp; all_goals with_reducible rfl)
    try simp only [Act.put, tI, tP, tQ]
    refine wpAnyH_take (i := 4) (oi := ?a1_4) (v := ?b1_4) ?c1_4 (by kernel_rfl) (by kernel_rfl) (by kernel_rfl) ?d1_4 ?e1_4 (by assumption) ?f1_4
    case c1_4 => simp only [tA, tS, tZ]; rfl
    case d1_4 => exact fun _ _ _ h => h
    case e1_4 => (refine Or.inl ⟨by rfl, ?_⟩; intro w h; (try dsimp only at h); go_simp; all_goals with_reducible rfl)
    try simp only [Act.put, tI, tP, tQ]
    refine wpAnyH_take (i := 5) (oi := ?a1_5) (v := ?b1_5) ?c1_5 (by kernel_rfl) (by kernel_rfl) (by kernel_rfl) ?d1_5 ?e1_5 (by assumption) ?f1_5
    case c1_5 => simp only [tA, tS, tZ]; rfl
    case d1_5 => exact fun _ _ _ h => h
    case e1_5 => (refine Or.inl ⟨by rfl, ?_⟩; intro w h; (try dsimp only at h); go_simp; all_goals with_reducible rfl)
    try simp only [Act.put, tI, tP, tQ]
    refine wpAnyH_ready (rs := [6]) (by kernel_rfl) (by simp) ?_
    refine AllReadyH.cons (o := ?or2_6) ?hor2_6 (fun K hK => ?kr2_6) AllReadyH.nil
    case hor2_6 => simp only [List.getElem?_toArray, List.getElem?_cons_succ, List.getElem?_cons_zero]; rfl
    go_simp
    have cc := may_any WD q.bet q.ballots q.margin
    rw [MY.out] at cc
    refine cc.mono ?_
    rintro e2 wq ⟨rfl, hw⟩
    have hw := hw.symm
    subst hw
    clear cc
    go_wp2_with fail
    refine hK.out _ _ ?_ (fun hHeld => ?_)
    · exact ⟨LD.cell 0 _ rfl, LD.cell 1 _ rfl, LD.cell 2 _ rfl, LD.cell 8 _ rfl, LD.cell 9 _ rfl⟩
    clear hK K
    try simp only [Act.put, List.setIfInBounds_toArray, List.set_cons_zero, List.set_cons_succ]
    refine wpAnyH_take (i := 7) (oi := ?a3_7) (v := ?b3_7) ?c3_7 (by kernel_rfl) (by kernel_rfl) (by kernel_rfl) ?d3_7 ?e3_7 (by assumption) ?f3_7
    case c3_7 => simp only [tA, tS, tZ]; rfl
    case d3_7 => exact fun _ _ _ h => h
    case e3_7 => (refine Or.inl ⟨by rfl, ?_⟩; intro w h; (try dsimp only at h); go_simp; all_goals with_reducible rfl)
    try simp only [Act.put, tI, tP, tQ]
    refine wpAnyH_take (i := 8) (oi := ?oir4_8) (v := undef) ?hir4_8 (by kernel_rfl) (by kernel_rfl) (by kernel_rfl) ?hqr4_8 ?hyr4_8 (by assumption) ?restr4_8
    case hir4_8 => simp only [List.getElem?_toArray, List.getElem?_cons_succ, List.getElem?_cons_zero]; rfl
    case hqr4_8 => exact fun _ _ _ h => h
    case hyr4_8 => exact Or.inr ⟨by rfl, rfl⟩
    try simp only [Act.put, List.setIfInBounds_toArray, List.set_cons_zero, List.set_cons_succ]
    refine wpAnyH_take (i := 9) (oi := ?oir4_9) (v := undef) ?hir4_9 (by kernel_rfl) (by kernel_rfl) (by kernel_rfl) ?hqr4_9 ?hyr4_9 (by assumption) ?restr4_9
    case hir4_9 => simp only [List.getElem?_toArray, List.getElem?_cons_succ, List.getElem?_cons_zero]; rfl
    case hqr4_9 => exact fun _ _ _ h => h
    case hyr4_9 => exact Or.inr ⟨by rfl, rfl⟩
    try simp only [Act.put, List.setIfInBounds_toArray, List.set_cons_zero, List.set_cons_succ]
    refine wpAnyH_take (i := 10) (oi := ?oir4_10) (v := undef) ?hir4_10 (by kernel_rfl) (by kernel_rfl) (by kernel_rfl) ?hqr4_10 ?hyr4_10 (by assumption) ?restr4_10
    case hir4_10 => simp only [List.getElem?_toArray, List.getElem?_cons_succ, List.getElem?_cons_zero]; rfl
    case hqr4_10 => exact fun _ _ _ h => h
    case hyr4_10 => exact Or.inr ⟨by rfl, rfl⟩
    try simp only [Act.put, List.setIfInBounds_toArray, List.set_cons_zero, List.set_cons_succ]
    refine wpAnyH_take (i := 11) (oi := ?oir4_11) (v := undef) ?hir4_11 (by kernel_rfl) (by kernel_rfl) (by kernel_rfl) ?hqr4_11 ?hyr4_11 (by assumption) ?restr4_11
    case hir4_11 => simp only [List.getElem?_toArray, List.getElem?_cons_succ, List.getElem?_cons_zero]; rfl
    case hqr4_11 => exact fun _ _ _ h => h
    case hyr4_11 => exact Or.inr ⟨by rfl, rfl⟩
    try simp only [Act.put, List.setIfInBounds_toArray, List.set_cons_zero, List.set_cons_succ]
    refine wpAnyH_take (i := 12) (oi := ?oir4_12) (v := undef) ?hir4_12 (by kernel_rfl) (by kernel_rfl) (by kernel_rfl) ?hqr4_12 ?hyr4_12 (by assumption) ?restr4_12
    case hir4_12 => simp only [List.getElem?_toArray, List.getElem?_cons_succ, List.getElem?_cons_zero]; rfl
    case hqr4_12 => exact fun _ _ _ h => h
    case hyr4_12 => exact Or.inr ⟨by rfl, rfl⟩
    try simp only [Act.put, List.setIfInBounds_toArray, List.set_cons_zero, List.set_cons_succ]
    refine wpAnyH_take (i := 13) (oi := ?a4_13) (v := ?b4_13) ?c4_13 (by kernel_rfl) (by kernel_rfl) (by kernel_rfl) ?d4_13 ?e4_13 (by assumption) ?f4_13
    case c4_13 => simp only [tA, tS, tZ]; rfl
    case d4_13 => exact fun _ _ _ h => h
    case e4_13 => (refine Or.inl ⟨by rfl, ?_⟩; intro w h; (try dsimp only at h); go_simp; all_goals with_reducible rfl)
    try simp only [Act.put, tI, tP, tQ]
    refine wpAnyH_take (i := 14) (oi := ?a4_14) (v := ?b4_14) ?c4_14 (by kernel_rfl) (by kernel_rfl) (by kernel_rfl) ?d4_14 ?e4_14 (by assumption) ?f4_14
    case c4_14 => simp only [tA, tS, tZ]; rfl
    case d4_14 => exact fun _ _ _ h => h
    case e4_14 => (refine Or.inl ⟨by rfl, ?_⟩; intro w h; (try dsimp only at h); go_simp; all_goals with_reducible rfl)
    try simp only [Act.put, tI, tP, tQ]
    refine wpAnyH_take (i := 15) (oi := ?oir4_15) (v := undef) ?hir4_15 (by kernel_rfl) (by kernel_rfl) (by kernel_rfl) ?hqr4_15 ?hyr4_15 (by assumption) ?restr4_15
    case hir4_15 => simp only [List.getElem?_toArray, List.getElem?_cons_succ, List.getElem?_cons_zero]; rfl
    case hqr4_15 => exact fun _ _ _ h => h
    case hyr4_15 => exact Or.inr ⟨by rfl, rfl⟩
    try simp only [Act.put, List.setIfInBounds_toArray, List.set_cons_zero, List.set_cons_succ]
    refine wpAnyH_take (i := 16) (oi := ?oir4_16) (v := undef) ?hir4_16 (by kernel_rfl) (by kernel_rfl) (by kernel_rfl) ?hqr4_16 ?hyr4_16 (by assumption) ?restr4_16
    case hir4_16 => simp only [List.getElem?_toArray, List.getElem?_cons_succ, List.getElem?_cons_zero]; rfl
    case hqr4_16 => exact fun _ _ _ h => h
    case hyr4_16 => exact Or.inr ⟨by rfl, rfl⟩
    try simp only [Act.put, List.setIfInBounds_toArray, List.set_cons_zero, List.set_cons_succ]
    refine wpAnyH_take (i := 17) (oi := ?oir4_17) (v := undef) ?hir4_17 (by kernel_rfl) (by kernel_rfl) (by kernel_rfl) ?hqr4_17 ?hyr4_17 (by assumption) ?restr4_17
    case hir4_17 => simp only [List.getElem?_toArray, List.getElem?_cons_succ, List.getElem?_cons_zero]; rfl
    case hqr4_17 => exact fun _ _ _ h => h
    case hyr4_17 => exact Or.inr ⟨by rfl, rfl⟩
    try simp only [Act.put, List.setIfInBounds_toArray, List.set_cons_zero, List.set_cons_succ]
    refine wpAnyH_take (i := 18) (oi := ?oir4_18) (v := undef) ?hir4_18 (by kernel_rfl) (by kernel_rfl) (by kernel_rfl) ?hqr4_18 ?hyr4_18 (by assumption) ?restr4_18
    case hir4_18 => simp only [List.getElem?_toArray, List.getElem?_cons_succ, List.getElem?_cons_zero]; rfl
    case hqr4_18 => exact fun _ _ _ h => h
    case hyr4_18 => exact Or.inr ⟨by rfl, rfl⟩
    try simp only [Act.put, List.setIfInBounds_toArray, List.set_cons_zero, List.set_cons_succ]
    refine wpAnyH_take (i := 19) (oi := ?a4_19) (v := ?b4_19) ?c4_19 (by kernel_rfl) (by kernel_rfl) (by kernel_rfl) ?d4_19 ?e4_19 (by assumption) ?f4_19
    case c4_19 => simp only [tA, tS, tZ]; rfl
    case d4_19 => exact fun _ _ _ h => h
    case e4_19 => (refine Or.inl ⟨by rfl, ?_⟩; intro w h; (try dsimp only at h); go_simp; all_goals with_reducible rfl)
    try simp only [Act.put, tI, tP, tQ]
    refine wpAnyH_take (i := 20) (oi := ?a4_20) (v := ?b4_20) ?c4_20 (by kernel_rfl) (by kernel_rfl) (by kernel_rfl) ?d4_20 ?e4_20 (by assumption) ?f4_20
    case c4_20 => simp only [tA, tS, tZ]; rfl
    case d4_20 => exact fun _ _ _ h => h
    case e4_20 => (refine Or.inl ⟨by rfl, ?_⟩; intro w h; (try dsimp only at h); go_simp; all_goals with_reducible rfl)
    try simp only [Act.put, tI, tP, tQ]
    refine wpAnyH_take (i := 21) (oi := ?oir4_21) (v := undef) ?hir4_21 (by kernel_rfl) (by kernel_rfl) (by kernel_rfl) ?hqr4_21 ?hyr4_21 (by assumption) ?restr4_21
    case hir4_21 => simp only [List.getElem?_toArray, List.getElem?_cons_succ, List.getElem?_cons_zero]; rfl
    case hqr4_21 => exact fun _ _ _ h => h
    case hyr4_21 => exact Or.inr ⟨by rfl, rfl⟩
    try simp only [Act.put, List.setIfInBounds_toArray, List.set_cons_zero, List.set_cons_succ]
    refine wpAnyH_take (i := 22) (oi := ?oir4_22) (v := undef) ?hir4_22 (by kernel_rfl) (by kernel_rfl) (by kernel_rfl) ?hqr4_22 ?hyr4_22 (by assumption) ?restr4_22
    case hir4_22 => simp only [List.getElem?_toArray, List.getElem?_cons_succ, List.getElem?_cons_zero]; rfl
    case hqr4_22 => exact fun _ _ _ h => h
    case hyr4_22 => exact Or.inr ⟨by rfl, rfl⟩
    try simp only [Act.put, List.setIfInBounds_toArray, List.set_cons_zero, List.set_cons_succ]
    refine wpAnyH_take (i := 23) (oi := ?oir4_23) (v := undef) ?hir4_23 (by kernel_rfl) (by kernel_rfl) (by kernel_rfl) ?hqr4_23 ?hyr4_23 (by assumption) ?restr4_23
    case hir4_23 => simp only [List.getElem?_toArray, List.getElem?_cons_succ, List.getElem?_cons_zero]; rfl
    case hqr4_23 => exact fun _ _ _ h => h
    case hyr4_23 => exact Or.inr ⟨by rfl, rfl⟩
    try simp only [Act.put, List.setIfInBounds_toArray, List.set_cons_zero, List.set_cons_succ]
    refine wpAnyH_take (i := 24) (oi := ?oir4_24) (v := undef) ?hir4_24 (by kernel_rfl) (by kernel_rfl) (by kernel_rfl) ?hqr4_24 ?hyr4_24 (by assumption) ?restr4_24
    case hir4_24 => simp only [List.getElem?_toArray, List.getElem?_cons_succ, List.getElem?_cons_zero]; rfl
    case hqr4_24 => exact fun _ _ _ h => h
    case hyr4_24 => exact Or.inr ⟨by rfl, rfl⟩
    try simp only [Act.put, List.setIfInBounds_toArray, List.set_cons_zero, List.set_cons_succ]
    refine wpAnyH_take (i := 25) (oi := ?a4_25) (v := ?b4_25) ?c4_25 (by kernel_rfl) (by kernel_rfl) (by kernel_rfl) ?d4_25 ?e4_25 (by assumption) ?f4_25
    case c4_25 => simp only [tA, tS, tZ]; rfl
    case d4_25 => exact fun _ _ _ h => h
    case e4_25 => (refine Or.inl ⟨by rfl, ?_⟩; intro w h; (try dsimp only at h); go_simp; all_goals with_reducible rfl)
    try simp only [Act.put, tI, tP, tQ]
    refine wpAnyH_take (i := 26) (oi := ?a4_26) (v := ?b4_26) ?c4_26 (by kernel_rfl) (by kernel_rfl) (by kernel_rfl) ?d4_26 ?e4_26 (by assumption) ?f4_26
    case c4_26 => simp only [tA, tS, tZ]; rfl
    case d4_26 => exact fun _ _ _ h => h
    case e4_26 => (refine Or.inl ⟨by rfl, ?_⟩; intro w h; (try dsimp only at h); go_simp; all_goals with_reducible rfl)
    try simp only [Act.put, tI, tP, tQ]
    refine wpAnyH_done (by kernel_rfl) ?_ _
    rename World => W
    clear hHeld
    have k3 := LD.cell 3 _ rfl
    have k4 := LD.cell 4 _ rfl
    have k5 := LD.cell 5 _ rfl
    have k6 := LD.cell 6 _ rfl
    have k7 := LD.cell 7 _ rfl
    have HB := Lib.hid LD.below
    go_wp2_with fail
    go_loopw [3, 4] (fun o i wr => ∃ (k : Nat), k ≤ 5 ∧ i = .int .i64 (k : Nat) ∧ o = .bool false ∧ wr = W) (fun _ i _ => 5 - (intOf i).toNat)
    case atStart => exact ⟨0, by omega, rfl, rfl, rfl⟩
    case round =>
      obtain ⟨k, hk, rfl, rfl, hW⟩ := hrel
      have hW := hW.symm
      subst hW
      by_cases hlt : k < 5
      · go_wp2_with fail
        go_roundw
        case rel => exact ⟨k + 1, by omega, by go_num, by first | rfl | trivial, by first | rfl | trivial⟩
        case measure => simp [intOf]; omega
      · obtain rfl : k = 5 := by omega
        go_wp2_with fail
        go_ret
        exact ⟨by rw [e.out]; rfl, HB.out⟩
  case pos =>
  cases c1 : leC q.lev q.best
  case false =>
    have MY := Lib.hid (show decide (mayC q.bet q.ballots q.margin) = true from decide_eq_true hm)
    have e := Lib.hid (show r = 8 by rw [HR.out]; exact chkC_no' (fun h => by have := h.2.2.1; rw [c1] at this; simp at this))
    have E1 := Lib.hid c1
    clear hm c1
    go_enter Try.func25, Try.ntmps25
    go_wp2_with fail
    have LD := L1
    have hb := (Below.refl (w.alloc (.cells (cmC q a n c b m d) 25)).heap.size (w.alloc (.cells (cmC q a n c b m d) 25))).drew
    have LD := LD.later hb
    have q1 := q1.below hb
    have q2 := q2.below hb
    clear hb
    refine wp_region_held_drew (S := (fun w' => w'.cell? ⟨w.heap.size, 0, none⟩ = some (.int .i64 q.bet) ∧ w'.cell? ⟨w.heap.size, 1, none⟩ = some (.int .i64 q.ballots) ∧ w'.cell? ⟨w.heap.size, 2, none⟩ = some (.int .i64 q.margin) ∧ w'.cell? ⟨w.heap.size, 8, none⟩ = some (.slice a n c) ∧ w'.cell? ⟨w.heap.size, 9, none⟩ = some (.slice b m d))) (by kernel_rfl) ?_ (fun hHeld => ?_)
    · exact ⟨LD.cell 0 _ rfl, LD.cell 1 _ rfl, LD.cell 2 _ rfl, LD.cell 8 _ rfl, LD.cell 9 _ rfl⟩
    generalize (w.alloc (.cells (cmC q a n c b m d) 25)).drew = WD at *
    refine wpAnyH_take (i := 0) (oi := ?a5_0) (v := ?b5_0) ?c5_0 (by kernel_rfl) (by kernel_rfl) (by kernel_rfl) ?d5_0 ?e5_0 (by assumption) ?f5_0
    case c5_0 => simp only [tA, tS, tZ]; rfl
    case d5_0 => exact fun _ _ _ h => h
    case e5_0 => (refine Or.inl ⟨by rfl, ?_⟩; intro w h; (try dsimp only at h); go_simp; all_goals with_reducible rfl)
    try simp only [Act.put, tI, tP, tQ]
    refine wpAnyH_take (i := 1) (oi := ?a5_1) (v := ?b5_1) ?c5_1 (by kernel_rfl) (by kernel_rfl) (by kernel_rfl) ?d5_1 ?e5_1 (by assumption) ?f5_1
    case c5_1 => simp only [tA, tS, tZ]; rfl
    case d5_1 => exact fun _ _ _ h => h
    case e5_1 => (refine Or.inl ⟨by rfl, ?_⟩; intro w h; (try dsimp only at h); go_simp; all_goals with_reducible rfl)
    try simp only [Act.put, tI, tP, tQ]
    refine wpAnyH_take (i := 2) (oi := ?a5_2) (v := ?b5_2) ?c5_2 (by kernel_rfl) (by kernel_rfl) (by kernel_rfl) ?d5_2 ?e5_2 (by assumption) ?f5_2
    case c5_2 => simp only [tA, tS, tZ]; rfl
    case d5_2 => exact fun _ _ _ h => h
    case e5_2 => (refine Or.inl ⟨by rfl, ?_⟩; intro w h; (try dsimp only at h); go_simp; all_goals with_reducible rfl)
    try simp only [Act.put, tI, tP, tQ]
    refine wpAnyH_take (i := 3) (oi := ?a5_3) (v := ?b5_3) ?c5_3 (by kernel_rfl) (by kernel_rfl) (by kernel_rfl) ?d5_3 ?e5_3 (by assumption) ?f5_3
    case c5_3 => simp only [tA, tS, tZ]; rfl
    case d5_3 => exact fun _ _ _ h => h
    case e5_3 => (refine Or.inl ⟨by rfl, ?_⟩; intro w h; (try dsimp only at h); go_simp; all_goals with_reducible rfl)
    try simp only [Act.put, tI, tP, tQ]
    refine wpAnyH_take (i := 4) (oi := ?a5_4) (v := ?b5_4) ?c5_4 (by kernel_rfl) (by kernel_rfl) (by kernel_rfl) ?d5_4 ?e5_4 (by assumption) ?f5_4
    case c5_4 => simp only [tA, tS, tZ]; rfl
    case d5_4 => exact fun _ _ _ h => h
    case e5_4 => (refine Or.inl ⟨by rfl, ?_⟩; intro w h; (try dsimp only at h); go_simp; all_goals with_reducible rfl)
    try simp only [Act.put, tI, tP, tQ]
    refine wpAnyH_take (i := 5) (oi := ?a5_5) (v := ?b5_5) ?c5_5 (by kernel_rfl) (by kernel_rfl) (by kernel_rfl) ?d5_5 ?e5_5 (by assumption) ?f5_5
    case c5_5 => simp only [tA, tS, tZ]; rfl
    case d5_5 => exact fun _ _ _ h => h
    case e5_5 => (refine Or.inl ⟨by rfl, ?_⟩; intro w h; (try dsimp only at h); go_simp; all_goals with_reducible rfl)
    try simp only [Act.put, tI, tP, tQ]
    refine wpAnyH_ready (rs := [6]) (by kernel_rfl) (by simp) ?_
    refine AllReadyH.cons (o := ?or6_6) ?hor6_6 (fun K hK => ?kr6_6) AllReadyH.nil
    case hor6_6 => simp only [List.getElem?_toArray, List.getElem?_cons_succ, List.getElem?_cons_zero]; rfl
    go_simp
    have cc := may_any WD q.bet q.ballots q.margin
    rw [MY.out] at cc
    refine cc.mono ?_
    rintro e2 wq ⟨rfl, hw⟩
    have hw := hw.symm
    subst hw
    clear cc
    go_wp2_with fail
    refine hK.out _ _ ?_ (fun hHeld => ?_)
    · exact ⟨LD.cell 0 _ rfl, LD.cell 1 _ rfl, LD.cell 2 _ rfl, LD.cell 8 _ rfl, LD.cell 9 _ rfl⟩
    clear hK K
    try simp only [Act.put, List.setIfInBounds_toArray, List.set_cons_zero, List.set_cons_succ]
    refine wpAnyH_take (i := 7) (oi := ?a7_7) (v := ?b7_7) ?c7_7 (by kernel_rfl) (by kernel_rfl) (by kernel_rfl) ?d7_7 ?e7_7 (by assumption) ?f7_7
    case c7_7 => simp only [tA, tS, tZ]; rfl
    case d7_7 => exact fun _ _ _ h => h
    case e7_7 => (refine Or.inl ⟨by rfl, ?_⟩; intro w h; (try dsimp only at h); go_simp; all_goals with_reducible rfl)
    try simp only [Act.put, tI, tP, tQ]
    refine wpAnyH_take (i := 8) (oi := ?a8_8) (v := ?b8_8) ?c8_8 (by kernel_rfl) (by kernel_rfl) (by kernel_rfl) ?d8_8 ?e8_8 (by assumption) ?f8_8
    case c8_8 => simp only [tA, tS, tZ]; rfl
    case d8_8 => exact fun _ _ _ h => h
    case e8_8 => (refine Or.inl ⟨by rfl, ?_⟩; intro w h; (try dsimp only at h); go_simp; all_goals with_reducible rfl)
    try simp only [Act.put, tI, tP, tQ]
    refine wpAnyH_take (i := 9) (oi := ?a8_9) (v := ?b8_9) ?c8_9 (by kernel_rfl) (by kernel_rfl) (by kernel_rfl) ?d8_9 ?e8_9 (by assumption) ?f8_9
    case c8_9 => simp only [tA, tS, tZ]; rfl
    case d8_9 => exact fun _ _ _ h => h
    case e8_9 => (refine Or.inl ⟨by rfl, ?_⟩; intro w h; (try dsimp only at h); go_simp; all_goals with_reducible rfl)
    try simp only [Act.put, tI, tP, tQ]
    refine wpAnyH_take (i := 10) (oi := ?a8_10) (v := ?b8_10) ?c8_10 (by kernel_rfl) (by kernel_rfl) (by kernel_rfl) ?d8_10 ?e8_10 (by assumption) ?f8_10
    case c8_10 => simp only [tA, tS, tZ]; rfl
    case d8_10 => exact fun _ _ _ h => h
    case e8_10 => (refine Or.inl ⟨by rfl, ?_⟩; intro w h; (try dsimp only at h); go_simp; all_goals with_reducible rfl)
    try simp only [Act.put, tI, tP, tQ]
    refine wpAnyH_take (i := 11) (oi := ?a8_11) (v := ?b8_11) ?c8_11 (by kernel_rfl) (by kernel_rfl) (by kernel_rfl) ?d8_11 ?e8_11 (by assumption) ?f8_11
    case c8_11 => simp only [tA, tS, tZ]; rfl
    case d8_11 => exact fun _ _ _ h => h
    case e8_11 => (refine Or.inl ⟨by rfl, ?_⟩; intro w h; (try dsimp only at h); go_simp; all_goals with_reducible rfl)
    try simp only [Act.put, tI, tP, tQ]
    refine wpAnyH_ready (rs := [12]) (by kernel_rfl) (by simp) ?_
    refine AllReadyH.cons (o := ?or9_12) ?hor9_12 (fun K hK => ?kr9_12) AllReadyH.nil
    case hor9_12 => simp only [List.getElem?_toArray, List.getElem?_cons_succ, List.getElem?_cons_zero]; rfl
    go_simp
    have cc := refAtMost_any _ q1 q2
    rw [E1.out] at cc
    refine cc.mono ?_
    rintro e2 wq ⟨rfl, hb⟩
    clear cc
    have LD := LD.later hb
    have q1 := q1.below hb
    have q2 := q2.below hb
    clear hb
    go_wp2_with fail
    refine hK.out _ _ ?_ (fun hHeld => ?_)
    · exact ⟨LD.cell 0 _ rfl, LD.cell 1 _ rfl, LD.cell 2 _ rfl, LD.cell 8 _ rfl, LD.cell 9 _ rfl⟩
    clear hK K
    try simp only [Act.put, List.setIfInBounds_toArray, List.set_cons_zero, List.set_cons_succ]
    refine wpAnyH_take (i := 13) (oi := ?a10_13) (v := ?b10_13) ?c10_13 (by kernel_rfl) (by kernel_rfl) (by kernel_rfl) ?d10_13 ?e10_13 (by assumption) ?f10_13
    case c10_13 => simp only [tA, tS, tZ]; rfl
    case d10_13 => exact fun _ _ _ h => h
    case e10_13 => (refine Or.inl ⟨by rfl, ?_⟩; intro w h; (try dsimp only at h); go_simp; all_goals with_reducible rfl)
    try simp only [Act.put, tI, tP, tQ]
    refine wpAnyH_take (i := 14) (oi := ?a10_14) (v := ?b10_14) ?c10_14 (by kernel_rfl) (by kernel_rfl) (by kernel_rfl) ?d10_14 ?e10_14 (by assumption) ?f10_14
    case c10_14 => simp only [tA, tS, tZ]; rfl
    case d10_14 => exact fun _ _ _ h => h
    case e10_14 => (refine Or.inl ⟨by rfl, ?_⟩; intro w h; (try dsimp only at h); go_simp; all_goals with_reducible rfl)
    try simp only [Act.put, tI, tP, tQ]
    refine wpAnyH_take (i := 15) (oi := ?oir11_15) (v := undef) ?hir11_15 (by kernel_rfl) (by kernel_rfl) (by kernel_rfl) ?hqr11_15 ?hyr11_15 (by assumption) ?restr11_15
    case hir11_15 => simp only [List.getElem?_toArray, List.getElem?_cons_succ, List.getElem?_cons_zero]; rfl
    case hqr11_15 => exact fun _ _ _ h => h
    case hyr11_15 => exact Or.inr ⟨by rfl, rfl⟩
    try simp only [Act.put, List.setIfInBounds_toArray, List.set_cons_zero, List.set_cons_succ]
    refine wpAnyH_take (i := 16) (oi := ?oir11_16) (v := undef) ?hir11_16 (by kernel_rfl) (by kernel_rfl) (by kernel_rfl) ?hqr11_16 ?hyr11_16 (by assumption) ?restr11_16
    case hir11_16 => simp only [List.getElem?_toArray, List.getElem?_cons_succ, List.getElem?_cons_zero]; rfl
    case hqr11_16 => exact fun _ _ _ h => h
    case hyr11_16 => exact Or.inr ⟨by rfl, rfl⟩
    try simp only [Act.put, List.setIfInBounds_toArray, List.set_cons_zero, List.set_cons_succ]
    refine wpAnyH_take (i := 17) (oi := ?oir11_17) (v := undef) ?hir11_17 (by kernel_rfl) (by kernel_rfl) (by kernel_rfl) ?hqr11_17 ?hyr11_17 (by assumption) ?restr11_17
    case hir11_17 => simp only [List.getElem?_toArray, List.getElem?_cons_succ, List.getElem?_cons_zero]; rfl
    case hqr11_17 => exact fun _ _ _ h => h
    case hyr11_17 => exact Or.inr ⟨by rfl, rfl⟩
    try simp only [Act.put, List.setIfInBounds_toArray, List.set_cons_zero, List.set_cons_succ]
    refine wpAnyH_take (i := 18) (oi := ?oir11_18) (v := undef) ?hir11_18 (by kernel_rfl) (by kernel_rfl) (by kernel_rfl) ?hqr11_18 ?hyr11_18 (by assumption) ?restr11_18
    case hir11_18 => simp only [List.getElem?_toArray, List.getElem?_cons_succ, List.getElem?_cons_zero]; rfl
    case hqr11_18 => exact fun _ _ _ h => h
    case hyr11_18 => exact Or.inr ⟨by rfl, rfl⟩
    try simp only [Act.put, List.setIfInBounds_toArray, List.set_cons_zero, List.set_cons_succ]
    refine wpAnyH_take (i := 19) (oi := ?a11_19) (v := ?b11_19) ?c11_19 (by kernel_rfl) (by kernel_rfl) (by kernel_rfl) ?d11_19 ?e11_19 (by assumption) ?f11_19
    case c11_19 => simp only [tA, tS, tZ]; rfl
    case d11_19 => exact fun _ _ _ h => h
    case e11_19 => (refine Or.inl ⟨by rfl, ?_⟩; intro w h; (try dsimp only at h); go_simp; all_goals with_reducible rfl)
    try simp only [Act.put, tI, tP, tQ]
    refine wpAnyH_take (i := 20) (oi := ?a11_20) (v := ?b11_20) ?c11_20 (by kernel_rfl) (by kernel_rfl) (by kernel_rfl) ?d11_20 ?e11_20 (by assumption) ?f11_20
    case c11_20 => simp only [tA, tS, tZ]; rfl
    case d11_20 => exact fun _ _ _ h => h
    case e11_20 => (refine Or.inl ⟨by rfl, ?_⟩; intro w h; (try dsimp only at h); go_simp; all_goals with_reducible rfl)
    try simp only [Act.put, tI, tP, tQ]
    refine wpAnyH_take (i := 21) (oi := ?oir11_21) (v := undef) ?hir11_21 (by kernel_rfl) (by kernel_rfl) (by kernel_rfl) ?hqr11_21 ?hyr11_21 (by assumption) ?restr11_21
    case hir11_21 => simp only [List.getElem?_toArray, List.getElem?_cons_succ, List.getElem?_cons_zero]; rfl
    case hqr11_21 => exact fun _ _ _ h => h
    case hyr11_21 => exact Or.inr ⟨by rfl, rfl⟩
    try simp only [Act.put, List.setIfInBounds_toArray, List.set_cons_zero, List.set_cons_succ]
    refine wpAnyH_take (i := 22) (oi := ?oir11_22) (v := undef) ?hir11_22 (by kernel_rfl) (by kernel_rfl) (by kernel_rfl) ?hqr11_22 ?hyr11_22 (by assumption) ?restr11_22
    case hir11_22 => simp only [List.getElem?_toArray, List.getElem?_cons_succ, List.getElem?_cons_zero]; rfl
    case hqr11_22 => exact fun _ _ _ h => h
    case hyr11_22 => exact Or.inr ⟨by rfl, rfl⟩
    try simp only [Act.put, List.setIfInBounds_toArray, List.set_cons_zero, List.set_cons_succ]
    refine wpAnyH_take (i := 23) (oi := ?oir11_23) (v := undef) ?hir11_23 (by kernel_rfl) (by kernel_rfl) (by kernel_rfl) ?hqr11_23 ?hyr11_23 (by assumption) ?restr11_23
    case hir11_23 => simp only [List.getElem?_toArray, List.getElem?_cons_succ, List.getElem?_cons_zero]; rfl
    case hqr11_23 => exact fun _ _ _ h => h
    case hyr11_23 => exact Or.inr ⟨by rfl, rfl⟩
    try simp only [Act.put, List.setIfInBounds_toArray, List.set_cons_zero, List.set_cons_succ]
    refine wpAnyH_take (i := 24) (oi := ?oir11_24) (v := undef) ?hir11_24 (by kernel_rfl) (by kernel_rfl) (by kernel_rfl) ?hqr11_24 ?hyr11_24 (by assumption) ?restr11_24
    case hir11_24 => simp only [List.getElem?_toArray, List.getElem?_cons_succ, List.getElem?_cons_zero]; rfl
    case hqr11_24 => exact fun _ _ _ h => h
    case hyr11_24 => exact Or.inr ⟨by rfl, rfl⟩
    try simp only [Act.put, List.setIfInBounds_toArray, List.set_cons_zero, List.set_cons_succ]
    refine wpAnyH_take (i := 25) (oi := ?a11_25) (v := ?b11_25) ?c11_25 (by kernel_rfl) (by kernel_rfl) (by kernel_rfl) ?d11_25 ?e11_25 (by assumption) ?f11_25
    case c11_25 => simp only [tA, tS, tZ]; rfl
    case d11_25 => exact fun _ _ _ h => h
    case e11_25 => (refine Or.inl ⟨by rfl, ?_⟩; intro w h; (try dsimp only at h); go_simp; all_goals with_reducible rfl)
    try simp only [Act.put, tI, tP, tQ]
    refine wpAnyH_take (i := 26) (oi := ?a11_26) (v := ?b11_26) ?c11_26 (by kernel_rfl) (by kernel_rfl) (by kernel_rfl) ?d11_26 ?e11_26 (by assumption) ?f11_26
    case c11_26 => simp only [tA, tS, tZ]; rfl
    case d11_26 => exact fun _ _ _ h => h
    case e11_26 => (refine Or.inl ⟨by rfl, ?_⟩; intro w h; (try dsimp only at h); go_simp; all_goals with_reducible rfl)
    try simp only [Act.put, tI, tP, tQ]
    refine wpAnyH_done (by kernel_rfl) ?_ _
    rename World => W
    clear hHeld
    have k3 := LD.cell 3 _ rfl
    have k4 := LD.cell 4 _ rfl
    have k5 := LD.cell 5 _ rfl
    have k6 := LD.cell 6 _ rfl
    have k7 := LD.cell 7 _ rfl
    have HB := Lib.hid LD.below
    go_wp2_with fail
    go_loopw [3, 4] (fun o i wr => ∃ (k : Nat), k ≤ 5 ∧ i = .int .i64 (k : Nat) ∧ o = .bool false ∧ wr = W) (fun _ i _ => 5 - (intOf i).toNat)
    case atStart => exact ⟨0, by omega, rfl, rfl, rfl⟩
    case round =>
      obtain ⟨k, hk, rfl, rfl, hW⟩ := hrel
      have hW := hW.symm
      subst hW
      by_cases hlt : k < 5
      · go_wp2_with fail
        go_roundw
        case rel => exact ⟨k + 1, by omega, by go_num, by first | rfl | trivial, by first | rfl | trivial⟩
        case measure => simp [intOf]; omega
      · obtain rfl : k = 5 := by omega
        go_wp2_with fail
        go_ret
        exact ⟨by rw [e.out]; rfl, HB.out⟩
  cases c2 : leC [0, 0, 1] q.best
  case false =>
    have MY := Lib.hid (show decide (mayC q.bet q.ballots q.margin) = true from decide_eq_true hm)
    have e := Lib.hid (show r = 8 by rw [HR.out]; exact chkC_no' (fun h => by have := h.2.2.2.1; rw [c2] at this; simp at this))
    have E1 := Lib.hid c1
    have E2 := Lib.hid c2
    clear hm c1 c2
    go_enter Try.func25, Try.ntmps25
    go_wp2_with fail
    have LD := L1
    have hb := (Below.refl (w.alloc (.cells (cmC q a n c b m d) 25)).heap.size (w.alloc (.cells (cmC q a n c b m d) 25))).drew
    have LD := LD.later hb
    have q1 := q1.below hb
    have q2 := q2.below hb
    clear hb
    refine wp_region_held_drew (S := (fun w' => w'.cell? ⟨w.heap.size, 0, none⟩ = some (.int .i64 q.bet) ∧ w'.cell? ⟨w.heap.size, 1, none⟩ = some (.int .i64 q.ballots) ∧ w'.cell? ⟨w.heap.size, 2, none⟩ = some (.int .i64 q.margin) ∧ w'.cell? ⟨w.heap.size, 8, none⟩ = some (.slice a n c) ∧ w'.cell? ⟨w.heap.size, 9, none⟩ = some (.slice b m d))) (by kernel_rfl) ?_ (fun hHeld => ?_)
    · exact ⟨LD.cell 0 _ rfl, LD.cell 1 _ rfl, LD.cell 2 _ rfl, LD.cell 8 _ rfl, LD.cell 9 _ rfl⟩
    generalize (w.alloc (.cells (cmC q a n c b m d) 25)).drew = WD at *
    refine wpAnyH_take (i := 0) (oi := ?a12_0) (v := ?b12_0) ?c12_0 (by kernel_rfl) (by kernel_rfl) (by kernel_rfl) ?d12_0 ?e12_0 (by assumption) ?f12_0
    case c12_0 => simp only [tA, tS, tZ]; rfl
    case d12_0 => exact fun _ _ _ h => h
    case e12_0 => (refine Or.inl ⟨by rfl, ?_⟩; intro w h; (try dsimp only at h); go_simp; all_goals with_reducible rfl)
    try simp only [Act.put, tI, tP, tQ]
    refine wpAnyH_take (i := 1) (oi := ?a12_1) (v := ?b12_1) ?c12_1 (by kernel_rfl) (by kernel_rfl) (by kernel_rfl) ?d12_1 ?e12_1 (by assumption) ?f12_1
    case c12_1 => simp only [tA, tS, tZ]; rfl
    case d12_1 => exact fun _ _ _ h => h
    case e12_1 => (refine Or.inl ⟨by rfl, ?_⟩; intro w h; (try dsimp only at h); go_simp; all_goals with_reducible rfl)
    try simp only [Act.put, tI, tP, tQ]
    refine wpAnyH_take (i := 2) (oi := ?a12_2) (v := ?b12_2) ?c12_2 (by kernel_rfl) (by kernel_rfl) (by kernel_rfl) ?d12_2 ?e12_2 (by assumption) ?f12_2
    case c12_2 => simp only [tA, tS, tZ]; rfl
    case d12_2 => exact fun _ _ _ h => h
    case e12_2 => (refine Or.inl ⟨by rfl, ?_⟩; intro w h; (try dsimp only at h); go_simp; all_goals with_reducible rfl)
    try simp only [Act.put, tI, tP, tQ]
    refine wpAnyH_take (i := 3) (oi := ?a12_3) (v := ?b12_3) ?c12_3 (by kernel_rfl) (by kernel_rfl) (by kernel_rfl) ?d12_3 ?e12_3 (by assumption) ?f12_3
    case c12_3 => simp only [tA, tS, tZ]; rfl
    case d12_3 => exact fun _ _ _ h => h
    case e12_3 => (refine Or.inl ⟨by rfl, ?_⟩; intro w h; (try dsimp only at h); go_simp; all_goals with_reducible rfl)
    try simp only [Act.put, tI, tP, tQ]
    refine wpAnyH_take (i := 4) (oi := ?a12_4) (v := ?b12_4) ?c12_4 (by kernel_rfl) (by kernel_rfl) (by kernel_rfl) ?d12_4 ?e12_4 (by assumption) ?f12_4
    case c12_4 => simp only [tA, tS, tZ]; rfl
    case d12_4 => exact fun _ _ _ h => h
    case e12_4 => (refine Or.inl ⟨by rfl, ?_⟩; intro w h; (try dsimp only at h); go_simp; all_goals with_reducible rfl)
    try simp only [Act.put, tI, tP, tQ]
    refine wpAnyH_take (i := 5) (oi := ?a12_5) (v := ?b12_5) ?c12_5 (by kernel_rfl) (by kernel_rfl) (by kernel_rfl) ?d12_5 ?e12_5 (by assumption) ?f12_5
    case c12_5 => simp only [tA, tS, tZ]; rfl
    case d12_5 => exact fun _ _ _ h => h
    case e12_5 => (refine Or.inl ⟨by rfl, ?_⟩; intro w h; (try dsimp only at h); go_simp; all_goals with_reducible rfl)
    try simp only [Act.put, tI, tP, tQ]
    refine wpAnyH_ready (rs := [6]) (by kernel_rfl) (by simp) ?_
    refine AllReadyH.cons (o := ?or13_6) ?hor13_6 (fun K hK => ?kr13_6) AllReadyH.nil
    case hor13_6 => simp only [List.getElem?_toArray, List.getElem?_cons_succ, List.getElem?_cons_zero]; rfl
    go_simp
    have cc := may_any WD q.bet q.ballots q.margin
    rw [MY.out] at cc
    refine cc.mono ?_
    rintro e2 wq ⟨rfl, hw⟩
    have hw := hw.symm
    subst hw
    clear cc
    go_wp2_with fail
    refine hK.out _ _ ?_ (fun hHeld => ?_)
    · exact ⟨LD.cell 0 _ rfl, LD.cell 1 _ rfl, LD.cell 2 _ rfl, LD.cell 8 _ rfl, LD.cell 9 _ rfl⟩
    clear hK K
    try simp only [Act.put, List.setIfInBounds_toArray, List.set_cons_zero, List.set_cons_succ]
    refine wpAnyH_take (i := 7) (oi := ?a14_7) (v := ?b14_7) ?c14_7 (by kernel_rfl) (by kernel_rfl) (by kernel_rfl) ?d14_7 ?e14_7 (by assumption) ?f14_7
    case c14_7 => simp only [tA, tS, tZ]; rfl
    case d14_7 => exact fun _ _ _ h => h
    case e14_7 => (refine Or.inl ⟨by rfl, ?_⟩; intro w h; (try dsimp only at h); go_simp; all_goals with_reducible rfl)
    try simp only [Act.put, tI, tP, tQ]
    refine wpAnyH_take (i := 8) (oi := ?a15_8) (v := ?b15_8) ?c15_8 (by kernel_rfl) (by kernel_rfl) (by kernel_rfl) ?d15_8 ?e15_8 (by assumption) ?f15_8
    case c15_8 => simp only [tA, tS, tZ]; rfl
    case d15_8 => exact fun _ _ _ h => h
    case e15_8 => (refine Or.inl ⟨by rfl, ?_⟩; intro w h; (try dsimp only at h); go_simp; all_goals with_reducible rfl)
    try simp only [Act.put, tI, tP, tQ]
    refine wpAnyH_take (i := 9) (oi := ?a15_9) (v := ?b15_9) ?c15_9 (by kernel_rfl) (by kernel_rfl) (by kernel_rfl) ?d15_9 ?e15_9 (by assumption) ?f15_9
    case c15_9 => simp only [tA, tS, tZ]; rfl
    case d15_9 => exact fun _ _ _ h => h
    case e15_9 => (refine Or.inl ⟨by rfl, ?_⟩; intro w h; (try dsimp only at h); go_simp; all_goals with_reducible rfl)
    try simp only [Act.put, tI, tP, tQ]
    refine wpAnyH_take (i := 10) (oi := ?a15_10) (v := ?b15_10) ?c15_10 (by kernel_rfl) (by kernel_rfl) (by kernel_rfl) ?d15_10 ?e15_10 (by assumption) ?f15_10
    case c15_10 => simp only [tA, tS, tZ]; rfl
    case d15_10 => exact fun _ _ _ h => h
    case e15_10 => (refine Or.inl ⟨by rfl, ?_⟩; intro w h; (try dsimp only at h); go_simp; all_goals with_reducible rfl)
    try simp only [Act.put, tI, tP, tQ]
    refine wpAnyH_take (i := 11) (oi := ?a15_11) (v := ?b15_11) ?c15_11 (by kernel_rfl) (by kernel_rfl) (by kernel_rfl) ?d15_11 ?e15_11 (by assumption) ?f15_11
    case c15_11 => simp only [tA, tS, tZ]; rfl
    case d15_11 => exact fun _ _ _ h => h
    case e15_11 => (refine Or.inl ⟨by rfl, ?_⟩; intro w h; (try dsimp only at h); go_simp; all_goals with_reducible rfl)
    try simp only [Act.put, tI, tP, tQ]
    refine wpAnyH_ready (rs := [12]) (by kernel_rfl) (by simp) ?_
    refine AllReadyH.cons (o := ?or16_12) ?hor16_12 (fun K hK => ?kr16_12) AllReadyH.nil
    case hor16_12 => simp only [List.getElem?_toArray, List.getElem?_cons_succ, List.getElem?_cons_zero]; rfl
    go_simp
    have cc := refAtMost_any _ q1 q2
    rw [E1.out] at cc
    refine cc.mono ?_
    rintro e2 wq ⟨rfl, hb⟩
    clear cc
    have LD := LD.later hb
    have q1 := q1.below hb
    have q2 := q2.below hb
    clear hb
    go_wp2_with fail
    refine hK.out _ _ ?_ (fun hHeld => ?_)
    · exact ⟨LD.cell 0 _ rfl, LD.cell 1 _ rfl, LD.cell 2 _ rfl, LD.cell 8 _ rfl, LD.cell 9 _ rfl⟩
    clear hK K
    try simp only [Act.put, List.setIfInBounds_toArray, List.set_cons_zero, List.set_cons_succ]
    refine wpAnyH_take (i := 13) (oi := ?a17_13) (v := ?b17_13) ?c17_13 (by kernel_rfl) (by kernel_rfl) (by kernel_rfl) ?d17_13 ?e17_13 (by assumption) ?f17_13
    case c17_13 => simp only [tA, tS, tZ]; rfl
    case d17_13 => exact fun _ _ _ h => h
    case e17_13 => (refine Or.inl ⟨by rfl, ?_⟩; intro w h; (try dsimp only at h); go_simp; all_goals with_reducible rfl)
    try simp only [Act.put, tI, tP, tQ]
    refine wpAnyH_take (i := 14) (oi := ?a17_14) (v := ?b17_14) ?c17_14 (by kernel_rfl) (by kernel_rfl) (by kernel_rfl) ?d17_14 ?e17_14 (by assumption) ?f17_14
    case c17_14 => simp only [tA, tS, tZ]; rfl
    case d17_14 => exact fun _ _ _ h => h
    case e17_14 => (refine Or.inl ⟨by rfl, ?_⟩; intro w h; (try dsimp only at h); go_simp; all_goals with_reducible rfl)
    try simp only [Act.put, tI, tP, tQ]
    refine wpAnyH_take (i := 16) (oi := ?a18_16) (v := ?b18_16) ?c18_16 (by kernel_rfl) (by kernel_rfl) (by kernel_rfl) ?d18_16 ?e18_16 (by assumption) ?f18_16
    case c18_16 => simp only [tA, tS, tZ]; rfl
    case d18_16 => exact fun _ _ _ h => h
    case e18_16 => (refine Or.inl ⟨by rfl, ?_⟩; intro w h; (try dsimp only at h); go_simp; all_goals with_reducible rfl)
    try simp only [Act.put, tI, tP, tQ]
    refine wpAnyH_take (i := 17) (oi := ?a18_17) (v := ?b18_17) ?c18_17 (by kernel_rfl) (by kernel_rfl) (by kernel_rfl) ?d18_17 ?e18_17 (by assumption) ?f18_17
    case c18_17 => simp only [tA, tS, tZ]; rfl
    case d18_17 => exact fun _ _ _ h => h
    case e18_17 => (refine Or.inl ⟨by rfl, ?_⟩; intro w h; (try dsimp only at h); go_simp; all_goals with_reducible rfl)
    try simp only [Act.put, tI, tP, tQ]
    refine wpAnyH_ready (rs := [15]) (by kernel_rfl) (by simp) ?_
    refine AllReadyH.cons (o := ?or19_15) ?hor19_15 (fun K hK => ?kr19_15) AllReadyH.nil
    case hor19_15 => simp only [List.getElem?_toArray, List.getElem?_cons_succ, List.getElem?_cons_zero]; rfl
    go_simp
    refine (refOne_any _).mono ?_
    rintro e2 wq ⟨a9, n9, c9, rfl, x9, hb⟩
    have LD := LD.later hb
    have q1 := q1.below hb
    have q2 := q2.below hb
    clear hb
    go_wp2_with fail
    refine hK.out _ _ ?_ (fun hHeld => ?_)
    · exact ⟨LD.cell 0 _ rfl, LD.cell 1 _ rfl, LD.cell 2 _ rfl, LD.cell 8 _ rfl, LD.cell 9 _ rfl⟩
    clear hK K
    try simp only [Act.put, List.setIfInBounds_toArray, List.set_cons_zero, List.set_cons_succ]
    refine wpAnyH_ready (rs := [18]) (by kernel_rfl) (by simp) ?_
    refine AllReadyH.cons (o := ?or20_18) ?hor20_18 (fun K hK => ?kr20_18) AllReadyH.nil
    case hor20_18 => simp only [List.getElem?_toArray, List.getElem?_cons_succ, List.getElem?_cons_zero]; rfl
    go_simp
    have cc := refAtMost_any _ x9 q2
    rw [E2.out] at cc
    refine cc.mono ?_
    rintro e2 wq ⟨rfl, hb⟩
    clear cc
    have LD := LD.later hb
    have q1 := q1.below hb
    have q2 := q2.below hb
    clear x9
    clear hb
    go_wp2_with fail
    refine hK.out _ _ ?_ (fun hHeld => ?_)
    · exact ⟨LD.cell 0 _ rfl, LD.cell 1 _ rfl, LD.cell 2 _ rfl, LD.cell 8 _ rfl, LD.cell 9 _ rfl⟩
    clear hK K
    try simp only [Act.put, List.setIfInBounds_toArray, List.set_cons_zero, List.set_cons_succ]
    refine wpAnyH_take (i := 19) (oi := ?a21_19) (v := ?b21_19) ?c21_19 (by kernel_rfl) (by kernel_rfl) (by kernel_rfl) ?d21_19 ?e21_19 (by assumption) ?f21_19
    case c21_19 => simp only [tA, tS, tZ]; rfl
    case d21_19 => exact fun _ _ _ h => h
    case e21_19 => (refine Or.inl ⟨by rfl, ?_⟩; intro w h; (try dsimp only at h); go_simp; all_goals with_reducible rfl)
    try simp only [Act.put, tI, tP, tQ]
    refine wpAnyH_take (i := 20) (oi := ?a21_20) (v := ?b21_20) ?c21_20 (by kernel_rfl) (by kernel_rfl) (by kernel_rfl) ?d21_20 ?e21_20 (by assumption) ?f21_20
    case c21_20 => simp only [tA, tS, tZ]; rfl
    case d21_20 => exact fun _ _ _ h => h
    case e21_20 => (refine Or.inl ⟨by rfl, ?_⟩; intro w h; (try dsimp only at h); go_simp; all_goals with_reducible rfl)
    try simp only [Act.put, tI, tP, tQ]
    refine wpAnyH_take (i := 21) (oi := ?oir22_21) (v := undef) ?hir22_21 (by kernel_rfl) (by kernel_rfl) (by kernel_rfl) ?hqr22_21 ?hyr22_21 (by assumption) ?restr22_21
    case hir22_21 => simp only [List.getElem?_toArray, List.getElem?_cons_succ, List.getElem?_cons_zero]; rfl
    case hqr22_21 => exact fun _ _ _ h => h
    case hyr22_21 => exact Or.inr ⟨by rfl, rfl⟩
    try simp only [Act.put, List.setIfInBounds_toArray, List.set_cons_zero, List.set_cons_succ]
    refine wpAnyH_take (i := 22) (oi := ?oir22_22) (v := undef) ?hir22_22 (by kernel_rfl) (by kernel_rfl) (by kernel_rfl) ?hqr22_22 ?hyr22_22 (by assumption) ?restr22_22
    case hir22_22 => simp only [List.getElem?_toArray, List.getElem?_cons_succ, List.getElem?_cons_zero]; rfl
    case hqr22_22 => exact fun _ _ _ h => h
    case hyr22_22 => exact Or.inr ⟨by rfl, rfl⟩
    try simp only [Act.put, List.setIfInBounds_toArray, List.set_cons_zero, List.set_cons_succ]
    refine wpAnyH_take (i := 23) (oi := ?oir22_23) (v := undef) ?hir22_23 (by kernel_rfl) (by kernel_rfl) (by kernel_rfl) ?hqr22_23 ?hyr22_23 (by assumption) ?restr22_23
    case hir22_23 => simp only [List.getElem?_toArray, List.getElem?_cons_succ, List.getElem?_cons_zero]; rfl
    case hqr22_23 => exact fun _ _ _ h => h
    case hyr22_23 => exact Or.inr ⟨by rfl, rfl⟩
    try simp only [Act.put, List.setIfInBounds_toArray, List.set_cons_zero, List.set_cons_succ]
    refine wpAnyH_take (i := 24) (oi := ?oir22_24) (v := undef) ?hir22_24 (by kernel_rfl) (by kernel_rfl) (by kernel_rfl) ?hqr22_24 ?hyr22_24 (by assumption) ?restr22_24
    case hir22_24 => simp only [List.getElem?_toArray, List.getElem?_cons_succ, List.getElem?_cons_zero]; rfl
    case hqr22_24 => exact fun _ _ _ h => h
    case hyr22_24 => exact Or.inr ⟨by rfl, rfl⟩
    try simp only [Act.put, List.setIfInBounds_toArray, List.set_cons_zero, List.set_cons_succ]
    refine wpAnyH_take (i := 25) (oi := ?a22_25) (v := ?b22_25) ?c22_25 (by kernel_rfl) (by kernel_rfl) (by kernel_rfl) ?d22_25 ?e22_25 (by assumption) ?f22_25
    case c22_25 => simp only [tA, tS, tZ]; rfl
    case d22_25 => exact fun _ _ _ h => h
    case e22_25 => (refine Or.inl ⟨by rfl, ?_⟩; intro w h; (try dsimp only at h); go_simp; all_goals with_reducible rfl)
    try simp only [Act.put, tI, tP, tQ]
    refine wpAnyH_take (i := 26) (oi := ?a22_26) (v := ?b22_26) ?c22_26 (by kernel_rfl) (by kernel_rfl) (by kernel_rfl) ?d22_26 ?e22_26 (by assumption) ?f22_26
    case c22_26 => simp only [tA, tS, tZ]; rfl
    case d22_26 => exact fun _ _ _ h => h
    case e22_26 => (refine Or.inl ⟨by rfl, ?_⟩; intro w h; (try dsimp only at h); go_simp; all_goals with_reducible rfl)
    try simp only [Act.put, tI, tP, tQ]
    refine wpAnyH_done (by kernel_rfl) ?_ _
    rename World => W
    clear hHeld
    have k3 := LD.cell 3 _ rfl
    have k4 := LD.cell 4 _ rfl
    have k5 := LD.cell 5 _ rfl
    have k6 := LD.cell 6 _ rfl
    have k7 := LD.cell 7 _ rfl
    have HB := Lib.hid LD.below
    go_wp2_with fail
    go_loopw [3, 4] (fun o i wr => ∃ (k : Nat), k ≤ 5 ∧ i = .int .i64 (k : Nat) ∧ o = .bool false ∧ wr = W) (fun _ i _ => 5 - (intOf i).toNat)
    case atStart => exact ⟨0, by omega, rfl, rfl, rfl⟩
    case round =>
      obtain ⟨k, hk, rfl, rfl, hW⟩ := hrel
      have hW := hW.symm
      subst hW
      by_cases hlt : k < 5
      · go_wp2_with fail
        go_roundw
        case rel => exact ⟨k + 1, by omega, by go_num, by first | rfl | trivial, by first | rfl | trivial⟩
        case measure => simp [intOf]; omega
      · obtain rfl : k = 5 := by omega
        go_wp2_with fail
        go_ret
        exact ⟨by rw [e.out]; rfl, HB.out⟩
  cases c3 : leC q.best [0, 0, 0, 0, 1]
  case false =>
    have MY := Lib.hid (show decide (mayC q.bet q.ballots q.margin) = true from decide_eq_true hm)
    have e := Lib.hid (show r = 8 by rw [HR.out]; exact chkC_no' (fun h => by have := h.2.2.2.2; rw [c3] at this; simp at this))
    have E1 := Lib.hid c1
    have E2 := Lib.hid c2
    have E3 := Lib.hid c3
    clear hm c1 c2 c3
    go_enter Try.func25, Try.ntmps25
    go_wp2_with fail
    have LD := L1
    have hb := (Below.refl (w.alloc (.cells (cmC q a n c b m d) 25)).heap.size (w.alloc (.cells (cmC q a n c b m d) 25))).drew
    have LD := LD.later hb
    have q1 := q1.below hb
    have q2 := q2.below hb
    clear hb
    refine wp_region_held_drew (S := (fun w' => w'.cell? ⟨w.heap.size, 0, none⟩ = some (.int .i64 q.bet) ∧ w'.cell? ⟨w.heap.size, 1, none⟩ = some (.int .i64 q.ballots) ∧ w'.cell? ⟨w.heap.size, 2, none⟩ = some (.int .i64 q.margin) ∧ w'.cell? ⟨w.heap.size, 8, none⟩ = some (.slice a n c) ∧ w'.cell? ⟨w.heap.size, 9, none⟩ = some (.slice b m d))) (by kernel_rfl) ?_ (fun hHeld => ?_)
    · exact ⟨LD.cell 0 _ rfl, LD.cell 1 _ rfl, LD.cell 2 _ rfl, LD.cell 8 _ rfl, LD.cell 9 _ rfl⟩
    generalize (w.alloc (.cells (cmC q a n c b m d) 25)).drew = WD at *
    refine wpAnyH_take (i := 0) (oi := ?a23_0) (v := ?b23_0) ?c23_0 (by kernel_rfl) (by kernel_rfl) (by kernel_rfl) ?d23_0 ?e23_0 (by assumption) ?f23_0
    case c23_0 => simp only [tA, tS, tZ]; rfl
    case d23_0 => exact fun _ _ _ h => h
    case e23_0 => (refine Or.inl ⟨by rfl, ?_⟩; intro w h; (try dsimp only at h); go_simp; all_goals with_reducible rfl)
    try simp only [Act.put, tI, tP, tQ]
    refine wpAnyH_take (i := 1) (oi := ?a23_1) (v := ?b23_1) ?c23_1 (by kernel_rfl) (by kernel_rfl) (by kernel_rfl) ?d23_1 ?e23_1 (by assumption) ?f23_1
    case c23_1 => simp only [tA, tS, tZ]; rfl
    case d23_1 => exact fun _ _ _ h => h
    case e23_1 => (refine Or.inl ⟨by rfl, ?_⟩; intro w h; (try dsimp only at h); go_simp; all_goals with_reducible rfl)
    try simp only [Act.put, tI, tP, tQ]
    refine wpAnyH_take (i := 2) (oi := ?a23_2) (v := ?b23_2) ?c23_2 (by kernel_rfl) (by kernel_rfl) (by kernel_rfl) ?d23_2 ?e23_2 (by assumption) ?f23_2
    case c23_2 => simp only [tA, tS, tZ]; rfl
    case d23_2 => exact fun _ _ _ h => h
    case e23_2 => (refine Or.inl ⟨by rfl, ?_⟩; intro w h; (try dsimp only at h); go_simp; all_goals with_reducible rfl)
    try simp only [Act.put, tI, tP, tQ]
    refine wpAnyH_take (i := 3) (oi := ?a23_3) (v := ?b23_3) ?c23_3 (by kernel_rfl) (by kernel_rfl) (by kernel_rfl) ?d23_3 ?e23_3 (by assumption) ?f23_3
    case c23_3 => simp only [tA, tS, tZ]; rfl
    case d23_3 => exact fun _ _ _ h => h
    case e23_3 => (refine Or.inl ⟨by rfl, ?_⟩; intro w h; (try dsimp only at h); go_simp; all_goals with_reducible rfl)
    try simp only [Act.put, tI, tP, tQ]
    refine wpAnyH_take (i := 4) (oi := ?a23_4) (v := ?b23_4) ?c23_4 (by kernel_rfl) (by kernel_rfl) (by kernel_rfl) ?d23_4 ?e23_4 (by assumption) ?f23_4
    case c23_4 => simp only [tA, tS, tZ]; rfl
    case d23_4 => exact fun _ _ _ h => h
    case e23_4 => (refine Or.inl ⟨by rfl, ?_⟩; intro w h; (try dsimp only at h); go_simp; all_goals with_reducible rfl)
    try simp only [Act.put, tI, tP, tQ]
    refine wpAnyH_take (i := 5) (oi := ?a23_5) (v := ?b23_5) ?c23_5 (by kernel_rfl) (by kernel_rfl) (by kernel_rfl) ?d23_5 ?e23_5 (by assumption) ?f23_5
    case c23_5 => simp only [tA, tS, tZ]; rfl
    case d23_5 => exact fun _ _ _ h => h
    case e23_5 => (refine Or.inl ⟨by rfl, ?_⟩; intro w h; (try dsimp only at h); go_simp; all_goals with_reducible rfl)
    try simp only [Act.put, tI, tP, tQ]
    refine wpAnyH_ready (rs := [6]) (by kernel_rfl) (by simp) ?_
    refine AllReadyH.cons (o := ?or24_6) ?hor24_6 (fun K hK => ?kr24_6) AllReadyH.nil
    case hor24_6 => simp only [List.getElem?_toArray, List.getElem?_cons_succ, List.getElem?_cons_zero]; rfl
    go_simp
    have cc := may_any WD q.bet q.ballots q.margin
    rw [MY.out] at cc
    refine cc.mono ?_
    rintro e2 wq ⟨rfl, hw⟩
    have hw := hw.symm
    subst hw
    clear cc
    go_wp2_with fail
    refine hK.out _ _ ?_ (fun hHeld => ?_)
    · exact ⟨LD.cell 0 _ rfl, LD.cell 1 _ rfl, LD.cell 2 _ rfl, LD.cell 8 _ rfl, LD.cell 9 _ rfl⟩
    clear hK K
    try simp only [Act.put, List.setIfInBounds_toArray, List.set_cons_zero, List.set_cons_succ]
    refine wpAnyH_take (i := 7) (oi := ?a25_7) (v := ?b25_7) ?c25_7 (by kernel_rfl) (by kernel_rfl) (by kernel_rfl) ?d25_7 ?e25_7 (by assumption) ?f25_7
    case c25_7 => simp only [tA, tS, tZ]; rfl
    case d25_7 => exact fun _ _ _ h => h
    case e25_7 => (refine Or.inl ⟨by rfl, ?_⟩; intro w h; (try dsimp only at h); go_simp; all_goals with_reducible rfl)
    try simp only [Act.put, tI, tP, tQ]
    refine wpAnyH_take (i := 8) (oi := ?a26_8) (v := ?b26_8) ?c26_8 (by kernel_rfl) (by kernel_rfl) (by kernel_rfl) ?d26_8 ?e26_8 (by assumption) ?f26_8
    case c26_8 => simp only [tA, tS, tZ]; rfl
    case d26_8 => exact fun _ _ _ h => h
    case e26_8 => (refine Or.inl ⟨by rfl, ?_⟩; intro w h; (try dsimp only at h); go_simp; all_goals with_reducible rfl)
    try simp only [Act.put, tI, tP, tQ]
    refine wpAnyH_take (i := 9) (oi := ?a26_9) (v := ?b26_9) ?c26_9 (by kernel_rfl) (by kernel_rfl) (by kernel_rfl) ?d26_9 ?e26_9 (by assumption) ?f26_9
    case c26_9 => simp only [tA, tS, tZ]; rfl
    case d26_9 => exact fun _ _ _ h => h
    case e26_9 => (refine Or.inl ⟨by rfl, ?_⟩; intro w h; (try dsimp only at h); go_simp; all_goals with_reducible rfl)
    try simp only [Act.put, tI, tP, tQ]
    refine wpAnyH_take (i := 10) (oi := ?a26_10) (v := ?b26_10) ?c26_10 (by kernel_rfl) (by kernel_rfl) (by kernel_rfl) ?d26_10 ?e26_10 (by assumption) ?f26_10
    case c26_10 => simp only [tA, tS, tZ]; rfl
    case d26_10 => exact fun _ _ _ h => h
    case e26_10 => (refine Or.inl ⟨by rfl, ?_⟩; intro w h; (try dsimp only at h); go_simp; all_goals with_reducible rfl)
    try simp only [Act.put, tI, tP, tQ]
    refine wpAnyH_take (i := 11) (oi := ?a26_11) (v := ?b26_11) ?c26_11 (by kernel_rfl) (by kernel_rfl) (by kernel_rfl) ?d26_11 ?e26_11 (by assumption) ?f26_11
    case c26_11 => simp only [tA, tS, tZ]; rfl
    case d26_11 => exact fun _ _ _ h => h
    case e26_11 => (refine Or.inl ⟨by rfl, ?_⟩; intro w h; (try dsimp only at h); go_simp; all_goals with_reducible rfl)
    try simp only [Act.put, tI, tP, tQ]
    refine wpAnyH_ready (rs := [12]) (by kernel_rfl) (by simp) ?_
    refine AllReadyH.cons (o := ?or27_12) ?hor27_12 (fun K hK => ?kr27_12) AllReadyH.nil
    case hor27_12 => simp only [List.getElem?_toArray, List.getElem?_cons_succ, List.getElem?_cons_zero]; rfl
    go_simp
    have cc := refAtMost_any _ q1 q2
    rw [E1.out] at cc
    refine cc.mono ?_
    rintro e2 wq ⟨rfl, hb⟩
    clear cc
    have LD := LD.later hb
    have q1 := q1.below hb
    have q2 := q2.below hb
    clear hb
    go_wp2_with fail
    refine hK.out _ _ ?_ (fun hHeld => ?_)
    · exact ⟨LD.cell 0 _ rfl, LD.cell 1 _ rfl, LD.cell 2 _ rfl, LD.cell 8 _ rfl, LD.cell 9 _ rfl⟩
    clear hK K
    try simp only [Act.put, List.setIfInBounds_toArray, List.set_cons_zero, List.set_cons_succ]
    refine wpAnyH_take (i := 13) (oi := ?a28_13) (v := ?b28_13) ?c28_13 (by kernel_rfl) (by kernel_rfl) (by kernel_rfl) ?d28_13 ?e28_13 (by assumption) ?f28_13
    case c28_13 => simp only [tA, tS, tZ]; rfl
    case d28_13 => exact fun _ _ _ h => h
    case e28_13 => (refine Or.inl ⟨by rfl, ?_⟩; intro w h; (try dsimp only at h); go_simp; all_goals with_reducible rfl)
    try simp only [Act.put, tI, tP, tQ]
    refine wpAnyH_take (i := 14) (oi := ?a28_14) (v := ?b28_14) ?c28_14 (by kernel_rfl) (by kernel_rfl) (by kernel_rfl) ?d28_14 ?e28_14 (by assumption) ?f28_14
    case c28_14 => simp only [tA, tS, tZ]; rfl
    case d28_14 => exact fun _ _ _ h => h
    case e28_14 => (refine Or.inl ⟨by rfl, ?_⟩; intro w h; (try dsimp only at h); go_simp; all_goals with_reducible rfl)
    try simp only [Act.put, tI, tP, tQ]
    refine wpAnyH_take (i := 16) (oi := ?a29_16) (v := ?b29_16) ?c29_16 (by kernel_rfl) (by kernel_rfl) (by kernel_rfl) ?d29_16 ?e29_16 (by assumption) ?f29_16
    case c29_16 => simp only [tA, tS, tZ]; rfl
    case d29_16 => exact fun _ _ _ h => h
    case e29_16 => (refine Or.inl ⟨by rfl, ?_⟩; intro w h; (try dsimp only at h); go_simp; all_goals with_reducible rfl)
    try simp only [Act.put, tI, tP, tQ]
    refine wpAnyH_take (i := 17) (oi := ?a29_17) (v := ?b29_17) ?c29_17 (by kernel_rfl) (by kernel_rfl) (by kernel_rfl) ?d29_17 ?e29_17 (by assumption) ?f29_17
    case c29_17 => simp only [tA, tS, tZ]; rfl
    case d29_17 => exact fun _ _ _ h => h
    case e29_17 => (refine Or.inl ⟨by rfl, ?_⟩; intro w h; (try dsimp only at h); go_simp; all_goals with_reducible rfl)
    try simp only [Act.put, tI, tP, tQ]
    refine wpAnyH_ready (rs := [15]) (by kernel_rfl) (by simp) ?_
    refine AllReadyH.cons (o := ?or30_15) ?hor30_15 (fun K hK => ?kr30_15) AllReadyH.nil
    case hor30_15 => simp only [List.getElem?_toArray, List.getElem?_cons_succ, List.getElem?_cons_zero]; rfl
    go_simp
    refine (refOne_any _).mono ?_
    rintro e2 wq ⟨a9, n9, c9, rfl, x9, hb⟩
    have LD := LD.later hb
    have q1 := q1.below hb
    have q2 := q2.below hb
    clear hb
    go_wp2_with fail
    refine hK.out _ _ ?_ (fun hHeld => ?_)
    · exact ⟨LD.cell 0 _ rfl, LD.cell 1 _ rfl, LD.cell 2 _ rfl, LD.cell 8 _ rfl, LD.cell 9 _ rfl⟩
    clear hK K
    try simp only [Act.put, List.setIfInBounds_toArray, List.set_cons_zero, List.set_cons_succ]
    refine wpAnyH_ready (rs := [18]) (by kernel_rfl) (by simp) ?_
    refine AllReadyH.cons (o := ?or31_18) ?hor31_18 (fun K hK => ?kr31_18) AllReadyH.nil
    case hor31_18 => simp only [List.getElem?_toArray, List.getElem?_cons_succ, List.getElem?_cons_zero]; rfl
    go_simp
    have cc := refAtMost_any _ x9 q2
    rw [E2.out] at cc
    refine cc.mono ?_
    rintro e2 wq ⟨rfl, hb⟩
    clear cc
    have LD := LD.later hb
    have q1 := q1.below hb
    have q2 := q2.below hb
    clear x9
    clear hb
    go_wp2_with fail
    refine hK.out _ _ ?_ (fun hHeld => ?_)
    · exact ⟨LD.cell 0 _ rfl, LD.cell 1 _ rfl, LD.cell 2 _ rfl, LD.cell 8 _ rfl, LD.cell 9 _ rfl⟩
    clear hK K
    try simp only [Act.put, List.setIfInBounds_toArray, List.set_cons_zero, List.set_cons_succ]
    refine wpAnyH_take (i := 19) (oi := ?a32_19) (v := ?b32_19) ?c32_19 (by kernel_rfl) (by kernel_rfl) (by kernel_rfl) ?d32_19 ?e32_19 (by assumption) ?f32_19
    case c32_19 => simp only [tA, tS, tZ]; rfl
    case d32_19 => exact fun _ _ _ h => h
    case e32_19 => (refine Or.inl ⟨by rfl, ?_⟩; intro w h; (try dsimp only at h); go_simp; all_goals with_reducible rfl)
    try simp only [Act.put, tI, tP, tQ]
    refine wpAnyH_take (i := 20) (oi := ?a32_20) (v := ?b32_20) ?c32_20 (by kernel_rfl) (by kernel_rfl) (by kernel_rfl) ?d32_20 ?e32_20 (by assumption) ?f32_20
    case c32_20 => simp only [tA, tS, tZ]; rfl
    case d32_20 => exact fun _ _ _ h => h
    case e32_20 => (refine Or.inl ⟨by rfl, ?_⟩; intro w h; (try dsimp only at h); go_simp; all_goals with_reducible rfl)
    try simp only [Act.put, tI, tP, tQ]
    refine wpAnyH_take (i := 21) (oi := ?a33_21) (v := ?b33_21) ?c33_21 (by kernel_rfl) (by kernel_rfl) (by kernel_rfl) ?d33_21 ?e33_21 (by assumption) ?f33_21
    case c33_21 => simp only [tA, tS, tZ]; rfl
    case d33_21 => exact fun _ _ _ h => h
    case e33_21 => (refine Or.inl ⟨by rfl, ?_⟩; intro w h; (try dsimp only at h); go_simp; all_goals with_reducible rfl)
    try simp only [Act.put, tI, tP, tQ]
    refine wpAnyH_take (i := 22) (oi := ?a33_22) (v := ?b33_22) ?c33_22 (by kernel_rfl) (by kernel_rfl) (by kernel_rfl) ?d33_22 ?e33_22 (by assumption) ?f33_22
    case c33_22 => simp only [tA, tS, tZ]; rfl
    case d33_22 => exact fun _ _ _ h => h
    case e33_22 => (refine Or.inl ⟨by rfl, ?_⟩; intro w h; (try dsimp only at h); go_simp; all_goals with_reducible rfl)
    try simp only [Act.put, tI, tP, tQ]
    refine wpAnyH_ready (rs := [23]) (by kernel_rfl) (by simp) ?_
    refine AllReadyH.cons (o := ?or34_23) ?hor34_23 (fun K hK => ?kr34_23) AllReadyH.nil
    case hor34_23 => simp only [List.getElem?_toArray, List.getElem?_cons_succ, List.getElem?_cons_zero]; rfl
    go_simp
    refine (refMost_any _).mono ?_
    rintro e2 wq ⟨a9, n9, c9, rfl, x9, hb⟩
    have LD := LD.later hb
    have q1 := q1.below hb
    have q2 := q2.below hb
    clear hb
    go_wp2_with fail
    refine hK.out _ _ ?_ (fun hHeld => ?_)
    · exact ⟨LD.cell 0 _ rfl, LD.cell 1 _ rfl, LD.cell 2 _ rfl, LD.cell 8 _ rfl, LD.cell 9 _ rfl⟩
    clear hK K
    try simp only [Act.put, List.setIfInBounds_toArray, List.set_cons_zero, List.set_cons_succ]
    refine wpAnyH_ready (rs := [24]) (by kernel_rfl) (by simp) ?_
    refine AllReadyH.cons (o := ?or35_24) ?hor35_24 (fun K hK => ?kr35_24) AllReadyH.nil
    case hor35_24 => simp only [List.getElem?_toArray, List.getElem?_cons_succ, List.getElem?_cons_zero]; rfl
    go_simp
    have cc := refAtMost_any _ q2 x9
    rw [E3.out] at cc
    refine cc.mono ?_
    rintro e2 wq ⟨rfl, hb⟩
    clear cc
    have LD := LD.later hb
    have q1 := q1.below hb
    have q2 := q2.below hb
    clear x9
    clear hb
    go_wp2_with fail
    refine hK.out _ _ ?_ (fun hHeld => ?_)
    · exact ⟨LD.cell 0 _ rfl, LD.cell 1 _ rfl, LD.cell 2 _ rfl, LD.cell 8 _ rfl, LD.cell 9 _ rfl⟩
    clear hK K
    try simp only [Act.put, List.setIfInBounds_toArray, List.set_cons_zero, List.set_cons_succ]
    refine wpAnyH_take (i := 25) (oi := ?a36_25) (v := ?b36_25) ?c36_25 (by kernel_rfl) (by kernel_rfl) (by kernel_rfl) ?d36_25 ?e36_25 (by assumption) ?f36_25
    case c36_25 => simp only [tA, tS, tZ]; rfl
    case d36_25 => exact fun _ _ _ h => h
    case e36_25 => (refine Or.inl ⟨by rfl, ?_⟩; intro w h; (try dsimp only at h); go_simp; all_goals with_reducible rfl)
    try simp only [Act.put, tI, tP, tQ]
    refine wpAnyH_take (i := 26) (oi := ?a36_26) (v := ?b36_26) ?c36_26 (by kernel_rfl) (by kernel_rfl) (by kernel_rfl) ?d36_26 ?e36_26 (by assumption) ?f36_26
    case c36_26 => simp only [tA, tS, tZ]; rfl
    case d36_26 => exact fun _ _ _ h => h
    case e36_26 => (refine Or.inl ⟨by rfl, ?_⟩; intro w h; (try dsimp only at h); go_simp; all_goals with_reducible rfl)
    try simp only [Act.put, tI, tP, tQ]
    refine wpAnyH_done (by kernel_rfl) ?_ _
    rename World => W
    clear hHeld
    have k3 := LD.cell 3 _ rfl
    have k4 := LD.cell 4 _ rfl
    have k5 := LD.cell 5 _ rfl
    have k6 := LD.cell 6 _ rfl
    have k7 := LD.cell 7 _ rfl
    have HB := Lib.hid LD.below
    go_wp2_with fail
    go_loopw [3, 4] (fun o i wr => ∃ (k : Nat), k ≤ 5 ∧ i = .int .i64 (k : Nat) ∧ o = .bool false ∧ wr = W) (fun _ i _ => 5 - (intOf i).toNat)
    case atStart => exact ⟨0, by omega, rfl, rfl, rfl⟩
    case round =>
      obtain ⟨k, hk, rfl, rfl, hW⟩ := hrel
      have hW := hW.symm
      subst hW
      by_cases hlt : k < 5
      · go_wp2_with fail
        go_roundw
        case rel => exact ⟨k + 1, by omega, by go_num, by first | rfl | trivial, by first | rfl | trivial⟩
        case measure => simp [intOf]; omega
      · obtain rfl : k = 5 := by omega
        go_wp2_with fail
        go_ret
        exact ⟨by rw [e.out]; rfl, HB.out⟩
  have MY := Lib.hid (show decide (mayC q.bet q.ballots q.margin) = true from decide_eq_true hm)
  have ER := Lib.hid (show r = if okK q 5 = true then 0 else 8 by
    rw [HR.out, okK_five]
    by_cases s : seenOkC q = true
    · rw [if_pos s]; unfold chkC; rw [if_pos ⟨hm, s, c1, c2, c3⟩]
    · rw [if_neg s]; exact chkC_no' (fun h => s h.2.1))
  have E1 := Lib.hid c1
  have E2 := Lib.hid c2
  have E3 := Lib.hid c3
  clear hm c1 c2 c3
  go_enter Try.func25, Try.ntmps25
  go_wp2_with fail
  have LD := L1
  have hb := (Below.refl (w.alloc (.cells (cmC q a n c b m d) 25)).heap.size (w.alloc (.cells (cmC q a n c b m d) 25))).drew
  have LD := LD.later hb
  have q1 := q1.below hb
  have q2 := q2.below hb
  clear hb
  refine wp_region_held_drew (S := (fun w' => w'.cell? ⟨w.heap.size, 0, none⟩ = some (.int .i64 q.bet) ∧ w'.cell? ⟨w.heap.size, 1, none⟩ = some (.int .i64 q.ballots) ∧ w'.cell? ⟨w.heap.size, 2, none⟩ = some (.int .i64 q.margin) ∧ w'.cell? ⟨w.heap.size, 8, none⟩ = some (.slice a n c) ∧ w'.cell? ⟨w.heap.size, 9, none⟩ = some (.slice b m d))) (by kernel_rfl) ?_ (fun hHeld => ?_)
  · exact ⟨LD.cell 0 _ rfl, LD.cell 1 _ rfl, LD.cell 2 _ rfl, LD.cell 8 _ rfl, LD.cell 9 _ rfl⟩
  generalize (w.alloc (.cells (cmC q a n c b m d) 25)).drew = WD at *
  refine wpAnyH_take (i := 0) (oi := ?a37_0) (v := ?b37_0) ?c37_0 (by kernel_rfl) (by kernel_rfl) (by kernel_rfl) ?d37_0 ?e37_0 (by assumption) ?f37_0
  case c37_0 => simp only [tA, tS, tZ]; rfl
  case d37_0 => exact fun _ _ _ h => h
  case e37_0 => (refine Or.inl ⟨by rfl, ?_⟩; intro w h; (try dsimp only at h); go_simp; all_goals with_reducible rfl)
  try simp only [Act.put, tI, tP, tQ]
  refine wpAnyH_take (i := 1) (oi := ?a37_1) (v := ?b37_1) ?c37_1 (by kernel_rfl) (by kernel_rfl) (by kernel_rfl) ?d37_1 ?e37_1 (by assumption) ?f37_1
  case c37_1 => simp only [tA, tS, tZ]; rfl
  case d37_1 => exact fun _ _ _ h => h
  case e37_1 => (refine Or.inl ⟨by rfl, ?_⟩; intro w h; (try dsimp only at h); go_simp; all_goals with_reducible rfl)
  try simp only [Act.put, tI, tP, tQ]
  refine wpAnyH_take (i := 2) (oi := ?a37_2) (v := ?b37_2) ?c37_2 (by kernel_rfl) (by kernel_rfl) (by kernel_rfl) ?d37_2 ?e37_2 (by assumption) ?f37_2
  case c37_2 => simp only [tA, tS, tZ]; rfl
  case d37_2 => exact fun _ _ _ h => h
  case e37_2 => (refine Or.inl ⟨by rfl, ?_⟩; intro w h; (try dsimp only at h); go_simp; all_goals with_reducible rfl)
  try simp only [Act.put, tI, tP, tQ]
  refine wpAnyH_take (i := 3) (oi := ?a37_3) (v := ?b37_3) ?c37_3 (by kernel_rfl) (by kernel_rfl) (by kernel_rfl) ?d37_3 ?e37_3 (by assumption) ?f37_3
  case c37_3 => simp only [tA, tS, tZ]; rfl
  case d37_3 => exact fun _ _ _ h => h
  case e37_3 => (refine Or.inl ⟨by rfl, ?_⟩; intro w h; (try dsimp only at h); go_simp; all_goals with_reducible rfl)
  try simp only [Act.put, tI, tP, tQ]
  refine wpAnyH_take (i := 4) (oi := ?a37_4) (v := ?b37_4) ?c37_4 (by kernel_rfl) (by kernel_rfl) (by kernel_rfl) ?d37_4 ?e37_4 (by assumption) ?f37_4
  case c37_4 => simp only [tA, tS, tZ]; rfl
  case d37_4 => exact fun _ _ _ h => h
  case e37_4 => (refine Or.inl ⟨by rfl, ?_⟩; intro w h; (try dsimp only at h); go_simp; all_goals with_reducible rfl)
  try simp only [Act.put, tI, tP, tQ]
  refine wpAnyH_take (i := 5) (oi := ?a37_5) (v := ?b37_5) ?c37_5 (by kernel_rfl) (by kernel_rfl) (by kernel_rfl) ?d37_5 ?e37_5 (by assumption) ?f37_5
  case c37_5 => simp only [tA, tS, tZ]; rfl
  case d37_5 => exact fun _ _ _ h => h
  case e37_5 => (refine Or.inl ⟨by rfl, ?_⟩; intro w h; (try dsimp only at h); go_simp; all_goals with_reducible rfl)
  try simp only [Act.put, tI, tP, tQ]
  refine wpAnyH_ready (rs := [6]) (by kernel_rfl) (by simp) ?_
  refine AllReadyH.cons (o := ?or38_6) ?hor38_6 (fun K hK => ?kr38_6) AllReadyH.nil
  case hor38_6 => simp only [List.getElem?_toArray, List.getElem?_cons_succ, List.getElem?_cons_zero]; rfl
  go_simp
  have cc := may_any WD q.bet q.ballots q.margin
  rw [MY.out] at cc
  refine cc.mono ?_
  rintro e2 wq ⟨rfl, hw⟩
  have hw := hw.symm
  subst hw
  clear cc
  go_wp2_with fail
  refine hK.out _ _ ?_ (fun hHeld => ?_)
  · exact ⟨LD.cell 0 _ rfl, LD.cell 1 _ rfl, LD.cell 2 _ rfl, LD.cell 8 _ rfl, LD.cell 9 _ rfl⟩
  clear hK K
  try simp only [Act.put, List.setIfInBounds_toArray, List.set_cons_zero, List.set_cons_succ]
  refine wpAnyH_take (i := 7) (oi := ?a39_7) (v := ?b39_7) ?c39_7 (by kernel_rfl) (by kernel_rfl) (by kernel_rfl) ?d39_7 ?e39_7 (by assumption) ?f39_7
  case c39_7 => simp only [tA, tS, tZ]; rfl
  case d39_7 => exact fun _ _ _ h => h
  case e39_7 => (refine Or.inl ⟨by rfl, ?_⟩; intro w h; (try dsimp only at h); go_simp; all_goals with_reducible rfl)
  try simp only [Act.put, tI, tP, tQ]
  refine wpAnyH_take (i := 8) (oi := ?a40_8) (v := ?b40_8) ?c40_8 (by kernel_rfl) (by kernel_rfl) (by kernel_rfl) ?d40_8 ?e40_8 (by assumption) ?f40_8
  case c40_8 => simp only [tA, tS, tZ]; rfl
  case d40_8 => exact fun _ _ _ h => h
  case e40_8 => (refine Or.inl ⟨by rfl, ?_⟩; intro w h; (try dsimp only at h); go_simp; all_goals with_reducible rfl)
  try simp only [Act.put, tI, tP, tQ]
  refine wpAnyH_take (i := 9) (oi := ?a40_9) (v := ?b40_9) ?c40_9 (by kernel_rfl) (by kernel_rfl) (by kernel_rfl) ?d40_9 ?e40_9 (by assumption) ?f40_9
  case c40_9 => simp only [tA, tS, tZ]; rfl
  case d40_9 => exact fun _ _ _ h => h
  case e40_9 => (refine Or.inl ⟨by rfl, ?_⟩; intro w h; (try dsimp only at h); go_simp; all_goals with_reducible rfl)
  try simp only [Act.put, tI, tP, tQ]
  refine wpAnyH_take (i := 10) (oi := ?a40_10) (v := ?b40_10) ?c40_10 (by kernel_rfl) (by kernel_rfl) (by kernel_rfl) ?d40_10 ?e40_10 (by assumption) ?f40_10
  case c40_10 => simp only [tA, tS, tZ]; rfl
  case d40_10 => exact fun _ _ _ h => h
  case e40_10 => (refine Or.inl ⟨by rfl, ?_⟩; intro w h; (try dsimp only at h); go_simp; all_goals with_reducible rfl)
  try simp only [Act.put, tI, tP, tQ]
  refine wpAnyH_take (i := 11) (oi := ?a40_11) (v := ?b40_11) ?c40_11 (by kernel_rfl) (by kernel_rfl) (by kernel_rfl) ?d40_11 ?e40_11 (by assumption) ?f40_11
  case c40_11 => simp only [tA, tS, tZ]; rfl
  case d40_11 => exact fun _ _ _ h => h
  case e40_11 => (refine Or.inl ⟨by rfl, ?_⟩; intro w h; (try dsimp only at h); go_simp; all_goals with_reducible rfl)
  try simp only [Act.put, tI, tP, tQ]
  refine wpAnyH_ready (rs := [12]) (by kernel_rfl) (by simp) ?_
  refine AllReadyH.cons (o := ?or41_12) ?hor41_12 (fun K hK => ?kr41_12) AllReadyH.nil
  case hor41_12 => simp only [List.getElem?_toArray, List.getElem?_cons_succ, List.getElem?_cons_zero]; rfl
  go_simp
  have cc := refAtMost_any _ q1 q2
  rw [E1.out] at cc
  refine cc.mono ?_
  rintro e2 wq ⟨rfl, hb⟩
  clear cc
  have LD := LD.later hb
  have q1 := q1.below hb
  have q2 := q2.below hb
  clear hb
  go_wp2_with fail
  refine hK.out _ _ ?_ (fun hHeld => ?_)
  · exact ⟨LD.cell 0 _ rfl, LD.cell 1 _ rfl, LD.cell 2 _ rfl, LD.cell 8 _ rfl, LD.cell 9 _ rfl⟩
  clear hK K
  try simp only [Act.put, List.setIfInBounds_toArray, List.set_cons_zero, List.set_cons_succ]
  refine wpAnyH_take (i := 13) (oi := ?a42_13) (v := ?b42_13) ?c42_13 (by kernel_rfl) (by kernel_rfl) (by kernel_rfl) ?d42_13 ?e42_13 (by assumption) ?f42_13
  case c42_13 => simp only [tA, tS, tZ]; rfl
  case d42_13 => exact fun _ _ _ h => h
  case e42_13 => (refine Or.inl ⟨by rfl, ?_⟩; intro w h; (try dsimp only at h); go_simp; all_goals with_reducible rfl)
  try simp only [Act.put, tI, tP, tQ]
  refine wpAnyH_take (i := 14) (oi := ?a42_14) (v := ?b42_14) ?c42_14 (by kernel_rfl) (by kernel_rfl) (by kernel_rfl) ?d42_14 ?e42_14 (by assumption) ?f42_14
  case c42_14 => simp only [tA, tS, tZ]; rfl
  case d42_14 => exact fun _ _ _ h => h
  case e42_14 => (refine Or.inl ⟨by rfl, ?_⟩; intro w h; (try dsimp only at h); go_simp; all_goals with_reducible rfl)
  try simp only [Act.put, tI, tP, tQ]
  refine wpAnyH_take (i := 16) (oi := ?a43_16) (v := ?b43_16) ?c43_16 (by kernel_rfl) (by kernel_rfl) (by kernel_rfl) ?d43_16 ?e43_16 (by assumption) ?f43_16
  case c43_16 => simp only [tA, tS, tZ]; rfl
  case d43_16 => exact fun _ _ _ h => h
  case e43_16 => (refine Or.inl ⟨by rfl, ?_⟩; intro w h; (try dsimp only at h); go_simp; all_goals with_reducible rfl)
  try simp only [Act.put, tI, tP, tQ]
  refine wpAnyH_take (i := 17) (oi := ?a43_17) (v := ?b43_17) ?c43_17 (by kernel_rfl) (by kernel_rfl) (by kernel_rfl) ?d43_17 ?e43_17 (by assumption) ?f43_17
  case c43_17 => simp only [tA, tS, tZ]; rfl
  case d43_17 => exact fun _ _ _ h => h
  case e43_17 => (refine Or.inl ⟨by rfl, ?_⟩; intro w h; (try dsimp only at h); go_simp; all_goals with_reducible rfl)
  try simp only [Act.put, tI, tP, tQ]
  refine wpAnyH_ready (rs := [15]) (by kernel_rfl) (by simp) ?_
  refine AllReadyH.cons (o := ?or44_15) ?hor44_15 (fun K hK => ?kr44_15) AllReadyH.nil
  case hor44_15 => simp only [List.getElem?_toArray, List.getElem?_cons_succ, List.getElem?_cons_zero]; rfl
  go_simp
  refine (refOne_any _).mono ?_
  rintro e2 wq ⟨a9, n9, c9, rfl, x9, hb⟩
  have LD := LD.later hb
  have q1 := q1.below hb
  have q2 := q2.below hb
  clear hb
  go_wp2_with fail
  refine hK.out _ _ ?_ (fun hHeld => ?_)
  · exact ⟨LD.cell 0 _ rfl, LD.cell 1 _ rfl, LD.cell 2 _ rfl, LD.cell 8 _ rfl, LD.cell 9 _ rfl⟩
  clear hK K
  try simp only [Act.put, List.setIfInBounds_toArray, List.set_cons_zero, List.set_cons_succ]
  refine wpAnyH_ready (rs := [18]) (by kernel_rfl) (by simp) ?_
  refine AllReadyH.cons (o := ?or45_18) ?hor45_18 (fun K hK => ?kr45_18) AllReadyH.nil
  case hor45_18 => simp only [List.getElem?_toArray, List.getElem?_cons_succ, List.getElem?_cons_zero]; rfl
  go_simp
  have cc := refAtMost_any _ x9 q2
  rw [E2.out] at cc
  refine cc.mono ?_
  rintro e2 wq ⟨rfl, hb⟩
  clear cc
  have LD := LD.later hb
  have q1 := q1.below hb
  have q2 := q2.below hb
  clear x9
  clear hb
  go_wp2_with fail
  refine hK.out _ _ ?_ (fun hHeld => ?_)
  · exact ⟨LD.cell 0 _ rfl, LD.cell 1 _ rfl, LD.cell 2 _ rfl, LD.cell 8 _ rfl, LD.cell 9 _ rfl⟩
  clear hK K
  try simp only [Act.put, List.setIfInBounds_toArray, List.set_cons_zero, List.set_cons_succ]
  refine wpAnyH_take (i := 19) (oi := ?a46_19) (v := ?b46_19) ?c46_19 (by kernel_rfl) (by kernel_rfl) (by kernel_rfl) ?d46_19 ?e46_19 (by assumption) ?f46_19
  case c46_19 => simp only [tA, tS, tZ]; rfl
  case d46_19 => exact fun _ _ _ h => h
  case e46_19 => (refine Or.inl ⟨by rfl, ?_⟩; intro w h; (try dsimp only at h); go_simp; all_goals with_reducible rfl)
  try simp only [Act.put, tI, tP, tQ]
  refine wpAnyH_take (i := 20) (oi := ?a46_20) (v := ?b46_20) ?c46_20 (by kernel_rfl) (by kernel_rfl) (by kernel_rfl) ?d46_20 ?e46_20 (by assumption) ?f46_20
  case c46_20 => simp only [tA, tS, tZ]; rfl
  case d46_20 => exact fun _ _ _ h => h
  case e46_20 => (refine Or.inl ⟨by rfl, ?_⟩; intro w h; (try dsimp only at h); go_simp; all_goals with_reducible rfl)
  try simp only [Act.put, tI, tP, tQ]
  refine wpAnyH_take (i := 21) (oi := ?a47_21) (v := ?b47_21) ?c47_21 (by kernel_rfl) (by kernel_rfl) (by kernel_rfl) ?d47_21 ?e47_21 (by assumption) ?f47_21
  case c47_21 => simp only [tA, tS, tZ]; rfl
  case d47_21 => exact fun _ _ _ h => h
  case e47_21 => (refine Or.inl ⟨by rfl, ?_⟩; intro w h; (try dsimp only at h); go_simp; all_goals with_reducible rfl)
  try simp only [Act.put, tI, tP, tQ]
  refine wpAnyH_take (i := 22) (oi := ?a47_22) (v := ?b47_22) ?c47_22 (by kernel_rfl) (by kernel_rfl) (by kernel_rfl) ?d47_22 ?e47_22 (by assumption) ?f47_22
  case c47_22 => simp only [tA, tS, tZ]; rfl
  case d47_22 => exact fun _ _ _ h => h
  case e47_22 => (refine Or.inl ⟨by rfl, ?_⟩; intro w h; (try dsimp only at h); go_simp; all_goals with_reducible rfl)
  try simp only [Act.put, tI, tP, tQ]
  refine wpAnyH_ready (rs := [23]) (by kernel_rfl) (by simp) ?_
  refine AllReadyH.cons (o := ?or48_23) ?hor48_23 (fun K hK => ?kr48_23) AllReadyH.nil
  case hor48_23 => simp only [List.getElem?_toArray, List.getElem?_cons_succ, List.getElem?_cons_zero]; rfl
  go_simp
  refine (refMost_any _).mono ?_
  rintro e2 wq ⟨a9, n9, c9, rfl, x9, hb⟩
  have LD := LD.later hb
  have q1 := q1.below hb
  have q2 := q2.below hb
  clear hb
  go_wp2_with fail
  refine hK.out _ _ ?_ (fun hHeld => ?_)
  · exact ⟨LD.cell 0 _ rfl, LD.cell 1 _ rfl, LD.cell 2 _ rfl, LD.cell 8 _ rfl, LD.cell 9 _ rfl⟩
  clear hK K
  try simp only [Act.put, List.setIfInBounds_toArray, List.set_cons_zero, List.set_cons_succ]
  refine wpAnyH_ready (rs := [24]) (by kernel_rfl) (by simp) ?_
  refine AllReadyH.cons (o := ?or49_24) ?hor49_24 (fun K hK => ?kr49_24) AllReadyH.nil
  case hor49_24 => simp only [List.getElem?_toArray, List.getElem?_cons_succ, List.getElem?_cons_zero]; rfl
  go_simp
  have cc := refAtMost_any _ q2 x9
  rw [E3.out] at cc
  refine cc.mono ?_
  rintro e2 wq ⟨rfl, hb⟩
  clear cc
  have LD := LD.later hb
  have q1 := q1.below hb
  have q2 := q2.below hb
  clear x9
  clear hb
  go_wp2_with fail
  refine hK.out _ _ ?_ (fun hHeld => ?_)
  · exact ⟨LD.cell 0 _ rfl, LD.cell 1 _ rfl, LD.cell 2 _ rfl, LD.cell 8 _ rfl, LD.cell 9 _ rfl⟩
  clear hK K
  try simp only [Act.put, List.setIfInBounds_toArray, List.set_cons_zero, List.set_cons_succ]
  refine wpAnyH_take (i := 25) (oi := ?a50_25) (v := ?b50_25) ?c50_25 (by kernel_rfl) (by kernel_rfl) (by kernel_rfl) ?d50_25 ?e50_25 (by assumption) ?f50_25
  case c50_25 => simp only [tA, tS, tZ]; rfl
  case d50_25 => exact fun _ _ _ h => h
  case e50_25 => (refine Or.inl ⟨by rfl, ?_⟩; intro w h; (try dsimp only at h); go_simp; all_goals with_reducible rfl)
  try simp only [Act.put, tI, tP, tQ]
  refine wpAnyH_take (i := 26) (oi := ?a50_26) (v := ?b50_26) ?c50_26 (by kernel_rfl) (by kernel_rfl) (by kernel_rfl) ?d50_26 ?e50_26 (by assumption) ?f50_26
  case c50_26 => simp only [tA, tS, tZ]; rfl
  case d50_26 => exact fun _ _ _ h => h
  case e50_26 => (refine Or.inl ⟨by rfl, ?_⟩; intro w h; (try dsimp only at h); go_simp; all_goals with_reducible rfl)
  try simp only [Act.put, tI, tP, tQ]
  refine wpAnyH_done (by kernel_rfl) ?_ _
  rename World => W
  clear hHeld
  have k3 := LD.cell 3 _ rfl
  have k4 := LD.cell 4 _ rfl
  have k5 := LD.cell 5 _ rfl
  have k6 := LD.cell 6 _ rfl
  have k7 := LD.cell 7 _ rfl
  have HB := Lib.hid LD.below
  go_wp2_with fail
  go_loopw [3, 4] (fun o i wr => ∃ (k : Nat), k ≤ 5 ∧ i = .int .i64 (k : Nat) ∧ o = .bool (okK q k) ∧ wr = W) (fun _ i _ => 5 - (intOf i).toNat)
  case atStart => exact ⟨0, by omega, rfl, rfl, rfl⟩
  case round =>
    obtain ⟨k, hk, rfl, rfl, hW⟩ := hrel
    have hW := hW.symm
    subst hW
    by_cases hlt : k < 5
    · have five : k = 0 ∨ k = 1 ∨ k = 2 ∨ k = 3 ∨ k = 4 := by omega
      clear hlt hk
      rcases five with rfl | rfl | rfl | rfl | rfl
      · have b0 := okK_step q 0
        obtain ⟨t, ht⟩ : ∃ t, t = okK q 0 := ⟨_, rfl⟩
        have HT := Lib.hid ht
        have ST := Lib.hid b0
        rw [← ht]
        clear ht b0
        cases t
        · have NX := Lib.hid (show okK q 1 = false by rw [ST.out, ← HT.out]; rfl)
          go_wp2_with fail
          go_roundw
          case rel => exact ⟨1, by decide, by go_num, by rw [NX.out], by first | rfl | trivial⟩
          case measure => simp [intOf]
        · by_cases u1 : 0 ≤ q.s0
          · have d1 : decide (0 ≤ q.s0) = true := decide_eq_true u1
            have NX := Lib.hid (show okK q 1 = decide (q.s0 ≤ 1000000) by
              rw [ST.out, ← HT.out, Bool.true_and, decide_eq_decide]
              show inS q.s0 ↔ _
              unfold inS
              exact ⟨fun h => h.2, fun h => ⟨u1, h⟩⟩)
            clear u1
            go_wp2_with fail
            go_roundw
            case rel => exact ⟨1, by decide, by go_num, by rw [NX.out], by first | rfl | trivial⟩
            case measure => simp [intOf]
          · have d1 : decide (0 ≤ q.s0) = false := decide_eq_false u1
            have NX := Lib.hid (show okK q 1 = false by
              rw [ST.out, ← HT.out, Bool.true_and]
              exact decide_eq_false (fun h => u1 (show inS q.s0 from h).1))
            clear u1
            go_wp2_with fail
            go_roundw
            case rel => exact ⟨1, by decide, by go_num, by rw [NX.out], by first | rfl | trivial⟩
            case measure => simp [intOf]
      · have b0 := okK_step q 1
        obtain ⟨t, ht⟩ : ∃ t, t = okK q 1 := ⟨_, rfl⟩
        have HT := Lib.hid ht
        have ST := Lib.hid b0
        rw [← ht]
        clear ht b0
        cases t
        · have NX := Lib.hid (show okK q 2 = false by rw [ST.out, ← HT.out]; rfl)
          go_wp2_with fail
          go_roundw
          case rel => exact ⟨2, by decide, by go_num, by rw [NX.out], by first | rfl | trivial⟩
          case measure => simp [intOf]
        · by_cases u1 : 0 ≤ q.s1
          · have d1 : decide (0 ≤ q.s1) = true := decide_eq_true u1
            have NX := Lib.hid (show okK q 2 = decide (q.s1 ≤ 1000000) by
              rw [ST.out, ← HT.out, Bool.true_and, decide_eq_decide]
              show inS q.s1 ↔ _
              unfold inS
              exact ⟨fun h => h.2, fun h => ⟨u1, h⟩⟩)
            clear u1
            go_wp2_with fail
            go_roundw
            case rel => exact ⟨2, by decide, by go_num, by rw [NX.out], by first | rfl | trivial⟩
            case measure => simp [intOf]
          · have d1 : decide (0 ≤ q.s1) = false := decide_eq_false u1
            have NX := Lib.hid (show okK q 2 = false by
              rw [ST.out, ← HT.out, Bool.true_and]
              exact decide_eq_false (fun h => u1 (show inS q.s1 from h).1))
            clear u1
            go_wp2_with fail
            go_roundw
            case rel => exact ⟨2, by decide, by go_num, by rw [NX.out], by first | rfl | trivial⟩
            case measure => simp [intOf]
      · have b0 := okK_step q 2
        obtain ⟨t, ht⟩ : ∃ t, t = okK q 2 := ⟨_, rfl⟩
        have HT := Lib.hid ht
        have ST := Lib.hid b0
        rw [← ht]
        clear ht b0
        cases t
        · have NX := Lib.hid (show okK q 3 = false by rw [ST.out, ← HT.out]; rfl)
          go_wp2_with fail
          go_roundw
          case rel => exact ⟨3, by decide, by go_num, by rw [NX.out], by first | rfl | trivial⟩
          case measure => simp [intOf]
        · by_cases u1 : 0 ≤ q.s2
          · have d1 : decide (0 ≤ q.s2) = true := decide_eq_true u1
            have NX := Lib.hid (show okK q 3 = decide (q.s2 ≤ 1000000) by
              rw [ST.out, ← HT.out, Bool.true_and, decide_eq_decide]
              show inS q.s2 ↔ _
              unfold inS
              exact ⟨fun h => h.2, fun h => ⟨u1, h⟩⟩)
            clear u1
            go_wp2_with fail
            go_roundw
            case rel => exact ⟨3, by decide, by go_num, by rw [NX.out], by first | rfl | trivial⟩
            case measure => simp [intOf]
          · have d1 : decide (0 ≤ q.s2) = false := decide_eq_false u1
            have NX := Lib.hid (show okK q 3 = false by
              rw [ST.out, ← HT.out, Bool.true_and]
              exact decide_eq_false (fun h => u1 (show inS q.s2 from h).1))
            clear u1
            go_wp2_with fail
            go_roundw
            case rel => exact ⟨3, by decide, by go_num, by rw [NX.out], by first | rfl | trivial⟩
            case measure => simp [intOf]
      · have b0 := okK_step q 3
        obtain ⟨t, ht⟩ : ∃ t, t = okK q 3 := ⟨_, rfl⟩
        have HT := Lib.hid ht
        have ST := Lib.hid b0
        rw [← ht]
        clear ht b0
        cases t
        · have NX := Lib.hid (show okK q 4 = false by rw [ST.out, ← HT.out]; rfl)
          go_wp2_with fail
          go_roundw
          case rel => exact ⟨4, by decide, by go_num, by rw [NX.out], by first | rfl | trivial⟩
          case measure => simp [intOf]
        · by_cases u1 : 0 ≤ q.s3
          · have d1 : decide (0 ≤ q.s3) = true := decide_eq_true u1
            have NX := Lib.hid (show okK q 4 = decide (q.s3 ≤ 1000000) by
              rw [ST.out, ← HT.out, Bool.true_and, decide_eq_decide]
              show inS q.s3 ↔ _
              unfold inS
              exact ⟨fun h => h.2, fun h => ⟨u1, h⟩⟩)
            clear u1
            go_wp2_with fail
            go_roundw
            case rel => exact ⟨4, by decide, by go_num, by rw [NX.out], by first | rfl | trivial⟩
            case measure => simp [intOf]
          · have d1 : decide (0 ≤ q.s3) = false := decide_eq_false u1
            have NX := Lib.hid (show okK q 4 = false by
              rw [ST.out, ← HT.out, Bool.true_and]
              exact decide_eq_false (fun h => u1 (show inS q.s3 from h).1))
            clear u1
            go_wp2_with fail
            go_roundw
            case rel => exact ⟨4, by decide, by go_num, by rw [NX.out], by first | rfl | trivial⟩
            case measure => simp [intOf]
      · have b0 := okK_step q 4
        obtain ⟨t, ht⟩ : ∃ t, t = okK q 4 := ⟨_, rfl⟩
        have HT := Lib.hid ht
        have ST := Lib.hid b0
        rw [← ht]
        clear ht b0
        cases t
        · have NX := Lib.hid (show okK q 5 = false by rw [ST.out, ← HT.out]; rfl)
          go_wp2_with fail
          go_roundw
          case rel => exact ⟨5, by decide, by go_num, by rw [NX.out], by first | rfl | trivial⟩
          case measure => simp [intOf]
        · by_cases u1 : 0 ≤ q.s4
          · have d1 : decide (0 ≤ q.s4) = true := decide_eq_true u1
            have NX := Lib.hid (show okK q 5 = decide (q.s4 ≤ 1000000) by
              rw [ST.out, ← HT.out, Bool.true_and, decide_eq_decide]
              show inS q.s4 ↔ _
              unfold inS
              exact ⟨fun h => h.2, fun h => ⟨u1, h⟩⟩)
            clear u1
            go_wp2_with fail
            go_roundw
            case rel => exact ⟨5, by decide, by go_num, by rw [NX.out], by first | rfl | trivial⟩
            case measure => simp [intOf]
          · have d1 : decide (0 ≤ q.s4) = false := decide_eq_false u1
            have NX := Lib.hid (show okK q 5 = false by
              rw [ST.out, ← HT.out, Bool.true_and]
              exact decide_eq_false (fun h => u1 (show inS q.s4 from h).1))
            clear u1
            go_wp2_with fail
            go_roundw
            case rel => exact ⟨5, by decide, by go_num, by rw [NX.out], by first | rfl | trivial⟩
            case measure => simp [intOf]
    · obtain rfl : k = 5 := by omega
      obtain ⟨t, ht⟩ : ∃ t, t = okK q 5 := ⟨_, rfl⟩
      have HT := Lib.hid ht
      rw [← ht]
      clear ht hk hlt
      cases t
      · have e := Lib.hid (show r = 8 by rw [ER.out, ← HT.out]; rfl)
        go_wp2_with fail
        go_ret
        exact ⟨by rw [e.out]; rfl, HB.out⟩
      · have e := Lib.hid (show r = 0 by rw [ER.out, ← HT.out]; rfl)
        go_wp2_with fail
        go_ret
        exact ⟨by rw [e.out]; rfl, HB.out⟩

end Go.Proofs.Ytmkcdlhhbnakiaa
