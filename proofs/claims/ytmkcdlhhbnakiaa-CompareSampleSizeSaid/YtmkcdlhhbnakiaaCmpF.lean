/- Check of comparison audits in the answer. -/
import Derived.Test.YtmkcdlhhbnakiaaCmpE
namespace Go.Proofs.Ytmkcdlhhbnakiaa
open Go.RowKit Go.Suf
set_option linter.unusedVariables false
set_option linter.unusedSimpArgs false

/-- Whether the first k counts are in range. -/
def okK (q : CV) : Nat → Bool
  | 0 => true
  | k + 1 => okK q k && decide (inS (seenN q k))

theorem okK_step (q : CV) (k : Nat) : okK q (k + 1) = (okK q k && decide (inS (seenN q k))) := rfl

theorem okK_five (q : CV) : okK q 5 = seenOkC q := by
  show ((((true && decide (inS q.s0)) && decide (inS q.s1)) && decide (inS q.s2)) && decide (inS q.s3) && decide (inS q.s4)) = _
  unfold seenOkC
  by_cases h0 : inS q.s0 <;> by_cases h1 : inS q.s1 <;> by_cases h2 : inS q.s2 <;> by_cases h3 : inS q.s3 <;> by_cases h4 : inS q.s4 <;> simp [h0, h1, h2, h3, h4]

theorem chkC_no' {q : CV} (h : ¬ (mayC q.bet q.ballots q.margin ∧ seenOkC q = true ∧ leC q.lev q.best = true ∧ leC [0, 0, 1] q.best = true ∧ leC q.best [0, 0, 0, 0, 1] = true)) : chkC q = 8 := by
  unfold chkC
  rw [if_neg h]

set_option maxRecDepth 100000 in
set_option maxHeartbeats 8000000 in
theorem refCmCheck_any (w : World) {q : CV} {a b : Option Addr} {n m c d : Nat} (h1 : Rd .u32 w a n c q.lev) (h2 : Rd .u32 w b m d q.best) (hw : CW q) :
    Calls Try.prog 25 #[cmV q a n c b m d] w (RetIB w (chkC q)) := by
  obtain ⟨r, hr⟩ : ∃ r, r = chkC q := ⟨_, rfl⟩
  rw [← hr]
  have HR := Lib.hid hr
  clear hr
  have L1 := Has.new w (cmC q a n c b m d) 25
  have q1 := h1.below L1.below
  have q2 := h2.below L1.below
  clear h1 h2
  by_cases hm : mayC q.bet q.ballots q.margin
  case neg =>
    have e := Lib.hid (show r = 8 by rw [HR.out]; exact chkC_no' (fun h => hm h.1))
    have MY := Lib.hid (show decide (mayC q.bet q.ballots q.margin) = false from decide_eq_false hm)
    clear hm
    go_enter Try.func25, Try.ntmps25
    go_wp2_with fail
    have LD := L1
    have hb := (Below.refl (w.alloc (.cells (cmC q a n c b m d) 25)).heap.size (w.alloc (.cells (cmC q a n c b m d) 25))).drew
    have LD := LD.later hb
    have q1 := q1.below hb
    have q2 := q2.below hb
    clear hb
    refine wp_region_held_drew (S := (fun w' => w'.cell? ⟨w.heap.size, 0, none⟩ = some (.int .i64 q.bet) ∧ w'.cell? ⟨w.heap.size, 1, none⟩ = some (.int .i64 q.ballots) ∧ w'.cell? ⟨w.heap.size, 2, none⟩ = some (.int .i64 q.margin) ∧ w'.cell? ⟨w.heap.size, 8, none⟩ = some (.slice a n c) ∧ w'.cell? ⟨w.heap.size, 9, none⟩ = some (.slice b m d))) (by kernel_rfl) ?_ (fun hHeld => ?_)
    · exact ⟨LD.cell 0 _ rfl, LD.cell 1 _ rfl, LD.cell 2 _ rfl, LD.cell 8 _ rfl, LD.cell 9 _ rfl⟩
    generalize (w.alloc (.cells (cmC q a n c b m d) 25)).drew = WD at *
    refine wpAnyH_take (i := 0) (oi := ?oir1_0) (v := ?vr1_0) ?hir1_0 (by kernel_rfl) (by kernel_rfl) (by kernel_rfl) ?hqr1_0 ?hyr1_0 (by assumption) ?restr1_0
    case hir1_0 => simp only [List.getElem?_toArray, List.getElem?_cons_succ, List.getElem?_cons_zero]; rfl
    case hqr1_0 => exact fun _ _ _ h => h
    case hyr1_0 => (refine Or.inl ⟨by rfl, ?_⟩; intro w hSw; (try dsimp only at hSw); go_simp; all_goals with_reducible rfl)
    try simp only [Act.put, List.setIfInBounds_toArray, List.set_cons_zero, List.set_cons_succ]
    refine wpAnyH_take (i := 1) (oi := ?oir1_1) (v := ?vr1_1) ?hir1_1 (by kernel_rfl) (by kernel_rfl) (by kernel_rfl) ?hqr1_1 ?hyr1_1 (by assumption) ?restr1_1
    case hir1_1 => simp only [List.getElem?_toArray, List.getElem?_cons_succ, List.getElem?_cons_zero]; rfl
    case hqr1_1 => exact fun _ _ _ h => h
    case hyr1_1 => (refine Or.inl ⟨by rfl, ?_⟩; intro w hSw; (try dsimp only at hSw); go_simp; all_goals with_reducible rfl)
    try simp only [Act.put, List.setIfInBounds_toArray, List.set_cons_zero, List.set_cons_succ]
    refine wpAnyH_take (i := 2) (oi := ?oir1_2) (v := ?vr1_2) ?hir1_2 (by kernel_rfl) (by kernel_rfl) (by kernel_rfl) ?hqr1_2 ?hyr1_2 (by assumption) ?restr1_2
    case hir1_2 => simp only [List.getElem?_toArray, List.getElem?_cons_succ, List.getElem?_cons_zero]; rfl
    case hqr1_2 => exact fun _ _ _ h => h
    case hyr1_2 => (refine Or.inl ⟨by rfl, ?_⟩; intro w hSw; (try dsimp only at hSw); go_simp; all_goals with_reducible rfl)
    try simp only [Act.put, List.setIfInBounds_toArray, List.set_cons_zero, List.set_cons_succ]
    refine wpAnyH_take (i := 3) (oi := ?oir1_3) (v := ?vr1_3) ?hir1_3 (by kernel_rfl) (by kernel_rfl) (by kernel_rfl) ?hqr1_3 ?hyr1_3 (by assumption) ?restr1_3
    case hir1_3 => simp only [List.getElem?_toArray, List.getElem?_cons_succ, List.getElem?_cons_zero]; rfl
    case hqr1_3 => exact fun _ _ _ h => h
    case hyr1_3 => (refine Or.inl ⟨by rfl, ?_⟩; intro w hSw; (try dsimp only at hSw); go_simp; all_goals with_reducible rfl)
    try simp only [Act.put, List.setIfInBounds_toArray, List.set_cons_zero, List.set_cons_succ]
    refine wpAnyH_take (i := 4) (oi := ?oir1_4) (v := ?vr1_4) ?hir1_4 (by kernel_rfl) (by kernel_rfl) (by kernel_rfl) ?hqr1_4 ?hyr1_4 (by assumption) ?restr1_4
    case hir1_4 => simp only [List.getElem?_toArray, List.getElem?_cons_succ, List.getElem?_cons_zero]; rfl
    case hqr1_4 => exact fun _ _ _ h => h
    case hyr1_4 => (refine Or.inl ⟨by rfl, ?_⟩; intro w hSw; (try dsimp only at hSw); go_simp; all_goals with_reducible rfl)
    try simp only [Act.put, List.setIfInBounds_toArray, List.set_cons_zero, List.set_cons_succ]
    refine wpAnyH_take (i := 5) (oi := ?oir1_5) (v := ?vr1_5) ?hir1_5 (by kernel_rfl) (by kernel_rfl) (by kernel_rfl) ?hqr1_5 ?hyr1_5 (by assumption) ?restr1_5
    case hir1_5 => simp only [List.getElem?_toArray, List.getElem?_cons_succ, List.getElem?_cons_zero]; rfl
    case hqr1_5 => exact fun _ _ _ h => h
    case hyr1_5 => (refine Or.inl ⟨by rfl, ?_⟩; intro w hSw; (try dsimp only at hSw); go_simp; all_goals with_reducible rfl)
    try simp only [Act.put, List.setIfInBounds_toArray, List.set_cons_zero, List.set_cons_succ]
    refine wpAnyH_ready (rs := [6]) (by kernel_rfl) (by simp) ?_
    refine AllReadyH.cons (o := ?or2_6) ?hor2_6 (fun K hK => ?kr2_6) AllReadyH.nil
    case hor2_6 => simp only [List.getElem?_toArray, List.getElem?_cons_succ, List.getElem?_cons_zero]; rfl
    go_simp
    have cc := may_any WD q.bet q.ballots q.margin
    rw [MY.out] at cc
    refine cc.mono ?_
    rintro e2 wq ⟨rfl, hw⟩
    have hw := hw.symm
    subst hw
    clear cc
    go_wp2_with fail
    refine hK.out _ _ ?_ (fun hHeld => ?_)
    · exact ⟨LD.cell 0 _ rfl, LD.cell 1 _ rfl, LD.cell 2 _ rfl, LD.cell 8 _ rfl, LD.cell 9 _ rfl⟩
    clear hK K
    try simp only [Act.put, List.setIfInBounds_toArray, List.set_cons_zero, List.set_cons_succ]
    refine wpAnyH_take (i := 7) (oi := ?oir3_7) (v := ?vr3_7) ?hir3_7 (by kernel_rfl) (by kernel_rfl) (by kernel_rfl) ?hqr3_7 ?hyr3_7 (by assumption) ?restr3_7
    case hir3_7 => simp only [List.getElem?_toArray, List.getElem?_cons_succ, List.getElem?_cons_zero]; rfl
    case hqr3_7 => exact fun _ _ _ h => h
    case hyr3_7 => (refine Or.inl ⟨by rfl, ?_⟩; intro w hSw; (try dsimp only at hSw); go_simp; all_goals with_reducible rfl)
    try simp only [Act.put, List.setIfInBounds_toArray, List.set_cons_zero, List.set_cons_succ]
    refine wpAnyH_take (i := 8) (oi := ?oir4_8) (v := undef) ?hir4_8 (by kernel_rfl) (by kernel_rfl) (by kernel_rfl) ?hqr4_8 ?hyr4_8 (by assumption) ?restr4_8
    case hir4_8 => simp only [List.getElem?_toArray, List.getElem?_cons_succ, List.getElem?_cons_zero]; rfl
    case hqr4_8 => exact fun _ _ _ h => h
    case hyr4_8 => exact Or.inr ⟨by rfl, rfl⟩
    try simp only [Act.put, List.setIfInBounds_toArray, List.set_cons_zero, List.set_cons_succ]
    refine wpAnyH_take (i := 9) (oi := ?oir4_9) (v := undef) ?hir4_9 (by kernel_rfl) (by kernel_rfl) (by kernel_rfl) ?hqr4_9 ?hyr4_9 (by assumption) ?restr4_9
    case hir4_9 => simp only [List.getElem?_toArray, List.getElem?_cons_succ, List.getElem?_cons_zero]; rfl
    case hqr4_9 => exact fun _ _ _ h => h
    case hyr4_9 => exact Or.inr ⟨by rfl, rfl⟩
    try simp only [Act.put, List.setIfInBounds_toArray, List.set_cons_zero, List.set_cons_succ]
    refine wpAnyH_take (i := 10) (oi := ?oir4_10) (v := undef) ?hir4_10 (by kernel_rfl) (by kernel_rfl) (by kernel_rfl) ?hqr4_10 ?hyr4_10 (by assumption) ?restr4_10
    case hir4_10 => simp only [List.getElem?_toArray, List.getElem?_cons_succ, List.getElem?_cons_zero]; rfl
    case hqr4_10 => exact fun _ _ _ h => h
    case hyr4_10 => exact Or.inr ⟨by rfl, rfl⟩
    try simp only [Act.put, List.setIfInBounds_toArray, List.set_cons_zero, List.set_cons_succ]
    refine wpAnyH_take (i := 11) (oi := ?oir4_11) (v := undef) ?hir4_11 (by kernel_rfl) (by kernel_rfl) (by kernel_rfl) ?hqr4_11 ?hyr4_11 (by assumption) ?restr4_11
    case hir4_11 => simp only [List.getElem?_toArray, List.getElem?_cons_succ, List.getElem?_cons_zero]; rfl
    case hqr4_11 => exact fun _ _ _ h => h
    case hyr4_11 => exact Or.inr ⟨by rfl, rfl⟩
    try simp only [Act.put, List.setIfInBounds_toArray, List.set_cons_zero, List.set_cons_succ]
    refine wpAnyH_take (i := 12) (oi := ?oir4_12) (v := undef) ?hir4_12 (by kernel_rfl) (by kernel_rfl) (by kernel_rfl) ?hqr4_12 ?hyr4_12 (by assumption) ?restr4_12
    case hir4_12 => simp only [List.getElem?_toArray, List.getElem?_cons_succ, List.getElem?_cons_zero]; rfl
    case hqr4_12 => exact fun _ _ _ h => h
    case hyr4_12 => exact Or.inr ⟨by rfl, rfl⟩
    try simp only [Act.put, List.setIfInBounds_toArray, List.set_cons_zero, List.set_cons_succ]
    refine wpAnyH_take (i := 13) (oi := ?oir4_13) (v := ?vr4_13) ?hir4_13 (by kernel_rfl) (by kernel_rfl) (by kernel_rfl) ?hqr4_13 ?hyr4_13 (by assumption) ?restr4_13
    case hir4_13 => simp only [List.getElem?_toArray, List.getElem?_cons_succ, List.getElem?_cons_zero]; rfl
    case hqr4_13 => exact fun _ _ _ h => h
    case hyr4_13 => (refine Or.inl ⟨by rfl, ?_⟩; intro w hSw; (try dsimp only at hSw); go_simp; all_goals with_reducible rfl)
    try simp only [Act.put, List.setIfInBounds_toArray, List.set_cons_zero, List.set_cons_succ]
    refine wpAnyH_take (i := 14) (oi := ?oir4_14) (v := ?vr4_14) ?hir4_14 (by kernel_rfl) (by kernel_rfl) (by kernel_rfl) ?hqr4_14 ?hyr4_14 (by assumption) ?restr4_14
    case hir4_14 => simp only [List.getElem?_toArray, List.getElem?_cons_succ, List.getElem?_cons_zero]; rfl
    case hqr4_14 => exact fun _ _ _ h => h
    case hyr4_14 => (refine Or.inl ⟨by rfl, ?_⟩; intro w hSw; (try dsimp only at hSw); go_simp; all_goals with_reducible rfl)
    try simp only [Act.put, List.setIfInBounds_toArray, List.set_cons_zero, List.set_cons_succ]
    refine wpAnyH_take (i := 15) (oi := ?oir4_15) (v := undef) ?hir4_15 (by kernel_rfl) (by kernel_rfl) (by kernel_rfl) ?hqr4_15 ?hyr4_15 (by assumption) ?restr4_15
    case hir4_15 => simp only [List.getElem?_toArray, List.getElem?_cons_succ, List.getElem?_cons_zero]; rfl
    case hqr4_15 => exact fun _ _ _ h => h
    case hyr4_15 => exact Or.inr ⟨by rfl, rfl⟩
    try simp only [Act.put, List.setIfInBounds_toArray, List.set_cons_zero, List.set_cons_succ]
    refine wpAnyH_take (i := 16) (oi := ?oir4_16) (v := undef) ?hir4_16 (by kernel_rfl) (by kernel_rfl) (by kernel_rfl) ?hqr4_16 ?hyr4_16 (by assumption) ?restr4_16
    case hir4_16 => simp only [List.getElem?_toArray, List.getElem?_cons_succ, List.getElem?_cons_zero]; rfl
    case hqr4_16 => exact fun _ _ _ h => h
    case hyr4_16 => exact Or.inr ⟨by rfl, rfl⟩
    try simp only [Act.put, List.setIfInBounds_toArray, List.set_cons_zero, List.set_cons_succ]
    refine wpAnyH_take (i := 17) (oi := ?oir4_17) (v := undef) ?hir4_17 (by kernel_rfl) (by kernel_rfl) (by kernel_rfl) ?hqr4_17 ?hyr4_17 (by assumption) ?restr4_17
    case hir4_17 => simp only [List.getElem?_toArray, List.getElem?_cons_succ, List.getElem?_cons_zero]; rfl
    case hqr4_17 => exact fun _ _ _ h => h
    case hyr4_17 => exact Or.inr ⟨by rfl, rfl⟩
    try simp only [Act.put, List.setIfInBounds_toArray, List.set_cons_zero, List.set_cons_succ]
    refine wpAnyH_take (i := 18) (oi := ?oir4_18) (v := undef) ?hir4_18 (by kernel_rfl) (by kernel_rfl) (by kernel_rfl) ?hqr4_18 ?hyr4_18 (by assumption) ?restr4_18
    case hir4_18 => simp only [List.getElem?_toArray, List.getElem?_cons_succ, List.getElem?_cons_zero]; rfl
    case hqr4_18 => exact fun _ _ _ h => h
    case hyr4_18 => exact Or.inr ⟨by rfl, rfl⟩
    try simp only [Act.put, List.setIfInBounds_toArray, List.set_cons_zero, List.set_cons_succ]
    refine wpAnyH_take (i := 19) (oi := ?oir4_19) (v := ?vr4_19) ?hir4_19 (by kernel_rfl) (by kernel_rfl) (by kernel_rfl) ?hqr4_19 ?hyr4_19 (by assumption) ?restr4_19
    case hir4_19 => simp only [List.getElem?_toArray, List.getElem?_cons_succ, List.getElem?_cons_zero]; rfl
    case hqr4_19 => exact fun _ _ _ h => h
    case hyr4_19 => (refine Or.inl ⟨by rfl, ?_⟩; intro w hSw; (try dsimp only at hSw); go_simp; all_goals with_reducible rfl)
    try simp only [Act.put, List.setIfInBounds_toArray, List.set_cons_zero, List.set_cons_succ]
    refine wpAnyH_take (i := 20) (oi := ?oir4_20) (v := ?vr4_20) ?hir4_20 (by kernel_rfl) (by kernel_rfl) (by kernel_rfl) ?hqr4_20 ?hyr4_20 (by assumption) ?restr4_20
    case hir4_20 => simp only [List.getElem?_toArray, List.getElem?_cons_succ, List.getElem?_cons_zero]; rfl
    case hqr4_20 => exact fun _ _ _ h => h
    case hyr4_20 => (refine Or.inl ⟨by rfl, ?_⟩; intro w hSw; (try dsimp only at hSw); go_simp; all_goals with_reducible rfl)
    try simp only [Act.put, List.setIfInBounds_toArray, List.set_cons_zero, List.set_cons_succ]
    refine wpAnyH_take (i := 21) (oi := ?oir4_21) (v := undef) ?hir4_21 (by kernel_rfl) (by kernel_rfl) (by kernel_rfl) ?hqr4_21 ?hyr4_21 (by assumption) ?restr4_21
    case hir4_21 => simp only [List.getElem?_toArray, List.getElem?_cons_succ, List.getElem?_cons_zero]; rfl
    case hqr4_21 => exact fun _ _ _ h => h
    case hyr4_21 => exact Or.inr ⟨by rfl, rfl⟩
    try simp only [Act.put, List.setIfInBounds_toArray, List.set_cons_zero, List.set_cons_succ]
    refine wpAnyH_take (i := 22) (oi := ?oir4_22) (v := undef) ?hir4_22 (by kernel_rfl) (by kernel_rfl) (by kernel_rfl) ?hqr4_22 ?hyr4_22 (by assumption) ?restr4_22
    case hir4_22 => simp only [List.getElem?_toArray, List.getElem?_cons_succ, List.getElem?_cons_zero]; rfl
    case hqr4_22 => exact fun _ _ _ h => h
    case hyr4_22 => exact Or.inr ⟨by rfl, rfl⟩
    try simp only [Act.put, List.setIfInBounds_toArray, List.set_cons_zero, List.set_cons_succ]
    refine wpAnyH_take (i := 23) (oi := ?oir4_23) (v := undef) ?hir4_23 (by kernel_rfl) (by kernel_rfl) (by kernel_rfl) ?hqr4_23 ?hyr4_23 (by assumption) ?restr4_23
    case hir4_23 => simp only [List.getElem?_toArray, List.getElem?_cons_succ, List.getElem?_cons_zero]; rfl
    case hqr4_23 => exact fun _ _ _ h => h
    case hyr4_23 => exact Or.inr ⟨by rfl, rfl⟩
    try simp only [Act.put, List.setIfInBounds_toArray, List.set_cons_zero, List.set_cons_succ]
    refine wpAnyH_take (i := 24) (oi := ?oir4_24) (v := undef) ?hir4_24 (by kernel_rfl) (by kernel_rfl) (by kernel_rfl) ?hqr4_24 ?hyr4_24 (by assumption) ?restr4_24
    case hir4_24 => simp only [List.getElem?_toArray, List.getElem?_cons_succ, List.getElem?_cons_zero]; rfl
    case hqr4_24 => exact fun _ _ _ h => h
    case hyr4_24 => exact Or.inr ⟨by rfl, rfl⟩
    try simp only [Act.put, List.setIfInBounds_toArray, List.set_cons_zero, List.set_cons_succ]
    refine wpAnyH_take (i := 25) (oi := ?oir4_25) (v := ?vr4_25) ?hir4_25 (by kernel_rfl) (by kernel_rfl) (by kernel_rfl) ?hqr4_25 ?hyr4_25 (by assumption) ?restr4_25
    case hir4_25 => simp only [List.getElem?_toArray, List.getElem?_cons_succ, List.getElem?_cons_zero]; rfl
    case hqr4_25 => exact fun _ _ _ h => h
    case hyr4_25 => (refine Or.inl ⟨by rfl, ?_⟩; intro w hSw; (try dsimp only at hSw); go_simp; all_goals with_reducible rfl)
    try simp only [Act.put, List.setIfInBounds_toArray, List.set_cons_zero, List.set_cons_succ]
    refine wpAnyH_take (i := 26) (oi := ?oir4_26) (v := ?vr4_26) ?hir4_26 (by kernel_rfl) (by kernel_rfl) (by kernel_rfl) ?hqr4_26 ?hyr4_26 (by assumption) ?restr4_26
    case hir4_26 => simp only [List.getElem?_toArray, List.getElem?_cons_succ, List.getElem?_cons_zero]; rfl
    case hqr4_26 => exact fun _ _ _ h => h
    case hyr4_26 => (refine Or.inl ⟨by rfl, ?_⟩; intro w hSw; (try dsimp only at hSw); go_simp; all_goals with_reducible rfl)
    try simp only [Act.put, List.setIfInBounds_toArray, List.set_cons_zero, List.set_cons_succ]
    refine wpAnyH_done (by kernel_rfl) ?_ _
    rename World => W
    clear hHeld
    have k3 := LD.cell 3 _ rfl
    have k4 := LD.cell 4 _ rfl
    have k5 := LD.cell 5 _ rfl
    have k6 := LD.cell 6 _ rfl
    have k7 := LD.cell 7 _ rfl
    have HB := Lib.hid LD.below
    go_wp2_with fail
    go_loopw [3, 4] (fun o i wr => ∃ (k : Nat), k ≤ 5 ∧ i = .int .i64 (k : Nat) ∧ o = .bool false ∧ wr = W) (fun _ i _ => 5 - (intOf i).toNat)
    case atStart => exact ⟨0, by omega, rfl, rfl, rfl⟩
    case round =>
      obtain ⟨k, hk, rfl, rfl, hW⟩ := hrel
      have hW := hW.symm
      subst hW
      by_cases hlt : k < 5
      · go_wp2_with fail
        go_roundw
        case rel => exact ⟨k + 1, by omega, by go_num, by first | rfl | trivial, by first | rfl | trivial⟩
        case measure => simp [intOf]; omega
      · obtain rfl : k = 5 := by omega
        go_wp2_with fail
        go_ret
        exact ⟨by rw [e.out]; rfl, HB.out⟩
  case pos =>
  cases c1 : leC q.lev q.best
  case false =>
    have MY := Lib.hid (show decide (mayC q.bet q.ballots q.margin) = true from decide_eq_true hm)
    have e := Lib.hid (show r = 8 by rw [HR.out]; exact chkC_no' (fun h => by have := h.2.2.1; rw [c1] at this; simp at this))
    have E1 := Lib.hid c1
    clear hm c1
    go_enter Try.func25, Try.ntmps25
    go_wp2_with fail
    have LD := L1
    have hb := (Below.refl (w.alloc (.cells (cmC q a n c b m d) 25)).heap.size (w.alloc (.cells (cmC q a n c b m d) 25))).drew
    have LD := LD.later hb
    have q1 := q1.below hb
    have q2 := q2.below hb
    clear hb
    refine wp_region_held_drew (S := (fun w' => w'.cell? ⟨w.heap.size, 0, none⟩ = some (.int .i64 q.bet) ∧ w'.cell? ⟨w.heap.size, 1, none⟩ = some (.int .i64 q.ballots) ∧ w'.cell? ⟨w.heap.size, 2, none⟩ = some (.int .i64 q.margin) ∧ w'.cell? ⟨w.heap.size, 8, none⟩ = some (.slice a n c) ∧ w'.cell? ⟨w.heap.size, 9, none⟩ = some (.slice b m d))) (by kernel_rfl) ?_ (fun hHeld => ?_)
    · exact ⟨LD.cell 0 _ rfl, LD.cell 1 _ rfl, LD.cell 2 _ rfl, LD.cell 8 _ rfl, LD.cell 9 _ rfl⟩
    generalize (w.alloc (.cells (cmC q a n c b m d) 25)).drew = WD at *
    refine wpAnyH_take (i := 0) (oi := ?oir5_0) (v := ?vr5_0) ?hir5_0 (by kernel_rfl) (by kernel_rfl) (by kernel_rfl) ?hqr5_0 ?hyr5_0 (by assumption) ?restr5_0
    case hir5_0 => simp only [List.getElem?_toArray, List.getElem?_cons_succ, List.getElem?_cons_zero]; rfl
    case hqr5_0 => exact fun _ _ _ h => h
    case hyr5_0 => (refine Or.inl ⟨by rfl, ?_⟩; intro w hSw; (try dsimp only at hSw); go_simp; all_goals with_reducible rfl)
    try simp only [Act.put, List.setIfInBounds_toArray, List.set_cons_zero, List.set_cons_succ]
    refine wpAnyH_take (i := 1) (oi := ?oir5_1) (v := ?vr5_1) ?hir5_1 (by kernel_rfl) (by kernel_rfl) (by kernel_rfl) ?hqr5_1 ?hyr5_1 (by assumption) ?restr5_1
    case hir5_1 => simp only [List.getElem?_toArray, List.getElem?_cons_succ, List.getElem?_cons_zero]; rfl
    case hqr5_1 => exact fun _ _ _ h => h
    case hyr5_1 => (refine Or.inl ⟨by rfl, ?_⟩; intro w hSw; (try dsimp only at hSw); go_simp; all_goals with_reducible rfl)
    try simp only [Act.put, List.setIfInBounds_toArray, List.set_cons_zero, List.set_cons_succ]
    refine wpAnyH_take (i := 2) (oi := ?oir5_2) (v := ?vr5_2) ?hir5_2 (by kernel_rfl) (by kernel_rfl) (by kernel_rfl) ?hqr5_2 ?hyr5_2 (by assumption) ?restr5_2
    case hir5_2 => simp only [List.getElem?_toArray, List.getElem?_cons_succ, List.getElem?_cons_zero]; rfl
    case hqr5_2 => exact fun _ _ _ h => h
    case hyr5_2 => (refine Or.inl ⟨by rfl, ?_⟩; intro w hSw; (try dsimp only at hSw); go_simp; all_goals with_reducible rfl)
    try simp only [Act.put, List.setIfInBounds_toArray, List.set_cons_zero, List.set_cons_succ]
    refine wpAnyH_take (i := 3) (oi := ?oir5_3) (v := ?vr5_3) ?hir5_3 (by kernel_rfl) (by kernel_rfl) (by kernel_rfl) ?hqr5_3 ?hyr5_3 (by assumption) ?restr5_3
    case hir5_3 => simp only [List.getElem?_toArray, List.getElem?_cons_succ, List.getElem?_cons_zero]; rfl
    case hqr5_3 => exact fun _ _ _ h => h
    case hyr5_3 => (refine Or.inl ⟨by rfl, ?_⟩; intro w hSw; (try dsimp only at hSw); go_simp; all_goals with_reducible rfl)
    try simp only [Act.put, List.setIfInBounds_toArray, List.set_cons_zero, List.set_cons_succ]
    refine wpAnyH_take (i := 4) (oi := ?oir5_4) (v := ?vr5_4) ?hir5_4 (by kernel_rfl) (by kernel_rfl) (by kernel_rfl) ?hqr5_4 ?hyr5_4 (by assumption) ?restr5_4
    case hir5_4 => simp only [List.getElem?_toArray, List.getElem?_cons_succ, List.getElem?_cons_zero]; rfl
    case hqr5_4 => exact fun _ _ _ h => h
    case hyr5_4 => (refine Or.inl ⟨by rfl, ?_⟩; intro w hSw; (try dsimp only at hSw); go_simp; all_goals with_reducible rfl)
    try simp only [Act.put, List.setIfInBounds_toArray, List.set_cons_zero, List.set_cons_succ]
    refine wpAnyH_take (i := 5) (oi := ?oir5_5) (v := ?vr5_5) ?hir5_5 (by kernel_rfl) (by kernel_rfl) (by kernel_rfl) ?hqr5_5 ?hyr5_5 (by assumption) ?restr5_5
    case hir5_5 => simp only [List.getElem?_toArray, List.getElem?_cons_succ, List.getElem?_cons_zero]; rfl
    case hqr5_5 => exact fun _ _ _ h => h
    case hyr5_5 => (refine Or.inl ⟨by rfl, ?_⟩; intro w hSw; (try dsimp only at hSw); go_simp; all_goals with_reducible rfl)
    try simp only [Act.put, List.setIfInBounds_toArray, List.set_cons_zero, List.set_cons_succ]
    refine wpAnyH_ready (rs := [6]) (by kernel_rfl) (by simp) ?_
    refine AllReadyH.cons (o := ?or6_6) ?hor6_6 (fun K hK => ?kr6_6) AllReadyH.nil
    case hor6_6 => simp only [List.getElem?_toArray, List.getElem?_cons_succ, List.getElem?_cons_zero]; rfl
    go_simp
    have cc := may_any WD q.bet q.ballots q.margin
    rw [MY.out] at cc
    refine cc.mono ?_
    rintro e2 wq ⟨rfl, hw⟩
    have hw := hw.symm
    subst hw
    clear cc
    go_wp2_with fail
    refine hK.out _ _ ?_ (fun hHeld => ?_)
    · exact ⟨LD.cell 0 _ rfl, LD.cell 1 _ rfl, LD.cell 2 _ rfl, LD.cell 8 _ rfl, LD.cell 9 _ rfl⟩
    clear hK K
    try simp only [Act.put, List.setIfInBounds_toArray, List.set_cons_zero, List.set_cons_succ]
    refine wpAnyH_take (i := 7) (oi := ?oir7_7) (v := ?vr7_7) ?hir7_7 (by kernel_rfl) (by kernel_rfl) (by kernel_rfl) ?hqr7_7 ?hyr7_7 (by assumption) ?restr7_7
    case hir7_7 => simp only [List.getElem?_toArray, List.getElem?_cons_succ, List.getElem?_cons_zero]; rfl
    case hqr7_7 => exact fun _ _ _ h => h
    case hyr7_7 => (refine Or.inl ⟨by rfl, ?_⟩; intro w hSw; (try dsimp only at hSw); go_simp; all_goals with_reducible rfl)
    try simp only [Act.put, List.setIfInBounds_toArray, List.set_cons_zero, List.set_cons_succ]
    refine wpAnyH_take (i := 8) (oi := ?oir8_8) (v := ?vr8_8) ?hir8_8 (by kernel_rfl) (by kernel_rfl) (by kernel_rfl) ?hqr8_8 ?hyr8_8 (by assumption) ?restr8_8
    case hir8_8 => simp only [List.getElem?_toArray, List.getElem?_cons_succ, List.getElem?_cons_zero]; rfl
    case hqr8_8 => exact fun _ _ _ h => h
    case hyr8_8 => (refine Or.inl ⟨by rfl, ?_⟩; intro w hSw; (try dsimp only at hSw); go_simp; all_goals with_reducible rfl)
    try simp only [Act.put, List.setIfInBounds_toArray, List.set_cons_zero, List.set_cons_succ]
    refine wpAnyH_take (i := 9) (oi := ?oir8_9) (v := ?vr8_9) ?hir8_9 (by kernel_rfl) (by kernel_rfl) (by kernel_rfl) ?hqr8_9 ?hyr8_9 (by assumption) ?restr8_9
    case hir8_9 => simp only [List.getElem?_toArray, List.getElem?_cons_succ, List.getElem?_cons_zero]; rfl
    case hqr8_9 => exact fun _ _ _ h => h
    case hyr8_9 => (refine Or.inl ⟨by rfl, ?_⟩; intro w hSw; (try dsimp only at hSw); go_simp; all_goals with_reducible rfl)
    try simp only [Act.put, List.setIfInBounds_toArray, List.set_cons_zero, List.set_cons_succ]
    refine wpAnyH_take (i := 10) (oi := ?oir8_10) (v := ?vr8_10) ?hir8_10 (by kernel_rfl) (by kernel_rfl) (by kernel_rfl) ?hqr8_10 ?hyr8_10 (by assumption) ?restr8_10
    case hir8_10 => simp only [List.getElem?_toArray, List.getElem?_cons_succ, List.getElem?_cons_zero]; rfl
    case hqr8_10 => exact fun _ _ _ h => h
    case hyr8_10 => (refine Or.inl ⟨by rfl, ?_⟩; intro w hSw; (try dsimp only at hSw); go_simp; all_goals with_reducible rfl)
    try simp only [Act.put, List.setIfInBounds_toArray, List.set_cons_zero, List.set_cons_succ]
    refine wpAnyH_take (i := 11) (oi := ?oir8_11) (v := ?vr8_11) ?hir8_11 (by kernel_rfl) (by kernel_rfl) (by kernel_rfl) ?hqr8_11 ?hyr8_11 (by assumption) ?restr8_11
    case hir8_11 => simp only [List.getElem?_toArray, List.getElem?_cons_succ, List.getElem?_cons_zero]; rfl
    case hqr8_11 => exact fun _ _ _ h => h
    case hyr8_11 => (refine Or.inl ⟨by rfl, ?_⟩; intro w hSw; (try dsimp only at hSw); go_simp; all_goals with_reducible rfl)
    try simp only [Act.put, List.setIfInBounds_toArray, List.set_cons_zero, List.set_cons_succ]
    refine wpAnyH_ready (rs := [12]) (by kernel_rfl) (by simp) ?_
    refine AllReadyH.cons (o := ?or9_12) ?hor9_12 (fun K hK => ?kr9_12) AllReadyH.nil
    case hor9_12 => simp only [List.getElem?_toArray, List.getElem?_cons_succ, List.getElem?_cons_zero]; rfl
    go_simp
    have cc := refAtMost_any _ q1 q2
    rw [E1.out] at cc
    refine cc.mono ?_
    rintro e2 wq ⟨rfl, hb⟩
    clear cc
    have LD := LD.later hb
    have q1 := q1.below hb
    have q2 := q2.below hb
    clear hb
    go_wp2_with fail
    refine hK.out _ _ ?_ (fun hHeld => ?_)
    · exact ⟨LD.cell 0 _ rfl, LD.cell 1 _ rfl, LD.cell 2 _ rfl, LD.cell 8 _ rfl, LD.cell 9 _ rfl⟩
    clear hK K
    try simp only [Act.put, List.setIfInBounds_toArray, List.set_cons_zero, List.set_cons_succ]
    refine wpAnyH_take (i := 13) (oi := ?oir10_13) (v := ?vr10_13) ?hir10_13 (by kernel_rfl) (by kernel_rfl) (by kernel_rfl) ?hqr10_13 ?hyr10_13 (by assumption) ?restr10_13
    case hir10_13 => simp only [List.getElem?_toArray, List.getElem?_cons_succ, List.getElem?_cons_zero]; rfl
    case hqr10_13 => exact fun _ _ _ h => h
    case hyr10_13 => (refine Or.inl ⟨by rfl, ?_⟩; intro w hSw; (try dsimp only at hSw); go_simp; all_goals with_reducible rfl)
    try simp only [Act.put, List.setIfInBounds_toArray, List.set_cons_zero, List.set_cons_succ]
    refine wpAnyH_take (i := 14) (oi := ?oir10_14) (v := ?vr10_14) ?hir10_14 (by kernel_rfl) (by kernel_rfl) (by kernel_rfl) ?hqr10_14 ?hyr10_14 (by assumption) ?restr10_14
    case hir10_14 => simp only [List.getElem?_toArray, List.getElem?_cons_succ, List.getElem?_cons_zero]; rfl
    case hqr10_14 => exact fun _ _ _ h => h
    case hyr10_14 => (refine Or.inl ⟨by rfl, ?_⟩; intro w hSw; (try dsimp only at hSw); go_simp; all_goals with_reducible rfl)
    try simp only [Act.put, List.setIfInBounds_toArray, List.set_cons_zero, List.set_cons_succ]
    refine wpAnyH_take (i := 15) (oi := ?oir11_15) (v := undef) ?hir11_15 (by kernel_rfl) (by kernel_rfl) (by kernel_rfl) ?hqr11_15 ?hyr11_15 (by assumption) ?restr11_15
    case hir11_15 => simp only [List.getElem?_toArray, List.getElem?_cons_succ, List.getElem?_cons_zero]; rfl
    case hqr11_15 => exact fun _ _ _ h => h
    case hyr11_15 => exact Or.inr ⟨by rfl, rfl⟩
    try simp only [Act.put, List.setIfInBounds_toArray, List.set_cons_zero, List.set_cons_succ]
    refine wpAnyH_take (i := 16) (oi := ?oir11_16) (v := undef) ?hir11_16 (by kernel_rfl) (by kernel_rfl) (by kernel_rfl) ?hqr11_16 ?hyr11_16 (by assumption) ?restr11_16
    case hir11_16 => simp only [List.getElem?_toArray, List.getElem?_cons_succ, List.getElem?_cons_zero]; rfl
    case hqr11_16 => exact fun _ _ _ h => h
    case hyr11_16 => exact Or.inr ⟨by rfl, rfl⟩
    try simp only [Act.put, List.setIfInBounds_toArray, List.set_cons_zero, List.set_cons_succ]
    refine wpAnyH_take (i := 17) (oi := ?oir11_17) (v := undef) ?hir11_17 (by kernel_rfl) (by kernel_rfl) (by kernel_rfl) ?hqr11_17 ?hyr11_17 (by assumption) ?restr11_17
    case hir11_17 => simp only [List.getElem?_toArray, List.getElem?_cons_succ, List.getElem?_cons_zero]; rfl
    case hqr11_17 => exact fun _ _ _ h => h
    case hyr11_17 => exact Or.inr ⟨by rfl, rfl⟩
    try simp only [Act.put, List.setIfInBounds_toArray, List.set_cons_zero, List.set_cons_succ]
    refine wpAnyH_take (i := 18) (oi := ?oir11_18) (v := undef) ?hir11_18 (by kernel_rfl) (by kernel_rfl) (by kernel_rfl) ?hqr11_18 ?hyr11_18 (by assumption) ?restr11_18
    case hir11_18 => simp only [List.getElem?_toArray, List.getElem?_cons_succ, List.getElem?_cons_zero]; rfl
    case hqr11_18 => exact fun _ _ _ h => h
    case hyr11_18 => exact Or.inr ⟨by rfl, rfl⟩
    try simp only [Act.put, List.setIfInBounds_toArray, List.set_cons_zero, List.set_cons_succ]
    refine wpAnyH_take (i := 19) (oi := ?oir11_19) (v := ?vr11_19) ?hir11_19 (by kernel_rfl) (by kernel_rfl) (by kernel_rfl) ?hqr11_19 ?hyr11_19 (by assumption) ?restr11_19
    case hir11_19 => simp only [List.getElem?_toArray, List.getElem?_cons_succ, List.getElem?_cons_zero]; rfl
    case hqr11_19 => exact fun _ _ _ h => h
    case hyr11_19 => (refine Or.inl ⟨by rfl, ?_⟩; intro w hSw; (try dsimp only at hSw); go_simp; all_goals with_reducible rfl)
    try simp only [Act.put, List.setIfInBounds_toArray, List.set_cons_zero, List.set_cons_succ]
    refine wpAnyH_take (i := 20) (oi := ?oir11_20) (v := ?vr11_20) ?hir11_20 (by kernel_rfl) (by kernel_rfl) (by kernel_rfl) ?hqr11_20 ?hyr11_20 (by assumption) ?restr11_20
    case hir11_20 => simp only [List.getElem?_toArray, List.getElem?_cons_succ, List.getElem?_cons_zero]; rfl
    case hqr11_20 => exact fun _ _ _ h => h
    case hyr11_20 => (refine Or.inl ⟨by rfl, ?_⟩; intro w hSw; (try dsimp only at hSw); go_simp; all_goals with_reducible rfl)
    try simp only [Act.put, List.setIfInBounds_toArray, List.set_cons_zero, List.set_cons_succ]
    refine wpAnyH_take (i := 21) (oi := ?oir11_21) (v := undef) ?hir11_21 (by kernel_rfl) (by kernel_rfl) (by kernel_rfl) ?hqr11_21 ?hyr11_21 (by assumption) ?restr11_21
    case hir11_21 => simp only [List.getElem?_toArray, List.getElem?_cons_succ, List.getElem?_cons_zero]; rfl
    case hqr11_21 => exact fun _ _ _ h => h
    case hyr11_21 => exact Or.inr ⟨by rfl, rfl⟩
    try simp only [Act.put, List.setIfInBounds_toArray, List.set_cons_zero, List.set_cons_succ]
    refine wpAnyH_take (i := 22) (oi := ?oir11_22) (v := undef) ?hir11_22 (by kernel_rfl) (by kernel_rfl) (by kernel_rfl) ?hqr11_22 ?hyr11_22 (by assumption) ?restr11_22
    case hir11_22 => simp only [List.getElem?_toArray, List.getElem?_cons_succ, List.getElem?_cons_zero]; rfl
    case hqr11_22 => exact fun _ _ _ h => h
    case hyr11_22 => exact Or.inr ⟨by rfl, rfl⟩
    try simp only [Act.put, List.setIfInBounds_toArray, List.set_cons_zero, List.set_cons_succ]
    refine wpAnyH_take (i := 23) (oi := ?oir11_23) (v := undef) ?hir11_23 (by kernel_rfl) (by kernel_rfl) (by kernel_rfl) ?hqr11_23 ?hyr11_23 (by assumption) ?restr11_23
    case hir11_23 => simp only [List.getElem?_toArray, List.getElem?_cons_succ, List.getElem?_cons_zero]; rfl
    case hqr11_23 => exact fun _ _ _ h => h
    case hyr11_23 => exact Or.inr ⟨by rfl, rfl⟩
    try simp only [Act.put, List.setIfInBounds_toArray, List.set_cons_zero, List.set_cons_succ]
    refine wpAnyH_take (i := 24) (oi := ?oir11_24) (v := undef) ?hir11_24 (by kernel_rfl) (by kernel_rfl) (by kernel_rfl) ?hqr11_24 ?hyr11_24 (by assumption) ?restr11_24
    case hir11_24 => simp only [List.getElem?_toArray, List.getElem?_cons_succ, List.getElem?_cons_zero]; rfl
    case hqr11_24 => exact fun _ _ _ h => h
    case hyr11_24 => exact Or.inr ⟨by rfl, rfl⟩
    try simp only [Act.put, List.setIfInBounds_toArray, List.set_cons_zero, List.set_cons_succ]
    refine wpAnyH_take (i := 25) (oi := ?oir11_25) (v := ?vr11_25) ?hir11_25 (by kernel_rfl) (by kernel_rfl) (by kernel_rfl) ?hqr11_25 ?hyr11_25 (by assumption) ?restr11_25
    case hir11_25 => simp only [List.getElem?_toArray, List.getElem?_cons_succ, List.getElem?_cons_zero]; rfl
    case hqr11_25 => exact fun _ _ _ h => h
    case hyr11_25 => (refine Or.inl ⟨by rfl, ?_⟩; intro w hSw; (try dsimp only at hSw); go_simp; all_goals with_reducible rfl)
    try simp only [Act.put, List.setIfInBounds_toArray, List.set_cons_zero, List.set_cons_succ]
    refine wpAnyH_take (i := 26) (oi := ?oir11_26) (v := ?vr11_26) ?hir11_26 (by kernel_rfl) (by kernel_rfl) (by kernel_rfl) ?hqr11_26 ?hyr11_26 (by assumption) ?restr11_26
    case hir11_26 => simp only [List.getElem?_toArray, List.getElem?_cons_succ, List.getElem?_cons_zero]; rfl
    case hqr11_26 => exact fun _ _ _ h => h
    case hyr11_26 => (refine Or.inl ⟨by rfl, ?_⟩; intro w hSw; (try dsimp only at hSw); go_simp; all_goals with_reducible rfl)
    try simp only [Act.put, List.setIfInBounds_toArray, List.set_cons_zero, List.set_cons_succ]
    refine wpAnyH_done (by kernel_rfl) ?_ _
    rename World => W
    clear hHeld
    have k3 := LD.cell 3 _ rfl
    have k4 := LD.cell 4 _ rfl
    have k5 := LD.cell 5 _ rfl
    have k6 := LD.cell 6 _ rfl
    have k7 := LD.cell 7 _ rfl
    have HB := Lib.hid LD.below
    go_wp2_with fail
    go_loopw [3, 4] (fun o i wr => ∃ (k : Nat), k ≤ 5 ∧ i = .int .i64 (k : Nat) ∧ o = .bool false ∧ wr = W) (fun _ i _ => 5 - (intOf i).toNat)
    case atStart => exact ⟨0, by omega, rfl, rfl, rfl⟩
    case round =>
      obtain ⟨k, hk, rfl, rfl, hW⟩ := hrel
      have hW := hW.symm
      subst hW
      by_cases hlt : k < 5
      · go_wp2_with fail
        go_roundw
        case rel => exact ⟨k + 1, by omega, by go_num, by first | rfl | trivial, by first | rfl | trivial⟩
        case measure => simp [intOf]; omega
      · obtain rfl : k = 5 := by omega
        go_wp2_with fail
        go_ret
        exact ⟨by rw [e.out]; rfl, HB.out⟩
  cases c2 : leC [0, 0, 1] q.best
  case false =>
    have MY := Lib.hid (show decide (mayC q.bet q.ballots q.margin) = true from decide_eq_true hm)
    have e := Lib.hid (show r = 8 by rw [HR.out]; exact chkC_no' (fun h => by have := h.2.2.2.1; rw [c2] at this; simp at this))
    have E1 := Lib.hid c1
    have E2 := Lib.hid c2
    clear hm c1 c2
    go_enter Try.func25, Try.ntmps25
    go_wp2_with fail
    have LD := L1
    have hb := (Below.refl (w.alloc (.cells (cmC q a n c b m d) 25)).heap.size (w.alloc (.cells (cmC q a n c b m d) 25))).drew
    have LD := LD.later hb
    have q1 := q1.below hb
    have q2 := q2.below hb
    clear hb
    refine wp_region_held_drew (S := (fun w' => w'.cell? ⟨w.heap.size, 0, none⟩ = some (.int .i64 q.bet) ∧ w'.cell? ⟨w.heap.size, 1, none⟩ = some (.int .i64 q.ballots) ∧ w'.cell? ⟨w.heap.size, 2, none⟩ = some (.int .i64 q.margin) ∧ w'.cell? ⟨w.heap.size, 8, none⟩ = some (.slice a n c) ∧ w'.cell? ⟨w.heap.size, 9, none⟩ = some (.slice b m d))) (by kernel_rfl) ?_ (fun hHeld => ?_)
    · exact ⟨LD.cell 0 _ rfl, LD.cell 1 _ rfl, LD.cell 2 _ rfl, LD.cell 8 _ rfl, LD.cell 9 _ rfl⟩
    generalize (w.alloc (.cells (cmC q a n c b m d) 25)).drew = WD at *
    refine wpAnyH_take (i := 0) (oi := ?oir12_0) (v := ?vr12_0) ?hir12_0 (by kernel_rfl) (by kernel_rfl) (by kernel_rfl) ?hqr12_0 ?hyr12_0 (by assumption) ?restr12_0
    case hir12_0 => simp only [List.getElem?_toArray, List.getElem?_cons_succ, List.getElem?_cons_zero]; rfl
    case hqr12_0 => exact fun _ _ _ h => h
    case hyr12_0 => (refine Or.inl ⟨by rfl, ?_⟩; intro w hSw; (try dsimp only at hSw); go_simp; all_goals with_reducible rfl)
    try simp only [Act.put, List.setIfInBounds_toArray, List.set_cons_zero, List.set_cons_succ]
    refine wpAnyH_take (i := 1) (oi := ?oir12_1) (v := ?vr12_1) ?hir12_1 (by kernel_rfl) (by kernel_rfl) (by kernel_rfl) ?hqr12_1 ?hyr12_1 (by assumption) ?restr12_1
    case hir12_1 => simp only [List.getElem?_toArray, List.getElem?_cons_succ, List.getElem?_cons_zero]; rfl
    case hqr12_1 => exact fun _ _ _ h => h
    case hyr12_1 => (refine Or.inl ⟨by rfl, ?_⟩; intro w hSw; (try dsimp only at hSw); go_simp; all_goals with_reducible rfl)
    try simp only [Act.put, List.setIfInBounds_toArray, List.set_cons_zero, List.set_cons_succ]
    refine wpAnyH_take (i := 2) (oi := ?oir12_2) (v := ?vr12_2) ?hir12_2 (by kernel_rfl) (by kernel_rfl) (by kernel_rfl) ?hqr12_2 ?hyr12_2 (by assumption) ?restr12_2
    case hir12_2 => simp only [List.getElem?_toArray, List.getElem?_cons_succ, List.getElem?_cons_zero]; rfl
    case hqr12_2 => exact fun _ _ _ h => h
    case hyr12_2 => (refine Or.inl ⟨by rfl, ?_⟩; intro w hSw; (try dsimp only at hSw); go_simp; all_goals with_reducible rfl)
    try simp only [Act.put, List.setIfInBounds_toArray, List.set_cons_zero, List.set_cons_succ]
    refine wpAnyH_take (i := 3) (oi := ?oir12_3) (v := ?vr12_3) ?hir12_3 (by kernel_rfl) (by kernel_rfl) (by kernel_rfl) ?hqr12_3 ?hyr12_3 (by assumption) ?restr12_3
    case hir12_3 => simp only [List.getElem?_toArray, List.getElem?_cons_succ, List.getElem?_cons_zero]; rfl
    case hqr12_3 => exact fun _ _ _ h => h
    case hyr12_3 => (refine Or.inl ⟨by rfl, ?_⟩; intro w hSw; (try dsimp only at hSw); go_simp; all_goals with_reducible rfl)
    try simp only [Act.put, List.setIfInBounds_toArray, List.set_cons_zero, List.set_cons_succ]
    refine wpAnyH_take (i := 4) (oi := ?oir12_4) (v := ?vr12_4) ?hir12_4 (by kernel_rfl) (by kernel_rfl) (by kernel_rfl) ?hqr12_4 ?hyr12_4 (by assumption) ?restr12_4
    case hir12_4 => simp only [List.getElem?_toArray, List.getElem?_cons_succ, List.getElem?_cons_zero]; rfl
    case hqr12_4 => exact fun _ _ _ h => h
    case hyr12_4 => (refine Or.inl ⟨by rfl, ?_⟩; intro w hSw; (try dsimp only at hSw); go_simp; all_goals with_reducible rfl)
    try simp only [Act.put, List.setIfInBounds_toArray, List.set_cons_zero, List.set_cons_succ]
    refine wpAnyH_take (i := 5) (oi := ?oir12_5) (v := ?vr12_5) ?hir12_5 (by kernel_rfl) (by kernel_rfl) (by kernel_rfl) ?hqr12_5 ?hyr12_5 (by assumption) ?restr12_5
    case hir12_5 => simp only [List.getElem?_toArray, List.getElem?_cons_succ, List.getElem?_cons_zero]; rfl
    case hqr12_5 => exact fun _ _ _ h => h
    case hyr12_5 => (refine Or.inl ⟨by rfl, ?_⟩; intro w hSw; (try dsimp only at hSw); go_simp; all_goals with_reducible rfl)
    try simp only [Act.put, List.setIfInBounds_toArray, List.set_cons_zero, List.set_cons_succ]
    refine wpAnyH_ready (rs := [6]) (by kernel_rfl) (by simp) ?_
    refine AllReadyH.cons (o := ?or13_6) ?hor13_6 (fun K hK => ?kr13_6) AllReadyH.nil
    case hor13_6 => simp only [List.getElem?_toArray, List.getElem?_cons_succ, List.getElem?_cons_zero]; rfl
    go_simp
    have cc := may_any WD q.bet q.ballots q.margin
    rw [MY.out] at cc
    refine cc.mono ?_
    rintro e2 wq ⟨rfl, hw⟩
    have hw := hw.symm
    subst hw
    clear cc
    go_wp2_with fail
    refine hK.out _ _ ?_ (fun hHeld => ?_)
    · exact ⟨LD.cell 0 _ rfl, LD.cell 1 _ rfl, LD.cell 2 _ rfl, LD.cell 8 _ rfl, LD.cell 9 _ rfl⟩
    clear hK K
    try simp only [Act.put, List.setIfInBounds_toArray, List.set_cons_zero, List.set_cons_succ]
    refine wpAnyH_take (i := 7) (oi := ?oir14_7) (v := ?vr14_7) ?hir14_7 (by kernel_rfl) (by kernel_rfl) (by kernel_rfl) ?hqr14_7 ?hyr14_7 (by assumption) ?restr14_7
    case hir14_7 => simp only [List.getElem?_toArray, List.getElem?_cons_succ, List.getElem?_cons_zero]; rfl
    case hqr14_7 => exact fun _ _ _ h => h
    case hyr14_7 => (refine Or.inl ⟨by rfl, ?_⟩; intro w hSw; (try dsimp only at hSw); go_simp; all_goals with_reducible rfl)
    try simp only [Act.put, List.setIfInBounds_toArray, List.set_cons_zero, List.set_cons_succ]
    refine wpAnyH_take (i := 8) (oi := ?oir15_8) (v := ?vr15_8) ?hir15_8 (by kernel_rfl) (by kernel_rfl) (by kernel_rfl) ?hqr15_8 ?hyr15_8 (by assumption) ?restr15_8
    case hir15_8 => simp only [List.getElem?_toArray, List.getElem?_cons_succ, List.getElem?_cons_zero]; rfl
    case hqr15_8 => exact fun _ _ _ h => h
    case hyr15_8 => (refine Or.inl ⟨by rfl, ?_⟩; intro w hSw; (try dsimp only at hSw); go_simp; all_goals with_reducible rfl)
    try simp only [Act.put, List.setIfInBounds_toArray, List.set_cons_zero, List.set_cons_succ]
    refine wpAnyH_take (i := 9) (oi := ?oir15_9) (v := ?vr15_9) ?hir15_9 (by kernel_rfl) (by kernel_rfl) (by kernel_rfl) ?hqr15_9 ?hyr15_9 (by assumption) ?restr15_9
    case hir15_9 => simp only [List.getElem?_toArray, List.getElem?_cons_succ, List.getElem?_cons_zero]; rfl
    case hqr15_9 => exact fun _ _ _ h => h
    case hyr15_9 => (refine Or.inl ⟨by rfl, ?_⟩; intro w hSw; (try dsimp only at hSw); go_simp; all_goals with_reducible rfl)
    try simp only [Act.put, List.setIfInBounds_toArray, List.set_cons_zero, List.set_cons_succ]
    refine wpAnyH_take (i := 10) (oi := ?oir15_10) (v := ?vr15_10) ?hir15_10 (by kernel_rfl) (by kernel_rfl) (by kernel_rfl) ?hqr15_10 ?hyr15_10 (by assumption) ?restr15_10
    case hir15_10 => simp only [List.getElem?_toArray, List.getElem?_cons_succ, List.getElem?_cons_zero]; rfl
    case hqr15_10 => exact fun _ _ _ h => h
    case hyr15_10 => (refine Or.inl ⟨by rfl, ?_⟩; intro w hSw; (try dsimp only at hSw); go_simp; all_goals with_reducible rfl)
    try simp only [Act.put, List.setIfInBounds_toArray, List.set_cons_zero, List.set_cons_succ]
    refine wpAnyH_take (i := 11) (oi := ?oir15_11) (v := ?vr15_11) ?hir15_11 (by kernel_rfl) (by kernel_rfl) (by kernel_rfl) ?hqr15_11 ?hyr15_11 (by assumption) ?restr15_11
    case hir15_11 => simp only [List.getElem?_toArray, List.getElem?_cons_succ, List.getElem?_cons_zero]; rfl
    case hqr15_11 => exact fun _ _ _ h => h
    case hyr15_11 => (refine Or.inl ⟨by rfl, ?_⟩; intro w hSw; (try dsimp only at hSw); go_simp; all_goals with_reducible rfl)
    try simp only [Act.put, List.setIfInBounds_toArray, List.set_cons_zero, List.set_cons_succ]
    refine wpAnyH_ready (rs := [12]) (by kernel_rfl) (by simp) ?_
    refine AllReadyH.cons (o := ?or16_12) ?hor16_12 (fun K hK => ?kr16_12) AllReadyH.nil
    case hor16_12 => simp only [List.getElem?_toArray, List.getElem?_cons_succ, List.getElem?_cons_zero]; rfl
    go_simp
    have cc := refAtMost_any _ q1 q2
    rw [E1.out] at cc
    refine cc.mono ?_
    rintro e2 wq ⟨rfl, hb⟩
    clear cc
    have LD := LD.later hb
    have q1 := q1.below hb
    have q2 := q2.below hb
    clear hb
    go_wp2_with fail
    refine hK.out _ _ ?_ (fun hHeld => ?_)
    · exact ⟨LD.cell 0 _ rfl, LD.cell 1 _ rfl, LD.cell 2 _ rfl, LD.cell 8 _ rfl, LD.cell 9 _ rfl⟩
    clear hK K
    try simp only [Act.put, List.setIfInBounds_toArray, List.set_cons_zero, List.set_cons_succ]
    refine wpAnyH_take (i := 13) (oi := ?oir17_13) (v := ?vr17_13) ?hir17_13 (by kernel_rfl) (by kernel_rfl) (by kernel_rfl) ?hqr17_13 ?hyr17_13 (by assumption) ?restr17_13
    case hir17_13 => simp only [List.getElem?_toArray, List.getElem?_cons_succ, List.getElem?_cons_zero]; rfl
    case hqr17_13 => exact fun _ _ _ h => h
    case hyr17_13 => (refine Or.inl ⟨by rfl, ?_⟩; intro w hSw; (try dsimp only at hSw); go_simp; all_goals with_reducible rfl)
    try simp only [Act.put, List.setIfInBounds_toArray, List.set_cons_zero, List.set_cons_succ]
    refine wpAnyH_take (i := 14) (oi := ?oir17_14) (v := ?vr17_14) ?hir17_14 (by kernel_rfl) (by kernel_rfl) (by kernel_rfl) ?hqr17_14 ?hyr17_14 (by assumption) ?restr17_14
    case hir17_14 => simp only [List.getElem?_toArray, List.getElem?_cons_succ, List.getElem?_cons_zero]; rfl
    case hqr17_14 => exact fun _ _ _ h => h
    case hyr17_14 => (refine Or.inl ⟨by rfl, ?_⟩; intro w hSw; (try dsimp only at hSw); go_simp; all_goals with_reducible rfl)
    try simp only [Act.put, List.setIfInBounds_toArray, List.set_cons_zero, List.set_cons_succ]
    refine wpAnyH_take (i := 16) (oi := ?oir18_16) (v := ?vr18_16) ?hir18_16 (by kernel_rfl) (by kernel_rfl) (by kernel_rfl) ?hqr18_16 ?hyr18_16 (by assumption) ?restr18_16
    case hir18_16 => simp only [List.getElem?_toArray, List.getElem?_cons_succ, List.getElem?_cons_zero]; rfl
    case hqr18_16 => exact fun _ _ _ h => h
    case hyr18_16 => (refine Or.inl ⟨by rfl, ?_⟩; intro w hSw; (try dsimp only at hSw); go_simp; all_goals with_reducible rfl)
    try simp only [Act.put, List.setIfInBounds_toArray, List.set_cons_zero, List.set_cons_succ]
    refine wpAnyH_take (i := 17) (oi := ?oir18_17) (v := ?vr18_17) ?hir18_17 (by kernel_rfl) (by kernel_rfl) (by kernel_rfl) ?hqr18_17 ?hyr18_17 (by assumption) ?restr18_17
    case hir18_17 => simp only [List.getElem?_toArray, List.getElem?_cons_succ, List.getElem?_cons_zero]; rfl
    case hqr18_17 => exact fun _ _ _ h => h
    case hyr18_17 => (refine Or.inl ⟨by rfl, ?_⟩; intro w hSw; (try dsimp only at hSw); go_simp; all_goals with_reducible rfl)
    try simp only [Act.put, List.setIfInBounds_toArray, List.set_cons_zero, List.set_cons_succ]
    refine wpAnyH_ready (rs := [15]) (by kernel_rfl) (by simp) ?_
    refine AllReadyH.cons (o := ?or19_15) ?hor19_15 (fun K hK => ?kr19_15) AllReadyH.nil
    case hor19_15 => simp only [List.getElem?_toArray, List.getElem?_cons_succ, List.getElem?_cons_zero]; rfl
    go_simp
    refine (refOne_any _).mono ?_
    rintro e2 wq ⟨a9, n9, c9, rfl, x9, hb⟩
    have LD := LD.later hb
    have q1 := q1.below hb
    have q2 := q2.below hb
    clear hb
    go_wp2_with fail
    refine hK.out _ _ ?_ (fun hHeld => ?_)
    · exact ⟨LD.cell 0 _ rfl, LD.cell 1 _ rfl, LD.cell 2 _ rfl, LD.cell 8 _ rfl, LD.cell 9 _ rfl⟩
    clear hK K
    try simp only [Act.put, List.setIfInBounds_toArray, List.set_cons_zero, List.set_cons_succ]
    refine wpAnyH_ready (rs := [18]) (by kernel_rfl) (by simp) ?_
    refine AllReadyH.cons (o := ?or20_18) ?hor20_18 (fun K hK => ?kr20_18) AllReadyH.nil
    case hor20_18 => simp only [List.getElem?_toArray, List.getElem?_cons_succ, List.getElem?_cons_zero]; rfl
    go_simp
    have cc := refAtMost_any _ x9 q2
    rw [E2.out] at cc
    refine cc.mono ?_
    rintro e2 wq ⟨rfl, hb⟩
    clear cc
    have LD := LD.later hb
    have q1 := q1.below hb
    have q2 := q2.below hb
    clear x9
    clear hb
    go_wp2_with fail
    refine hK.out _ _ ?_ (fun hHeld => ?_)
    · exact ⟨LD.cell 0 _ rfl, LD.cell 1 _ rfl, LD.cell 2 _ rfl, LD.cell 8 _ rfl, LD.cell 9 _ rfl⟩
    clear hK K
    try simp only [Act.put, List.setIfInBounds_toArray, List.set_cons_zero, List.set_cons_succ]
    refine wpAnyH_take (i := 19) (oi := ?oir21_19) (v := ?vr21_19) ?hir21_19 (by kernel_rfl) (by kernel_rfl) (by kernel_rfl) ?hqr21_19 ?hyr21_19 (by assumption) ?restr21_19
    case hir21_19 => simp only [List.getElem?_toArray, List.getElem?_cons_succ, List.getElem?_cons_zero]; rfl
    case hqr21_19 => exact fun _ _ _ h => h
    case hyr21_19 => (refine Or.inl ⟨by rfl, ?_⟩; intro w hSw; (try dsimp only at hSw); go_simp; all_goals with_reducible rfl)
    try simp only [Act.put, List.setIfInBounds_toArray, List.set_cons_zero, List.set_cons_succ]
    refine wpAnyH_take (i := 20) (oi := ?oir21_20) (v := ?vr21_20) ?hir21_20 (by kernel_rfl) (by kernel_rfl) (by kernel_rfl) ?hqr21_20 ?hyr21_20 (by assumption) ?restr21_20
    case hir21_20 => simp only [List.getElem?_toArray, List.getElem?_cons_succ, List.getElem?_cons_zero]; rfl
    case hqr21_20 => exact fun _ _ _ h => h
    case hyr21_20 => (refine Or.inl ⟨by rfl, ?_⟩; intro w hSw; (try dsimp only at hSw); go_simp; all_goals with_reducible rfl)
    try simp only [Act.put, List.setIfInBounds_toArray, List.set_cons_zero, List.set_cons_succ]
    refine wpAnyH_take (i := 21) (oi := ?oir22_21) (v := undef) ?hir22_21 (by kernel_rfl) (by kernel_rfl) (by kernel_rfl) ?hqr22_21 ?hyr22_21 (by assumption) ?restr22_21
    case hir22_21 => simp only [List.getElem?_toArray, List.getElem?_cons_succ, List.getElem?_cons_zero]; rfl
    case hqr22_21 => exact fun _ _ _ h => h
    case hyr22_21 => exact Or.inr ⟨by rfl, rfl⟩
    try simp only [Act.put, List.setIfInBounds_toArray, List.set_cons_zero, List.set_cons_succ]
    refine wpAnyH_take (i := 22) (oi := ?oir22_22) (v := undef) ?hir22_22 (by kernel_rfl) (by kernel_rfl) (by kernel_rfl) ?hqr22_22 ?hyr22_22 (by assumption) ?restr22_22
    case hir22_22 => simp only [List.getElem?_toArray, List.getElem?_cons_succ, List.getElem?_cons_zero]; rfl
    case hqr22_22 => exact fun _ _ _ h => h
    case hyr22_22 => exact Or.inr ⟨by rfl, rfl⟩
    try simp only [Act.put, List.setIfInBounds_toArray, List.set_cons_zero, List.set_cons_succ]
    refine wpAnyH_take (i := 23) (oi := ?oir22_23) (v := undef) ?hir22_23 (by kernel_rfl) (by kernel_rfl) (by kernel_rfl) ?hqr22_23 ?hyr22_23 (by assumption) ?restr22_23
    case hir22_23 => simp only [List.getElem?_toArray, List.getElem?_cons_succ, List.getElem?_cons_zero]; rfl
    case hqr22_23 => exact fun _ _ _ h => h
    case hyr22_23 => exact Or.inr ⟨by rfl, rfl⟩
    try simp only [Act.put, List.setIfInBounds_toArray, List.set_cons_zero, List.set_cons_succ]
    refine wpAnyH_take (i := 24) (oi := ?oir22_24) (v := undef) ?hir22_24 (by kernel_rfl) (by kernel_rfl) (by kernel_rfl) ?hqr22_24 ?hyr22_24 (by assumption) ?restr22_24
    case hir22_24 => simp only [List.getElem?_toArray, List.getElem?_cons_succ, List.getElem?_cons_zero]; rfl
    case hqr22_24 => exact fun _ _ _ h => h
    case hyr22_24 => exact Or.inr ⟨by rfl, rfl⟩
    try simp only [Act.put, List.setIfInBounds_toArray, List.set_cons_zero, List.set_cons_succ]
    refine wpAnyH_take (i := 25) (oi := ?oir22_25) (v := ?vr22_25) ?hir22_25 (by kernel_rfl) (by kernel_rfl) (by kernel_rfl) ?hqr22_25 ?hyr22_25 (by assumption) ?restr22_25
    case hir22_25 => simp only [List.getElem?_toArray, List.getElem?_cons_succ, List.getElem?_cons_zero]; rfl
    case hqr22_25 => exact fun _ _ _ h => h
    case hyr22_25 => (refine Or.inl ⟨by rfl, ?_⟩; intro w hSw; (try dsimp only at hSw); go_simp; all_goals with_reducible rfl)
    try simp only [Act.put, List.setIfInBounds_toArray, List.set_cons_zero, List.set_cons_succ]
    refine wpAnyH_take (i := 26) (oi := ?oir22_26) (v := ?vr22_26) ?hir22_26 (by kernel_rfl) (by kernel_rfl) (by kernel_rfl) ?hqr22_26 ?hyr22_26 (by assumption) ?restr22_26
    case hir22_26 => simp only [List.getElem?_toArray, List.getElem?_cons_succ, List.getElem?_cons_zero]; rfl
    case hqr22_26 => exact fun _ _ _ h => h
    case hyr22_26 => (refine Or.inl ⟨by rfl, ?_⟩; intro w hSw; (try dsimp only at hSw); go_simp; all_goals with_reducible rfl)
    try simp only [Act.put, List.setIfInBounds_toArray, List.set_cons_zero, List.set_cons_succ]
    refine wpAnyH_done (by kernel_rfl) ?_ _
    rename World => W
    clear hHeld
    have k3 := LD.cell 3 _ rfl
    have k4 := LD.cell 4 _ rfl
    have k5 := LD.cell 5 _ rfl
    have k6 := LD.cell 6 _ rfl
    have k7 := LD.cell 7 _ rfl
    have HB := Lib.hid LD.below
    go_wp2_with fail
    go_loopw [3, 4] (fun o i wr => ∃ (k : Nat), k ≤ 5 ∧ i = .int .i64 (k : Nat) ∧ o = .bool false ∧ wr = W) (fun _ i _ => 5 - (intOf i).toNat)
    case atStart => exact ⟨0, by omega, rfl, rfl, rfl⟩
    case round =>
      obtain ⟨k, hk, rfl, rfl, hW⟩ := hrel
      have hW := hW.symm
      subst hW
      by_cases hlt : k < 5
      · go_wp2_with fail
        go_roundw
        case rel => exact ⟨k + 1, by omega, by go_num, by first | rfl | trivial, by first | rfl | trivial⟩
        case measure => simp [intOf]; omega
      · obtain rfl : k = 5 := by omega
        go_wp2_with fail
        go_ret
        exact ⟨by rw [e.out]; rfl, HB.out⟩
  cases c3 : leC q.best [0, 0, 0, 0, 1]
  case false =>
    have MY := Lib.hid (show decide (mayC q.bet q.ballots q.margin) = true from decide_eq_true hm)
    have e := Lib.hid (show r = 8 by rw [HR.out]; exact chkC_no' (fun h => by have := h.2.2.2.2; rw [c3] at this; simp at this))
    have E1 := Lib.hid c1
    have E2 := Lib.hid c2
    have E3 := Lib.hid c3
    clear hm c1 c2 c3
    go_enter Try.func25, Try.ntmps25
    go_wp2_with fail
    have LD := L1
    have hb := (Below.refl (w.alloc (.cells (cmC q a n c b m d) 25)).heap.size (w.alloc (.cells (cmC q a n c b m d) 25))).drew
    have LD := LD.later hb
    have q1 := q1.below hb
    have q2 := q2.below hb
    clear hb
    refine wp_region_held_drew (S := (fun w' => w'.cell? ⟨w.heap.size, 0, none⟩ = some (.int .i64 q.bet) ∧ w'.cell? ⟨w.heap.size, 1, none⟩ = some (.int .i64 q.ballots) ∧ w'.cell? ⟨w.heap.size, 2, none⟩ = some (.int .i64 q.margin) ∧ w'.cell? ⟨w.heap.size, 8, none⟩ = some (.slice a n c) ∧ w'.cell? ⟨w.heap.size, 9, none⟩ = some (.slice b m d))) (by kernel_rfl) ?_ (fun hHeld => ?_)
    · exact ⟨LD.cell 0 _ rfl, LD.cell 1 _ rfl, LD.cell 2 _ rfl, LD.cell 8 _ rfl, LD.cell 9 _ rfl⟩
    generalize (w.alloc (.cells (cmC q a n c b m d) 25)).drew = WD at *
    refine wpAnyH_take (i := 0) (oi := ?oir23_0) (v := ?vr23_0) ?hir23_0 (by kernel_rfl) (by kernel_rfl) (by kernel_rfl) ?hqr23_0 ?hyr23_0 (by assumption) ?restr23_0
    case hir23_0 => simp only [List.getElem?_toArray, List.getElem?_cons_succ, List.getElem?_cons_zero]; rfl
    case hqr23_0 => exact fun _ _ _ h => h
    case hyr23_0 => (refine Or.inl ⟨by rfl, ?_⟩; intro w hSw; (try dsimp only at hSw); go_simp; all_goals with_reducible rfl)
    try simp only [Act.put, List.setIfInBounds_toArray, List.set_cons_zero, List.set_cons_succ]
    refine wpAnyH_take (i := 1) (oi := ?oir23_1) (v := ?vr23_1) ?hir23_1 (by kernel_rfl) (by kernel_rfl) (by kernel_rfl) ?hqr23_1 ?hyr23_1 (by assumption) ?restr23_1
    case hir23_1 => simp only [List.getElem?_toArray, List.getElem?_cons_succ, List.getElem?_cons_zero]; rfl
    case hqr23_1 => exact fun _ _ _ h => h
    case hyr23_1 => (refine Or.inl ⟨by rfl, ?_⟩; intro w hSw; (try dsimp only at hSw); go_simp; all_goals with_reducible rfl)
    try simp only [Act.put, List.setIfInBounds_toArray, List.set_cons_zero, List.set_cons_succ]
    refine wpAnyH_take (i := 2) (oi := ?oir23_2) (v := ?vr23_2) ?hir23_2 (by kernel_rfl) (by kernel_rfl) (by kernel_rfl) ?hqr23_2 ?hyr23_2 (by assumption) ?restr23_2
    case hir23_2 => simp only [List.getElem?_toArray, List.getElem?_cons_succ, List.getElem?_cons_zero]; rfl
    case hqr23_2 => exact fun _ _ _ h => h
    case hyr23_2 => (refine Or.inl ⟨by rfl, ?_⟩; intro w hSw; (try dsimp only at hSw); go_simp; all_goals with_reducible rfl)
    try simp only [Act.put, List.setIfInBounds_toArray, List.set_cons_zero, List.set_cons_succ]
    refine wpAnyH_take (i := 3) (oi := ?oir23_3) (v := ?vr23_3) ?hir23_3 (by kernel_rfl) (by kernel_rfl) (by kernel_rfl) ?hqr23_3 ?hyr23_3 (by assumption) ?restr23_3
    case hir23_3 => simp only [List.getElem?_toArray, List.getElem?_cons_succ, List.getElem?_cons_zero]; rfl
    case hqr23_3 => exact fun _ _ _ h => h
    case hyr23_3 => (refine Or.inl ⟨by rfl, ?_⟩; intro w hSw; (try dsimp only at hSw); go_simp; all_goals with_reducible rfl)
    try simp only [Act.put, List.setIfInBounds_toArray, List.set_cons_zero, List.set_cons_succ]
    refine wpAnyH_take (i := 4) (oi := ?oir23_4) (v := ?vr23_4) ?hir23_4 (by kernel_rfl) (by kernel_rfl) (by kernel_rfl) ?hqr23_4 ?hyr23_4 (by assumption) ?restr23_4
    case hir23_4 => simp only [List.getElem?_toArray, List.getElem?_cons_succ, List.getElem?_cons_zero]; rfl
    case hqr23_4 => exact fun _ _ _ h => h
    case hyr23_4 => (refine Or.inl ⟨by rfl, ?_⟩; intro w hSw; (try dsimp only at hSw); go_simp; all_goals with_reducible rfl)
    try simp only [Act.put, List.setIfInBounds_toArray, List.set_cons_zero, List.set_cons_succ]
    refine wpAnyH_take (i := 5) (oi := ?oir23_5) (v := ?vr23_5) ?hir23_5 (by kernel_rfl) (by kernel_rfl) (by kernel_rfl) ?hqr23_5 ?hyr23_5 (by assumption) ?restr23_5
    case hir23_5 => simp only [List.getElem?_toArray, List.getElem?_cons_succ, List.getElem?_cons_zero]; rfl
    case hqr23_5 => exact fun _ _ _ h => h
    case hyr23_5 => (refine Or.inl ⟨by rfl, ?_⟩; intro w hSw; (try dsimp only at hSw); go_simp; all_goals with_reducible rfl)
    try simp only [Act.put, List.setIfInBounds_toArray, List.set_cons_zero, List.set_cons_succ]
    refine wpAnyH_ready (rs := [6]) (by kernel_rfl) (by simp) ?_
    refine AllReadyH.cons (o := ?or24_6) ?hor24_6 (fun K hK => ?kr24_6) AllReadyH.nil
    case hor24_6 => simp only [List.getElem?_toArray, List.getElem?_cons_succ, List.getElem?_cons_zero]; rfl
    go_simp
    have cc := may_any WD q.bet q.ballots q.margin
    rw [MY.out] at cc
    refine cc.mono ?_
    rintro e2 wq ⟨rfl, hw⟩
    have hw := hw.symm
    subst hw
    clear cc
    go_wp2_with fail
    refine hK.out _ _ ?_ (fun hHeld => ?_)
    · exact ⟨LD.cell 0 _ rfl, LD.cell 1 _ rfl, LD.cell 2 _ rfl, LD.cell 8 _ rfl, LD.cell 9 _ rfl⟩
    clear hK K
    try simp only [Act.put, List.setIfInBounds_toArray, List.set_cons_zero, List.set_cons_succ]
    refine wpAnyH_take (i := 7) (oi := ?oir25_7) (v := ?vr25_7) ?hir25_7 (by kernel_rfl) (by kernel_rfl) (by kernel_rfl) ?hqr25_7 ?hyr25_7 (by assumption) ?restr25_7
    case hir25_7 => simp only [List.getElem?_toArray, List.getElem?_cons_succ, List.getElem?_cons_zero]; rfl
    case hqr25_7 => exact fun _ _ _ h => h
    case hyr25_7 => (refine Or.inl ⟨by rfl, ?_⟩; intro w hSw; (try dsimp only at hSw); go_simp; all_goals with_reducible rfl)
    try simp only [Act.put, List.setIfInBounds_toArray, List.set_cons_zero, List.set_cons_succ]
    refine wpAnyH_take (i := 8) (oi := ?oir26_8) (v := ?vr26_8) ?hir26_8 (by kernel_rfl) (by kernel_rfl) (by kernel_rfl) ?hqr26_8 ?hyr26_8 (by assumption) ?restr26_8
    case hir26_8 => simp only [List.getElem?_toArray, List.getElem?_cons_succ, List.getElem?_cons_zero]; rfl
    case hqr26_8 => exact fun _ _ _ h => h
    case hyr26_8 => (refine Or.inl ⟨by rfl, ?_⟩; intro w hSw; (try dsimp only at hSw); go_simp; all_goals with_reducible rfl)
    try simp only [Act.put, List.setIfInBounds_toArray, List.set_cons_zero, List.set_cons_succ]
    refine wpAnyH_take (i := 9) (oi := ?oir26_9) (v := ?vr26_9) ?hir26_9 (by kernel_rfl) (by kernel_rfl) (by kernel_rfl) ?hqr26_9 ?hyr26_9 (by assumption) ?restr26_9
    case hir26_9 => simp only [List.getElem?_toArray, List.getElem?_cons_succ, List.getElem?_cons_zero]; rfl
    case hqr26_9 => exact fun _ _ _ h => h
    case hyr26_9 => (refine Or.inl ⟨by rfl, ?_⟩; intro w hSw; (try dsimp only at hSw); go_simp; all_goals with_reducible rfl)
    try simp only [Act.put, List.setIfInBounds_toArray, List.set_cons_zero, List.set_cons_succ]
    refine wpAnyH_take (i := 10) (oi := ?oir26_10) (v := ?vr26_10) ?hir26_10 (by kernel_rfl) (by kernel_rfl) (by kernel_rfl) ?hqr26_10 ?hyr26_10 (by assumption) ?restr26_10
    case hir26_10 => simp only [List.getElem?_toArray, List.getElem?_cons_succ, List.getElem?_cons_zero]; rfl
    case hqr26_10 => exact fun _ _ _ h => h
    case hyr26_10 => (refine Or.inl ⟨by rfl, ?_⟩; intro w hSw; (try dsimp only at hSw); go_simp; all_goals with_reducible rfl)
    try simp only [Act.put, List.setIfInBounds_toArray, List.set_cons_zero, List.set_cons_succ]
    refine wpAnyH_take (i := 11) (oi := ?oir26_11) (v := ?vr26_11) ?hir26_11 (by kernel_rfl) (by kernel_rfl) (by kernel_rfl) ?hqr26_11 ?hyr26_11 (by assumption) ?restr26_11
    case hir26_11 => simp only [List.getElem?_toArray, List.getElem?_cons_succ, List.getElem?_cons_zero]; rfl
    case hqr26_11 => exact fun _ _ _ h => h
    case hyr26_11 => (refine Or.inl ⟨by rfl, ?_⟩; intro w hSw; (try dsimp only at hSw); go_simp; all_goals with_reducible rfl)
    try simp only [Act.put, List.setIfInBounds_toArray, List.set_cons_zero, List.set_cons_succ]
    refine wpAnyH_ready (rs := [12]) (by kernel_rfl) (by simp) ?_
    refine AllReadyH.cons (o := ?or27_12) ?hor27_12 (fun K hK => ?kr27_12) AllReadyH.nil
    case hor27_12 => simp only [List.getElem?_toArray, List.getElem?_cons_succ, List.getElem?_cons_zero]; rfl
    go_simp
    have cc := refAtMost_any _ q1 q2
    rw [E1.out] at cc
    refine cc.mono ?_
    rintro e2 wq ⟨rfl, hb⟩
    clear cc
    have LD := LD.later hb
    have q1 := q1.below hb
    have q2 := q2.below hb
    clear hb
    go_wp2_with fail
    refine hK.out _ _ ?_ (fun hHeld => ?_)
    · exact ⟨LD.cell 0 _ rfl, LD.cell 1 _ rfl, LD.cell 2 _ rfl, LD.cell 8 _ rfl, LD.cell 9 _ rfl⟩
    clear hK K
    try simp only [Act.put, List.setIfInBounds_toArray, List.set_cons_zero, List.set_cons_succ]
    refine wpAnyH_take (i := 13) (oi := ?oir28_13) (v := ?vr28_13) ?hir28_13 (by kernel_rfl) (by kernel_rfl) (by kernel_rfl) ?hqr28_13 ?hyr28_13 (by assumption) ?restr28_13
    case hir28_13 => simp only [List.getElem?_toArray, List.getElem?_cons_succ, List.getElem?_cons_zero]; rfl
    case hqr28_13 => exact fun _ _ _ h => h
    case hyr28_13 => (refine Or.inl ⟨by rfl, ?_⟩; intro w hSw; (try dsimp only at hSw); go_simp; all_goals with_reducible rfl)
    try simp only [Act.put, List.setIfInBounds_toArray, List.set_cons_zero, List.set_cons_succ]
    refine wpAnyH_take (i := 14) (oi := ?oir28_14) (v := ?vr28_14) ?hir28_14 (by kernel_rfl) (by kernel_rfl) (by kernel_rfl) ?hqr28_14 ?hyr28_14 (by assumption) ?restr28_14
    case hir28_14 => simp only [List.getElem?_toArray, List.getElem?_cons_succ, List.getElem?_cons_zero]; rfl
    case hqr28_14 => exact fun _ _ _ h => h
    case hyr28_14 => (refine Or.inl ⟨by rfl, ?_⟩; intro w hSw; (try dsimp only at hSw); go_simp; all_goals with_reducible rfl)
    try simp only [Act.put, List.setIfInBounds_toArray, List.set_cons_zero, List.set_cons_succ]
    refine wpAnyH_take (i := 16) (oi := ?oir29_16) (v := ?vr29_16) ?hir29_16 (by kernel_rfl) (by kernel_rfl) (by kernel_rfl) ?hqr29_16 ?hyr29_16 (by assumption) ?restr29_16
    case hir29_16 => simp only [List.getElem?_toArray, List.getElem?_cons_succ, List.getElem?_cons_zero]; rfl
    case hqr29_16 => exact fun _ _ _ h => h
    case hyr29_16 => (refine Or.inl ⟨by rfl, ?_⟩; intro w hSw; (try dsimp only at hSw); go_simp; all_goals with_reducible rfl)
    try simp only [Act.put, List.setIfInBounds_toArray, List.set_cons_zero, List.set_cons_succ]
    refine wpAnyH_take (i := 17) (oi := ?oir29_17) (v := ?vr29_17) ?hir29_17 (by kernel_rfl) (by kernel_rfl) (by kernel_rfl) ?hqr29_17 ?hyr29_17 (by assumption) ?restr29_17
    case hir29_17 => simp only [List.getElem?_toArray, List.getElem?_cons_succ, List.getElem?_cons_zero]; rfl
    case hqr29_17 => exact fun _ _ _ h => h
    case hyr29_17 => (refine Or.inl ⟨by rfl, ?_⟩; intro w hSw; (try dsimp only at hSw); go_simp; all_goals with_reducible rfl)
    try simp only [Act.put, List.setIfInBounds_toArray, List.set_cons_zero, List.set_cons_succ]
    refine wpAnyH_ready (rs := [15]) (by kernel_rfl) (by simp) ?_
    refine AllReadyH.cons (o := ?or30_15) ?hor30_15 (fun K hK => ?kr30_15) AllReadyH.nil
    case hor30_15 => simp only [List.getElem?_toArray, List.getElem?_cons_succ, List.getElem?_cons_zero]; rfl
    go_simp
    refine (refOne_any _).mono ?_
    rintro e2 wq ⟨a9, n9, c9, rfl, x9, hb⟩
    have LD := LD.later hb
    have q1 := q1.below hb
    have q2 := q2.below hb
    clear hb
    go_wp2_with fail
    refine hK.out _ _ ?_ (fun hHeld => ?_)
    · exact ⟨LD.cell 0 _ rfl, LD.cell 1 _ rfl, LD.cell 2 _ rfl, LD.cell 8 _ rfl, LD.cell 9 _ rfl⟩
    clear hK K
    try simp only [Act.put, List.setIfInBounds_toArray, List.set_cons_zero, List.set_cons_succ]
    refine wpAnyH_ready (rs := [18]) (by kernel_rfl) (by simp) ?_
    refine AllReadyH.cons (o := ?or31_18) ?hor31_18 (fun K hK => ?kr31_18) AllReadyH.nil
    case hor31_18 => simp only [List.getElem?_toArray, List.getElem?_cons_succ, List.getElem?_cons_zero]; rfl
    go_simp
    have cc := refAtMost_any _ x9 q2
    rw [E2.out] at cc
    refine cc.mono ?_
    rintro e2 wq ⟨rfl, hb⟩
    clear cc
    have LD := LD.later hb
    have q1 := q1.below hb
    have q2 := q2.below hb
    clear x9
    clear hb
    go_wp2_with fail
    refine hK.out _ _ ?_ (fun hHeld => ?_)
    · exact ⟨LD.cell 0 _ rfl, LD.cell 1 _ rfl, LD.cell 2 _ rfl, LD.cell 8 _ rfl, LD.cell 9 _ rfl⟩
    clear hK K
    try simp only [Act.put, List.setIfInBounds_toArray, List.set_cons_zero, List.set_cons_succ]
    refine wpAnyH_take (i := 19) (oi := ?oir32_19) (v := ?vr32_19) ?hir32_19 (by kernel_rfl) (by kernel_rfl) (by kernel_rfl) ?hqr32_19 ?hyr32_19 (by assumption) ?restr32_19
    case hir32_19 => simp only [List.getElem?_toArray, List.getElem?_cons_succ, List.getElem?_cons_zero]; rfl
    case hqr32_19 => exact fun _ _ _ h => h
    case hyr32_19 => (refine Or.inl ⟨by rfl, ?_⟩; intro w hSw; (try dsimp only at hSw); go_simp; all_goals with_reducible rfl)
    try simp only [Act.put, List.setIfInBounds_toArray, List.set_cons_zero, List.set_cons_succ]
    refine wpAnyH_take (i := 20) (oi := ?oir32_20) (v := ?vr32_20) ?hir32_20 (by kernel_rfl) (by kernel_rfl) (by kernel_rfl) ?hqr32_20 ?hyr32_20 (by assumption) ?restr32_20
    case hir32_20 => simp only [List.getElem?_toArray, List.getElem?_cons_succ, List.getElem?_cons_zero]; rfl
    case hqr32_20 => exact fun _ _ _ h => h
    case hyr32_20 => (refine Or.inl ⟨by rfl, ?_⟩; intro w hSw; (try dsimp only at hSw); go_simp; all_goals with_reducible rfl)
    try simp only [Act.put, List.setIfInBounds_toArray, List.set_cons_zero, List.set_cons_succ]
    refine wpAnyH_take (i := 21) (oi := ?oir33_21) (v := ?vr33_21) ?hir33_21 (by kernel_rfl) (by kernel_rfl) (by kernel_rfl) ?hqr33_21 ?hyr33_21 (by assumption) ?restr33_21
    case hir33_21 => simp only [List.getElem?_toArray, List.getElem?_cons_succ, List.getElem?_cons_zero]; rfl
    case hqr33_21 => exact fun _ _ _ h => h
    case hyr33_21 => (refine Or.inl ⟨by rfl, ?_⟩; intro w hSw; (try dsimp only at hSw); go_simp; all_goals with_reducible rfl)
    try simp only [Act.put, List.setIfInBounds_toArray, List.set_cons_zero, List.set_cons_succ]
    refine wpAnyH_take (i := 22) (oi := ?oir33_22) (v := ?vr33_22) ?hir33_22 (by kernel_rfl) (by kernel_rfl) (by kernel_rfl) ?hqr33_22 ?hyr33_22 (by assumption) ?restr33_22
    case hir33_22 => simp only [List.getElem?_toArray, List.getElem?_cons_succ, List.getElem?_cons_zero]; rfl
    case hqr33_22 => exact fun _ _ _ h => h
    case hyr33_22 => (refine Or.inl ⟨by rfl, ?_⟩; intro w hSw; (try dsimp only at hSw); go_simp; all_goals with_reducible rfl)
    try simp only [Act.put, List.setIfInBounds_toArray, List.set_cons_zero, List.set_cons_succ]
    refine wpAnyH_ready (rs := [23]) (by kernel_rfl) (by simp) ?_
    refine AllReadyH.cons (o := ?or34_23) ?hor34_23 (fun K hK => ?kr34_23) AllReadyH.nil
    case hor34_23 => simp only [List.getElem?_toArray, List.getElem?_cons_succ, List.getElem?_cons_zero]; rfl
    go_simp
    refine (refMost_any _).mono ?_
    rintro e2 wq ⟨a9, n9, c9, rfl, x9, hb⟩
    have LD := LD.later hb
    have q1 := q1.below hb
    have q2 := q2.below hb
    clear hb
    go_wp2_with fail
    refine hK.out _ _ ?_ (fun hHeld => ?_)
    · exact ⟨LD.cell 0 _ rfl, LD.cell 1 _ rfl, LD.cell 2 _ rfl, LD.cell 8 _ rfl, LD.cell 9 _ rfl⟩
    clear hK K
    try simp only [Act.put, List.setIfInBounds_toArray, List.set_cons_zero, List.set_cons_succ]
    refine wpAnyH_ready (rs := [24]) (by kernel_rfl) (by simp) ?_
    refine AllReadyH.cons (o := ?or35_24) ?hor35_24 (fun K hK => ?kr35_24) AllReadyH.nil
    case hor35_24 => simp only [List.getElem?_toArray, List.getElem?_cons_succ, List.getElem?_cons_zero]; rfl
    go_simp
    have cc := refAtMost_any _ q2 x9
    rw [E3.out] at cc
    refine cc.mono ?_
    rintro e2 wq ⟨rfl, hb⟩
    clear cc
    have LD := LD.later hb
    have q1 := q1.below hb
    have q2 := q2.below hb
    clear x9
    clear hb
    go_wp2_with fail
    refine hK.out _ _ ?_ (fun hHeld => ?_)
    · exact ⟨LD.cell 0 _ rfl, LD.cell 1 _ rfl, LD.cell 2 _ rfl, LD.cell 8 _ rfl, LD.cell 9 _ rfl⟩
    clear hK K
    try simp only [Act.put, List.setIfInBounds_toArray, List.set_cons_zero, List.set_cons_succ]
    refine wpAnyH_take (i := 25) (oi := ?oir36_25) (v := ?vr36_25) ?hir36_25 (by kernel_rfl) (by kernel_rfl) (by kernel_rfl) ?hqr36_25 ?hyr36_25 (by assumption) ?restr36_25
    case hir36_25 => simp only [List.getElem?_toArray, List.getElem?_cons_succ, List.getElem?_cons_zero]; rfl
    case hqr36_25 => exact fun _ _ _ h => h
    case hyr36_25 => (refine Or.inl ⟨by rfl, ?_⟩; intro w hSw; (try dsimp only at hSw); go_simp; all_goals with_reducible rfl)
    try simp only [Act.put, List.setIfInBounds_toArray, List.set_cons_zero, List.set_cons_succ]
    refine wpAnyH_take (i := 26) (oi := ?oir36_26) (v := ?vr36_26) ?hir36_26 (by kernel_rfl) (by kernel_rfl) (by kernel_rfl) ?hqr36_26 ?hyr36_26 (by assumption) ?restr36_26
    case hir36_26 => simp only [List.getElem?_toArray, List.getElem?_cons_succ, List.getElem?_cons_zero]; rfl
    case hqr36_26 => exact fun _ _ _ h => h
    case hyr36_26 => (refine Or.inl ⟨by rfl, ?_⟩; intro w hSw; (try dsimp only at hSw); go_simp; all_goals with_reducible rfl)
    try simp only [Act.put, List.setIfInBounds_toArray, List.set_cons_zero, List.set_cons_succ]
    refine wpAnyH_done (by kernel_rfl) ?_ _
    rename World => W
    clear hHeld
    have k3 := LD.cell 3 _ rfl
    have k4 := LD.cell 4 _ rfl
    have k5 := LD.cell 5 _ rfl
    have k6 := LD.cell 6 _ rfl
    have k7 := LD.cell 7 _ rfl
    have HB := Lib.hid LD.below
    go_wp2_with fail
    go_loopw [3, 4] (fun o i wr => ∃ (k : Nat), k ≤ 5 ∧ i = .int .i64 (k : Nat) ∧ o = .bool false ∧ wr = W) (fun _ i _ => 5 - (intOf i).toNat)
    case atStart => exact ⟨0, by omega, rfl, rfl, rfl⟩
    case round =>
      obtain ⟨k, hk, rfl, rfl, hW⟩ := hrel
      have hW := hW.symm
      subst hW
      by_cases hlt : k < 5
      · go_wp2_with fail
        go_roundw
        case rel => exact ⟨k + 1, by omega, by go_num, by first | rfl | trivial, by first | rfl | trivial⟩
        case measure => simp [intOf]; omega
      · obtain rfl : k = 5 := by omega
        go_wp2_with fail
        go_ret
        exact ⟨by rw [e.out]; rfl, HB.out⟩
  have MY := Lib.hid (show decide (mayC q.bet q.ballots q.margin) = true from decide_eq_true hm)
  have ER := Lib.hid (show r = if okK q 5 = true then 0 else 8 by
    rw [HR.out, okK_five]
    by_cases s : seenOkC q = true
    · rw [if_pos s]; unfold chkC; rw [if_pos ⟨hm, s, c1, c2, c3⟩]
    · rw [if_neg s]; exact chkC_no' (fun h => s h.2.1))
  have E1 := Lib.hid c1
  have E2 := Lib.hid c2
  have E3 := Lib.hid c3
  clear hm c1 c2 c3
  go_enter Try.func25, Try.ntmps25
  go_wp2_with fail
  have LD := L1
  have hb := (Below.refl (w.alloc (.cells (cmC q a n c b m d) 25)).heap.size (w.alloc (.cells (cmC q a n c b m d) 25))).drew
  have LD := LD.later hb
  have q1 := q1.below hb
  have q2 := q2.below hb
  clear hb
  refine wp_region_held_drew (S := (fun w' => w'.cell? ⟨w.heap.size, 0, none⟩ = some (.int .i64 q.bet) ∧ w'.cell? ⟨w.heap.size, 1, none⟩ = some (.int .i64 q.ballots) ∧ w'.cell? ⟨w.heap.size, 2, none⟩ = some (.int .i64 q.margin) ∧ w'.cell? ⟨w.heap.size, 8, none⟩ = some (.slice a n c) ∧ w'.cell? ⟨w.heap.size, 9, none⟩ = some (.slice b m d))) (by kernel_rfl) ?_ (fun hHeld => ?_)
  · exact ⟨LD.cell 0 _ rfl, LD.cell 1 _ rfl, LD.cell 2 _ rfl, LD.cell 8 _ rfl, LD.cell 9 _ rfl⟩
  generalize (w.alloc (.cells (cmC q a n c b m d) 25)).drew = WD at *
  refine wpAnyH_take (i := 0) (oi := ?oir37_0) (v := ?vr37_0) ?hir37_0 (by kernel_rfl) (by kernel_rfl) (by kernel_rfl) ?hqr37_0 ?hyr37_0 (by assumption) ?restr37_0
  case hir37_0 => simp only [List.getElem?_toArray, List.getElem?_cons_succ, List.getElem?_cons_zero]; rfl
  case hqr37_0 => exact fun _ _ _ h => h
  case hyr37_0 => (refine Or.inl ⟨by rfl, ?_⟩; intro w hSw; (try dsimp only at hSw); go_simp; all_goals with_reducible rfl)
  try simp only [Act.put, List.setIfInBounds_toArray, List.set_cons_zero, List.set_cons_succ]
  refine wpAnyH_take (i := 1) (oi := ?oir37_1) (v := ?vr37_1) ?hir37_1 (by kernel_rfl) (by kernel_rfl) (by kernel_rfl) ?hqr37_1 ?hyr37_1 (by assumption) ?restr37_1
  case hir37_1 => simp only [List.getElem?_toArray, List.getElem?_cons_succ, List.getElem?_cons_zero]; rfl
  case hqr37_1 => exact fun _ _ _ h => h
  case hyr37_1 => (refine Or.inl ⟨by rfl, ?_⟩; intro w hSw; (try dsimp only at hSw); go_simp; all_goals with_reducible rfl)
  try simp only [Act.put, List.setIfInBounds_toArray, List.set_cons_zero, List.set_cons_succ]
  refine wpAnyH_take (i := 2) (oi := ?oir37_2) (v := ?vr37_2) ?hir37_2 (by kernel_rfl) (by kernel_rfl) (by kernel_rfl) ?hqr37_2 ?hyr37_2 (by assumption) ?restr37_2
  case hir37_2 => simp only [List.getElem?_toArray, List.getElem?_cons_succ, List.getElem?_cons_zero]; rfl
  case hqr37_2 => exact fun _ _ _ h => h
  case hyr37_2 => (refine Or.inl ⟨by rfl, ?_⟩; intro w hSw; (try dsimp only at hSw); go_simp; all_goals with_reducible rfl)
  try simp only [Act.put, List.setIfInBounds_toArray, List.set_cons_zero, List.set_cons_succ]
  refine wpAnyH_take (i := 3) (oi := ?oir37_3) (v := ?vr37_3) ?hir37_3 (by kernel_rfl) (by kernel_rfl) (by kernel_rfl) ?hqr37_3 ?hyr37_3 (by assumption) ?restr37_3
  case hir37_3 => simp only [List.getElem?_toArray, List.getElem?_cons_succ, List.getElem?_cons_zero]; rfl
  case hqr37_3 => exact fun _ _ _ h => h
  case hyr37_3 => (refine Or.inl ⟨by rfl, ?_⟩; intro w hSw; (try dsimp only at hSw); go_simp; all_goals with_reducible rfl)
  try simp only [Act.put, List.setIfInBounds_toArray, List.set_cons_zero, List.set_cons_succ]
  refine wpAnyH_take (i := 4) (oi := ?oir37_4) (v := ?vr37_4) ?hir37_4 (by kernel_rfl) (by kernel_rfl) (by kernel_rfl) ?hqr37_4 ?hyr37_4 (by assumption) ?restr37_4
  case hir37_4 => simp only [List.getElem?_toArray, List.getElem?_cons_succ, List.getElem?_cons_zero]; rfl
  case hqr37_4 => exact fun _ _ _ h => h
  case hyr37_4 => (refine Or.inl ⟨by rfl, ?_⟩; intro w hSw; (try dsimp only at hSw); go_simp; all_goals with_reducible rfl)
  try simp only [Act.put, List.setIfInBounds_toArray, List.set_cons_zero, List.set_cons_succ]
  refine wpAnyH_take (i := 5) (oi := ?oir37_5) (v := ?vr37_5) ?hir37_5 (by kernel_rfl) (by kernel_rfl) (by kernel_rfl) ?hqr37_5 ?hyr37_5 (by assumption) ?restr37_5
  case hir37_5 => simp only [List.getElem?_toArray, List.getElem?_cons_succ, List.getElem?_cons_zero]; rfl
  case hqr37_5 => exact fun _ _ _ h => h
  case hyr37_5 => (refine Or.inl ⟨by rfl, ?_⟩; intro w hSw; (try dsimp only at hSw); go_simp; all_goals with_reducible rfl)
  try simp only [Act.put, List.setIfInBounds_toArray, List.set_cons_zero, List.set_cons_succ]
  refine wpAnyH_ready (rs := [6]) (by kernel_rfl) (by simp) ?_
  refine AllReadyH.cons (o := ?or38_6) ?hor38_6 (fun K hK => ?kr38_6) AllReadyH.nil
  case hor38_6 => simp only [List.getElem?_toArray, List.getElem?_cons_succ, List.getElem?_cons_zero]; rfl
  go_simp
  have cc := may_any WD q.bet q.ballots q.margin
  rw [MY.out] at cc
  refine cc.mono ?_
  rintro e2 wq ⟨rfl, hw⟩
  have hw := hw.symm
  subst hw
  clear cc
  go_wp2_with fail
  refine hK.out _ _ ?_ (fun hHeld => ?_)
  · exact ⟨LD.cell 0 _ rfl, LD.cell 1 _ rfl, LD.cell 2 _ rfl, LD.cell 8 _ rfl, LD.cell 9 _ rfl⟩
  clear hK K
  try simp only [Act.put, List.setIfInBounds_toArray, List.set_cons_zero, List.set_cons_succ]
  refine wpAnyH_take (i := 7) (oi := ?oir39_7) (v := ?vr39_7) ?hir39_7 (by kernel_rfl) (by kernel_rfl) (by kernel_rfl) ?hqr39_7 ?hyr39_7 (by assumption) ?restr39_7
  case hir39_7 => simp only [List.getElem?_toArray, List.getElem?_cons_succ, List.getElem?_cons_zero]; rfl
  case hqr39_7 => exact fun _ _ _ h => h
  case hyr39_7 => (refine Or.inl ⟨by rfl, ?_⟩; intro w hSw; (try dsimp only at hSw); go_simp; all_goals with_reducible rfl)
  try simp only [Act.put, List.setIfInBounds_toArray, List.set_cons_zero, List.set_cons_succ]
  refine wpAnyH_take (i := 8) (oi := ?oir40_8) (v := ?vr40_8) ?hir40_8 (by kernel_rfl) (by kernel_rfl) (by kernel_rfl) ?hqr40_8 ?hyr40_8 (by assumption) ?restr40_8
  case hir40_8 => simp only [List.getElem?_toArray, List.getElem?_cons_succ, List.getElem?_cons_zero]; rfl
  case hqr40_8 => exact fun _ _ _ h => h
  case hyr40_8 => (refine Or.inl ⟨by rfl, ?_⟩; intro w hSw; (try dsimp only at hSw); go_simp; all_goals with_reducible rfl)
  try simp only [Act.put, List.setIfInBounds_toArray, List.set_cons_zero, List.set_cons_succ]
  refine wpAnyH_take (i := 9) (oi := ?oir40_9) (v := ?vr40_9) ?hir40_9 (by kernel_rfl) (by kernel_rfl) (by kernel_rfl) ?hqr40_9 ?hyr40_9 (by assumption) ?restr40_9
  case hir40_9 => simp only [List.getElem?_toArray, List.getElem?_cons_succ, List.getElem?_cons_zero]; rfl
  case hqr40_9 => exact fun _ _ _ h => h
  case hyr40_9 => (refine Or.inl ⟨by rfl, ?_⟩; intro w hSw; (try dsimp only at hSw); go_simp; all_goals with_reducible rfl)
  try simp only [Act.put, List.setIfInBounds_toArray, List.set_cons_zero, List.set_cons_succ]
  refine wpAnyH_take (i := 10) (oi := ?oir40_10) (v := ?vr40_10) ?hir40_10 (by kernel_rfl) (by kernel_rfl) (by kernel_rfl) ?hqr40_10 ?hyr40_10 (by assumption) ?restr40_10
  case hir40_10 => simp only [List.getElem?_toArray, List.getElem?_cons_succ, List.getElem?_cons_zero]; rfl
  case hqr40_10 => exact fun _ _ _ h => h
  case hyr40_10 => (refine Or.inl ⟨by rfl, ?_⟩; intro w hSw; (try dsimp only at hSw); go_simp; all_goals with_reducible rfl)
  try simp only [Act.put, List.setIfInBounds_toArray, List.set_cons_zero, List.set_cons_succ]
  refine wpAnyH_take (i := 11) (oi := ?oir40_11) (v := ?vr40_11) ?hir40_11 (by kernel_rfl) (by kernel_rfl) (by kernel_rfl) ?hqr40_11 ?hyr40_11 (by assumption) ?restr40_11
  case hir40_11 => simp only [List.getElem?_toArray, List.getElem?_cons_succ, List.getElem?_cons_zero]; rfl
  case hqr40_11 => exact fun _ _ _ h => h
  case hyr40_11 => (refine Or.inl ⟨by rfl, ?_⟩; intro w hSw; (try dsimp only at hSw); go_simp; all_goals with_reducible rfl)
  try simp only [Act.put, List.setIfInBounds_toArray, List.set_cons_zero, List.set_cons_succ]
  refine wpAnyH_ready (rs := [12]) (by kernel_rfl) (by simp) ?_
  refine AllReadyH.cons (o := ?or41_12) ?hor41_12 (fun K hK => ?kr41_12) AllReadyH.nil
  case hor41_12 => simp only [List.getElem?_toArray, List.getElem?_cons_succ, List.getElem?_cons_zero]; rfl
  go_simp
  have cc := refAtMost_any _ q1 q2
  rw [E1.out] at cc
  refine cc.mono ?_
  rintro e2 wq ⟨rfl, hb⟩
  clear cc
  have LD := LD.later hb
  have q1 := q1.below hb
  have q2 := q2.below hb
  clear hb
  go_wp2_with fail
  refine hK.out _ _ ?_ (fun hHeld => ?_)
  · exact ⟨LD.cell 0 _ rfl, LD.cell 1 _ rfl, LD.cell 2 _ rfl, LD.cell 8 _ rfl, LD.cell 9 _ rfl⟩
  clear hK K
  try simp only [Act.put, List.setIfInBounds_toArray, List.set_cons_zero, List.set_cons_succ]
  refine wpAnyH_take (i := 13) (oi := ?oir42_13) (v := ?vr42_13) ?hir42_13 (by kernel_rfl) (by kernel_rfl) (by kernel_rfl) ?hqr42_13 ?hyr42_13 (by assumption) ?restr42_13
  case hir42_13 => simp only [List.getElem?_toArray, List.getElem?_cons_succ, List.getElem?_cons_zero]; rfl
  case hqr42_13 => exact fun _ _ _ h => h
  case hyr42_13 => (refine Or.inl ⟨by rfl, ?_⟩; intro w hSw; (try dsimp only at hSw); go_simp; all_goals with_reducible rfl)
  try simp only [Act.put, List.setIfInBounds_toArray, List.set_cons_zero, List.set_cons_succ]
  refine wpAnyH_take (i := 14) (oi := ?oir42_14) (v := ?vr42_14) ?hir42_14 (by kernel_rfl) (by kernel_rfl) (by kernel_rfl) ?hqr42_14 ?hyr42_14 (by assumption) ?restr42_14
  case hir42_14 => simp only [List.getElem?_toArray, List.getElem?_cons_succ, List.getElem?_cons_zero]; rfl
  case hqr42_14 => exact fun _ _ _ h => h
  case hyr42_14 => (refine Or.inl ⟨by rfl, ?_⟩; intro w hSw; (try dsimp only at hSw); go_simp; all_goals with_reducible rfl)
  try simp only [Act.put, List.setIfInBounds_toArray, List.set_cons_zero, List.set_cons_succ]
  refine wpAnyH_take (i := 16) (oi := ?oir43_16) (v := ?vr43_16) ?hir43_16 (by kernel_rfl) (by kernel_rfl) (by kernel_rfl) ?hqr43_16 ?hyr43_16 (by assumption) ?restr43_16
  case hir43_16 => simp only [List.getElem?_toArray, List.getElem?_cons_succ, List.getElem?_cons_zero]; rfl
  case hqr43_16 => exact fun _ _ _ h => h
  case hyr43_16 => (refine Or.inl ⟨by rfl, ?_⟩; intro w hSw; (try dsimp only at hSw); go_simp; all_goals with_reducible rfl)
  try simp only [Act.put, List.setIfInBounds_toArray, List.set_cons_zero, List.set_cons_succ]
  refine wpAnyH_take (i := 17) (oi := ?oir43_17) (v := ?vr43_17) ?hir43_17 (by kernel_rfl) (by kernel_rfl) (by kernel_rfl) ?hqr43_17 ?hyr43_17 (by assumption) ?restr43_17
  case hir43_17 => simp only [List.getElem?_toArray, List.getElem?_cons_succ, List.getElem?_cons_zero]; rfl
  case hqr43_17 => exact fun _ _ _ h => h
  case hyr43_17 => (refine Or.inl ⟨by rfl, ?_⟩; intro w hSw; (try dsimp only at hSw); go_simp; all_goals with_reducible rfl)
  try simp only [Act.put, List.setIfInBounds_toArray, List.set_cons_zero, List.set_cons_succ]
  refine wpAnyH_ready (rs := [15]) (by kernel_rfl) (by simp) ?_
  refine AllReadyH.cons (o := ?or44_15) ?hor44_15 (fun K hK => ?kr44_15) AllReadyH.nil
  case hor44_15 => simp only [List.getElem?_toArray, List.getElem?_cons_succ, List.getElem?_cons_zero]; rfl
  go_simp
  refine (refOne_any _).mono ?_
  rintro e2 wq ⟨a9, n9, c9, rfl, x9, hb⟩
  have LD := LD.later hb
  have q1 := q1.below hb
  have q2 := q2.below hb
  clear hb
  go_wp2_with fail
  refine hK.out _ _ ?_ (fun hHeld => ?_)
  · exact ⟨LD.cell 0 _ rfl, LD.cell 1 _ rfl, LD.cell 2 _ rfl, LD.cell 8 _ rfl, LD.cell 9 _ rfl⟩
  clear hK K
  try simp only [Act.put, List.setIfInBounds_toArray, List.set_cons_zero, List.set_cons_succ]
  refine wpAnyH_ready (rs := [18]) (by kernel_rfl) (by simp) ?_
  refine AllReadyH.cons (o := ?or45_18) ?hor45_18 (fun K hK => ?kr45_18) AllReadyH.nil
  case hor45_18 => simp only [List.getElem?_toArray, List.getElem?_cons_succ, List.getElem?_cons_zero]; rfl
  go_simp
  have cc := refAtMost_any _ x9 q2
  rw [E2.out] at cc
  refine cc.mono ?_
  rintro e2 wq ⟨rfl, hb⟩
  clear cc
  have LD := LD.later hb
  have q1 := q1.below hb
  have q2 := q2.below hb
  clear x9
  clear hb
  go_wp2_with fail
  refine hK.out _ _ ?_ (fun hHeld => ?_)
  · exact ⟨LD.cell 0 _ rfl, LD.cell 1 _ rfl, LD.cell 2 _ rfl, LD.cell 8 _ rfl, LD.cell 9 _ rfl⟩
  clear hK K
  try simp only [Act.put, List.setIfInBounds_toArray, List.set_cons_zero, List.set_cons_succ]
  refine wpAnyH_take (i := 19) (oi := ?oir46_19) (v := ?vr46_19) ?hir46_19 (by kernel_rfl) (by kernel_rfl) (by kernel_rfl) ?hqr46_19 ?hyr46_19 (by assumption) ?restr46_19
  case hir46_19 => simp only [List.getElem?_toArray, List.getElem?_cons_succ, List.getElem?_cons_zero]; rfl
  case hqr46_19 => exact fun _ _ _ h => h
  case hyr46_19 => (refine Or.inl ⟨by rfl, ?_⟩; intro w hSw; (try dsimp only at hSw); go_simp; all_goals with_reducible rfl)
  try simp only [Act.put, List.setIfInBounds_toArray, List.set_cons_zero, List.set_cons_succ]
  refine wpAnyH_take (i := 20) (oi := ?oir46_20) (v := ?vr46_20) ?hir46_20 (by kernel_rfl) (by kernel_rfl) (by kernel_rfl) ?hqr46_20 ?hyr46_20 (by assumption) ?restr46_20
  case hir46_20 => simp only [List.getElem?_toArray, List.getElem?_cons_succ, List.getElem?_cons_zero]; rfl
  case hqr46_20 => exact fun _ _ _ h => h
  case hyr46_20 => (refine Or.inl ⟨by rfl, ?_⟩; intro w hSw; (try dsimp only at hSw); go_simp; all_goals with_reducible rfl)
  try simp only [Act.put, List.setIfInBounds_toArray, List.set_cons_zero, List.set_cons_succ]
  refine wpAnyH_take (i := 21) (oi := ?oir47_21) (v := ?vr47_21) ?hir47_21 (by kernel_rfl) (by kernel_rfl) (by kernel_rfl) ?hqr47_21 ?hyr47_21 (by assumption) ?restr47_21
  case hir47_21 => simp only [List.getElem?_toArray, List.getElem?_cons_succ, List.getElem?_cons_zero]; rfl
  case hqr47_21 => exact fun _ _ _ h => h
  case hyr47_21 => (refine Or.inl ⟨by rfl, ?_⟩; intro w hSw; (try dsimp only at hSw); go_simp; all_goals with_reducible rfl)
  try simp only [Act.put, List.setIfInBounds_toArray, List.set_cons_zero, List.set_cons_succ]
  refine wpAnyH_take (i := 22) (oi := ?oir47_22) (v := ?vr47_22) ?hir47_22 (by kernel_rfl) (by kernel_rfl) (by kernel_rfl) ?hqr47_22 ?hyr47_22 (by assumption) ?restr47_22
  case hir47_22 => simp only [List.getElem?_toArray, List.getElem?_cons_succ, List.getElem?_cons_zero]; rfl
  case hqr47_22 => exact fun _ _ _ h => h
  case hyr47_22 => (refine Or.inl ⟨by rfl, ?_⟩; intro w hSw; (try dsimp only at hSw); go_simp; all_goals with_reducible rfl)
  try simp only [Act.put, List.setIfInBounds_toArray, List.set_cons_zero, List.set_cons_succ]
  refine wpAnyH_ready (rs := [23]) (by kernel_rfl) (by simp) ?_
  refine AllReadyH.cons (o := ?or48_23) ?hor48_23 (fun K hK => ?kr48_23) AllReadyH.nil
  case hor48_23 => simp only [List.getElem?_toArray, List.getElem?_cons_succ, List.getElem?_cons_zero]; rfl
  go_simp
  refine (refMost_any _).mono ?_
  rintro e2 wq ⟨a9, n9, c9, rfl, x9, hb⟩
  have LD := LD.later hb
  have q1 := q1.below hb
  have q2 := q2.below hb
  clear hb
  go_wp2_with fail
  refine hK.out _ _ ?_ (fun hHeld => ?_)
  · exact ⟨LD.cell 0 _ rfl, LD.cell 1 _ rfl, LD.cell 2 _ rfl, LD.cell 8 _ rfl, LD.cell 9 _ rfl⟩
  clear hK K
  try simp only [Act.put, List.setIfInBounds_toArray, List.set_cons_zero, List.set_cons_succ]
  refine wpAnyH_ready (rs := [24]) (by kernel_rfl) (by simp) ?_
  refine AllReadyH.cons (o := ?or49_24) ?hor49_24 (fun K hK => ?kr49_24) AllReadyH.nil
  case hor49_24 => simp only [List.getElem?_toArray, List.getElem?_cons_succ, List.getElem?_cons_zero]; rfl
  go_simp
  have cc := refAtMost_any _ q2 x9
  rw [E3.out] at cc
  refine cc.mono ?_
  rintro e2 wq ⟨rfl, hb⟩
  clear cc
  have LD := LD.later hb
  have q1 := q1.below hb
  have q2 := q2.below hb
  clear x9
  clear hb
  go_wp2_with fail
  refine hK.out _ _ ?_ (fun hHeld => ?_)
  · exact ⟨LD.cell 0 _ rfl, LD.cell 1 _ rfl, LD.cell 2 _ rfl, LD.cell 8 _ rfl, LD.cell 9 _ rfl⟩
  clear hK K
  try simp only [Act.put, List.setIfInBounds_toArray, List.set_cons_zero, List.set_cons_succ]
  refine wpAnyH_take (i := 25) (oi := ?oir50_25) (v := ?vr50_25) ?hir50_25 (by kernel_rfl) (by kernel_rfl) (by kernel_rfl) ?hqr50_25 ?hyr50_25 (by assumption) ?restr50_25
  case hir50_25 => simp only [List.getElem?_toArray, List.getElem?_cons_succ, List.getElem?_cons_zero]; rfl
  case hqr50_25 => exact fun _ _ _ h => h
  case hyr50_25 => (refine Or.inl ⟨by rfl, ?_⟩; intro w hSw; (try dsimp only at hSw); go_simp; all_goals with_reducible rfl)
  try simp only [Act.put, List.setIfInBounds_toArray, List.set_cons_zero, List.set_cons_succ]
  refine wpAnyH_take (i := 26) (oi := ?oir50_26) (v := ?vr50_26) ?hir50_26 (by kernel_rfl) (by kernel_rfl) (by kernel_rfl) ?hqr50_26 ?hyr50_26 (by assumption) ?restr50_26
  case hir50_26 => simp only [List.getElem?_toArray, List.getElem?_cons_succ, List.getElem?_cons_zero]; rfl
  case hqr50_26 => exact fun _ _ _ h => h
  case hyr50_26 => (refine Or.inl ⟨by rfl, ?_⟩; intro w hSw; (try dsimp only at hSw); go_simp; all_goals with_reducible rfl)
  try simp only [Act.put, List.setIfInBounds_toArray, List.set_cons_zero, List.set_cons_succ]
  refine wpAnyH_done (by kernel_rfl) ?_ _
  rename World => W
  clear hHeld
  have k3 := LD.cell 3 _ rfl
  have k4 := LD.cell 4 _ rfl
  have k5 := LD.cell 5 _ rfl
  have k6 := LD.cell 6 _ rfl
  have k7 := LD.cell 7 _ rfl
  have HB := Lib.hid LD.below
  go_wp2_with fail
  go_loopw [3, 4] (fun o i wr => ∃ (k : Nat), k ≤ 5 ∧ i = .int .i64 (k : Nat) ∧ o = .bool (okK q k) ∧ wr = W) (fun _ i _ => 5 - (intOf i).toNat)
  case atStart => exact ⟨0, by omega, rfl, rfl, rfl⟩
  case round =>
    obtain ⟨k, hk, rfl, rfl, hW⟩ := hrel
    have hW := hW.symm
    subst hW
    by_cases hlt : k < 5
    · have five : k = 0 ∨ k = 1 ∨ k = 2 ∨ k = 3 ∨ k = 4 := by omega
      clear hlt hk
      rcases five with rfl | rfl | rfl | rfl | rfl
      · have b0 := okK_step q 0
        obtain ⟨t, ht⟩ : ∃ t, t = okK q 0 := ⟨_, rfl⟩
        have HT := Lib.hid ht
        have ST := Lib.hid b0
        rw [← ht]
        clear ht b0
        cases t
        · have NX := Lib.hid (show okK q 1 = false by rw [ST.out, ← HT.out]; rfl)
          go_wp2_with fail
          go_roundw
          case rel => exact ⟨1, by decide, by go_num, by rw [NX.out], by first | rfl | trivial⟩
          case measure => simp [intOf]
        · by_cases u1 : 0 ≤ q.s0
          · have d1 : decide (0 ≤ q.s0) = true := decide_eq_true u1
            have NX := Lib.hid (show okK q 1 = decide (q.s0 ≤ 1000000) by
              rw [ST.out, ← HT.out, Bool.true_and, decide_eq_decide]
              show inS q.s0 ↔ _
              unfold inS
              exact ⟨fun h => h.2, fun h => ⟨u1, h⟩⟩)
            clear u1
            go_wp2_with fail
            go_roundw
            case rel => exact ⟨1, by decide, by go_num, by rw [NX.out], by first | rfl | trivial⟩
            case measure => simp [intOf]
          · have d1 : decide (0 ≤ q.s0) = false := decide_eq_false u1
            have NX := Lib.hid (show okK q 1 = false by
              rw [ST.out, ← HT.out, Bool.true_and]
              exact decide_eq_false (fun h => u1 (show inS q.s0 from h).1))
            clear u1
            go_wp2_with fail
            go_roundw
            case rel => exact ⟨1, by decide, by go_num, by rw [NX.out], by first | rfl | trivial⟩
            case measure => simp [intOf]
      · have b0 := okK_step q 1
        obtain ⟨t, ht⟩ : ∃ t, t = okK q 1 := ⟨_, rfl⟩
        have HT := Lib.hid ht
        have ST := Lib.hid b0
        rw [← ht]
        clear ht b0
        cases t
        · have NX := Lib.hid (show okK q 2 = false by rw [ST.out, ← HT.out]; rfl)
          go_wp2_with fail
          go_roundw
          case rel => exact ⟨2, by decide, by go_num, by rw [NX.out], by first | rfl | trivial⟩
          case measure => simp [intOf]
        · by_cases u1 : 0 ≤ q.s1
          · have d1 : decide (0 ≤ q.s1) = true := decide_eq_true u1
            have NX := Lib.hid (show okK q 2 = decide (q.s1 ≤ 1000000) by
              rw [ST.out, ← HT.out, Bool.true_and, decide_eq_decide]
              show inS q.s1 ↔ _
              unfold inS
              exact ⟨fun h => h.2, fun h => ⟨u1, h⟩⟩)
            clear u1
            go_wp2_with fail
            go_roundw
            case rel => exact ⟨2, by decide, by go_num, by rw [NX.out], by first | rfl | trivial⟩
            case measure => simp [intOf]
          · have d1 : decide (0 ≤ q.s1) = false := decide_eq_false u1
            have NX := Lib.hid (show okK q 2 = false by
              rw [ST.out, ← HT.out, Bool.true_and]
              exact decide_eq_false (fun h => u1 (show inS q.s1 from h).1))
            clear u1
            go_wp2_with fail
            go_roundw
            case rel => exact ⟨2, by decide, by go_num, by rw [NX.out], by first | rfl | trivial⟩
            case measure => simp [intOf]
      · have b0 := okK_step q 2
        obtain ⟨t, ht⟩ : ∃ t, t = okK q 2 := ⟨_, rfl⟩
        have HT := Lib.hid ht
        have ST := Lib.hid b0
        rw [← ht]
        clear ht b0
        cases t
        · have NX := Lib.hid (show okK q 3 = false by rw [ST.out, ← HT.out]; rfl)
          go_wp2_with fail
          go_roundw
          case rel => exact ⟨3, by decide, by go_num, by rw [NX.out], by first | rfl | trivial⟩
          case measure => simp [intOf]
        · by_cases u1 : 0 ≤ q.s2
          · have d1 : decide (0 ≤ q.s2) = true := decide_eq_true u1
            have NX := Lib.hid (show okK q 3 = decide (q.s2 ≤ 1000000) by
              rw [ST.out, ← HT.out, Bool.true_and, decide_eq_decide]
              show inS q.s2 ↔ _
              unfold inS
              exact ⟨fun h => h.2, fun h => ⟨u1, h⟩⟩)
            clear u1
            go_wp2_with fail
            go_roundw
            case rel => exact ⟨3, by decide, by go_num, by rw [NX.out], by first | rfl | trivial⟩
            case measure => simp [intOf]
          · have d1 : decide (0 ≤ q.s2) = false := decide_eq_false u1
            have NX := Lib.hid (show okK q 3 = false by
              rw [ST.out, ← HT.out, Bool.true_and]
              exact decide_eq_false (fun h => u1 (show inS q.s2 from h).1))
            clear u1
            go_wp2_with fail
            go_roundw
            case rel => exact ⟨3, by decide, by go_num, by rw [NX.out], by first | rfl | trivial⟩
            case measure => simp [intOf]
      · have b0 := okK_step q 3
        obtain ⟨t, ht⟩ : ∃ t, t = okK q 3 := ⟨_, rfl⟩
        have HT := Lib.hid ht
        have ST := Lib.hid b0
        rw [← ht]
        clear ht b0
        cases t
        · have NX := Lib.hid (show okK q 4 = false by rw [ST.out, ← HT.out]; rfl)
          go_wp2_with fail
          go_roundw
          case rel => exact ⟨4, by decide, by go_num, by rw [NX.out], by first | rfl | trivial⟩
          case measure => simp [intOf]
        · by_cases u1 : 0 ≤ q.s3
          · have d1 : decide (0 ≤ q.s3) = true := decide_eq_true u1
            have NX := Lib.hid (show okK q 4 = decide (q.s3 ≤ 1000000) by
              rw [ST.out, ← HT.out, Bool.true_and, decide_eq_decide]
              show inS q.s3 ↔ _
              unfold inS
              exact ⟨fun h => h.2, fun h => ⟨u1, h⟩⟩)
            clear u1
            go_wp2_with fail
            go_roundw
            case rel => exact ⟨4, by decide, by go_num, by rw [NX.out], by first | rfl | trivial⟩
            case measure => simp [intOf]
          · have d1 : decide (0 ≤ q.s3) = false := decide_eq_false u1
            have NX := Lib.hid (show okK q 4 = false by
              rw [ST.out, ← HT.out, Bool.true_and]
              exact decide_eq_false (fun h => u1 (show inS q.s3 from h).1))
            clear u1
            go_wp2_with fail
            go_roundw
            case rel => exact ⟨4, by decide, by go_num, by rw [NX.out], by first | rfl | trivial⟩
            case measure => simp [intOf]
      · have b0 := okK_step q 4
        obtain ⟨t, ht⟩ : ∃ t, t = okK q 4 := ⟨_, rfl⟩
        have HT := Lib.hid ht
        have ST := Lib.hid b0
        rw [← ht]
        clear ht b0
        cases t
        · have NX := Lib.hid (show okK q 5 = false by rw [ST.out, ← HT.out]; rfl)
          go_wp2_with fail
          go_roundw
          case rel => exact ⟨5, by decide, by go_num, by rw [NX.out], by first | rfl | trivial⟩
          case measure => simp [intOf]
        · by_cases u1 : 0 ≤ q.s4
          · have d1 : decide (0 ≤ q.s4) = true := decide_eq_true u1
            have NX := Lib.hid (show okK q 5 = decide (q.s4 ≤ 1000000) by
              rw [ST.out, ← HT.out, Bool.true_and, decide_eq_decide]
              show inS q.s4 ↔ _
              unfold inS
              exact ⟨fun h => h.2, fun h => ⟨u1, h⟩⟩)
            clear u1
            go_wp2_with fail
            go_roundw
            case rel => exact ⟨5, by decide, by go_num, by rw [NX.out], by first | rfl | trivial⟩
            case measure => simp [intOf]
          · have d1 : decide (0 ≤ q.s4) = false := decide_eq_false u1
            have NX := Lib.hid (show okK q 5 = false by
              rw [ST.out, ← HT.out, Bool.true_and]
              exact decide_eq_false (fun h => u1 (show inS q.s4 from h).1))
            clear u1
            go_wp2_with fail
            go_roundw
            case rel => exact ⟨5, by decide, by go_num, by rw [NX.out], by first | rfl | trivial⟩
            case measure => simp [intOf]
    · obtain rfl : k = 5 := by omega
      obtain ⟨t, ht⟩ : ∃ t, t = okK q 5 := ⟨_, rfl⟩
      have HT := Lib.hid ht
      rw [← ht]
      clear ht hk hlt
      cases t
      · have e := Lib.hid (show r = 8 by rw [ER.out, ← HT.out]; rfl)
        go_wp2_with fail
        go_ret
        exact ⟨by rw [e.out]; rfl, HB.out⟩
      · have e := Lib.hid (show r = 0 by rw [ER.out, ← HT.out]; rfl)
        go_wp2_with fail
        go_ret
        exact ⟨by rw [e.out]; rfl, HB.out⟩

end Go.Proofs.Ytmkcdlhhbnakiaa
