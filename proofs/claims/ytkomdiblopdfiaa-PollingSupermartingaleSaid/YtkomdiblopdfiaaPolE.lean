/- Check of polling in the document's answer. -/
import Derived.Test.YtkomdiblopdfiaaPolD
import Derived.BigQuiet
import Derived.Deep.RegionHeld3
namespace Go.Proofs.Ytkomdiblopdfiaa
open Go.RowKit Go.Suf
set_option linter.unusedVariables false
set_option linter.unusedSimpArgs false

end Go.Proofs.Ytkomdiblopdfiaa
namespace Go.Suf
open Go.RowKit Go.Suf
open Go.Proofs.Ytkomdiblopdfiaa
set_option linter.unusedVariables false
set_option linter.unusedSimpArgs false
theorem RdI.at {w : World} {b off n cap : Nat} {xs : List Int} (h : RdI w (some ⟨b, off, none⟩) n cap xs) (k : Nat) (hk : k < n) : w.cell? ⟨b, off + k, none⟩ = some (.int .i64 (ith xs k)) := by
  obtain ⟨b', off', e, hc⟩ := h.addr (by omega)
  injection e with e
  injection e with e1 e2
  subst e1 e2
  exact hc k hk
end Go.Suf
namespace Go.Proofs.Ytkomdiblopdfiaa
open Go.RowKit Go.Suf
set_option linter.unusedVariables false
set_option linter.unusedSimpArgs false
theorem allIn_succ {xs : List Int} {k : Nat} (h : k < xs.length) : allIn (xs.take (k + 1)) = (allIn (xs.take k) && decide (inS (ith xs k))) := by
  unfold allIn ith
  rw [List.take_add_one, List.all_append, List.getElem?_eq_getElem h, List.getD, List.getElem?_eq_getElem h]
  simp

set_option maxRecDepth 100000 in
set_option maxHeartbeats 8000000 in
theorem refPolCheck_any (w : World) {q : PV} {a b : Option Addr} {n m c d : Nat} (h1 : Rd .u32 w a n c q.lev) (h2 : Rd .u32 w b m d q.best) (hw : PW q) :
    Calls Try.prog 28 #[polV q a n c b m d] w (RetIB w (chkP q)) := by
  obtain ⟨r, hr⟩ : ∃ r, r = chkP q := ⟨_, rfl⟩
  rw [← hr]
  have L1 := Has.new w (polC q a n c b m d) 25
  have k0 := L1.cell 0 _ rfl
  have k4 := L1.cell 4 _ rfl
  have k5 := L1.cell 5 _ rfl
  have q1 := h1.below L1.below
  have q2 := h2.below L1.below
  by_cases b1 : q.bet < 1
  case pos =>
    have e := Lib.hid (show r = 8 by rw [hr]; exact chkP_no (fun h => by omega))
    have d1 : decide (1 ≤ q.bet) = false := decide_eq_false (by omega)
    clear hr
    go_enter Try.func28, Try.ntmps28
    go_wp2_with fail
    have LL := L1
    clear L1
    generalize w.alloc (.cells (polC q a n c b m d) 25) = w1 at *
    have r1 := fun w' (hb : Below w1.heap.size w1 w') => q1.below hb
    have r2 := fun w' (hb : Below w1.heap.size w1 w') => q2.below hb
    have A1 := fun w' (hb : Below w1.heap.size w1 w') => refAtMost_any w' (r1 w' hb) (r2 w' hb)
    have A2 := fun w' (hb : Below w1.heap.size w1 w') a9 n9 c9 (x9 : Rd .u32 w' a9 n9 c9 [0, 0, 1]) => refAtMost_any w' x9 (r2 w' hb)
    have A3 := fun w' (hb : Below w1.heap.size w1 w') a9 n9 c9 (x9 : Rd .u32 w' a9 n9 c9 [0, 0, 0, 0, 1]) => refAtMost_any w' (r2 w' hb) x9
    have hB := (Below.refl w1.heap.size w1).drew
    have lt := LL.lt
    go_quiet (fail)
    have HB := Lib.hid (below_drewN LL.below nq)
    have LD := LL.later (below_drewN (Below.refl _ _) nq)
    generalize w1.drewN nq = W at *
    go_wp2_with fail
    go_loopw [3, 4] (fun o i wr => ∃ (k : Nat), k ≤ 3 ∧ i = .int .i64 (k : Nat) ∧ o = .bool false ∧ wr = W) (fun _ i _ => 3 - (intOf i).toNat)
    case atStart => exact ⟨0, by omega, rfl, rfl, rfl⟩
    case round =>
      obtain ⟨k, hk, rfl, rfl, rfl⟩ := hrel
      by_cases hlt : k < 3
      · go_wp2_with fail
        go_roundw
        case rel => exact ⟨k + 1, by omega, by go_num, by first | rfl | trivial, by first | rfl | trivial⟩
        case measure => simp [intOf]; omega
      · obtain rfl : k = 3 := by omega
        go_wp2_with fail
        go_ret
        exact ⟨by rw [e.out]; rfl, HB.out⟩
  by_cases b2 : 999 < q.bet
  case pos =>
    have e := Lib.hid (show r = 8 by rw [hr]; exact chkP_no (fun h => by omega))
    have d1 : decide (1 ≤ q.bet) = true := decide_eq_true (by omega)
    have d2 : decide (q.bet ≤ 999) = false := decide_eq_false (by omega)
    clear hr
    go_enter Try.func28, Try.ntmps28
    go_wp2_with fail
    have LL := L1
    clear L1
    generalize w.alloc (.cells (polC q a n c b m d) 25) = w1 at *
    have r1 := fun w' (hb : Below w1.heap.size w1 w') => q1.below hb
    have r2 := fun w' (hb : Below w1.heap.size w1 w') => q2.below hb
    have A1 := fun w' (hb : Below w1.heap.size w1 w') => refAtMost_any w' (r1 w' hb) (r2 w' hb)
    have A2 := fun w' (hb : Below w1.heap.size w1 w') a9 n9 c9 (x9 : Rd .u32 w' a9 n9 c9 [0, 0, 1]) => refAtMost_any w' x9 (r2 w' hb)
    have A3 := fun w' (hb : Below w1.heap.size w1 w') a9 n9 c9 (x9 : Rd .u32 w' a9 n9 c9 [0, 0, 0, 0, 1]) => refAtMost_any w' (r2 w' hb) x9
    have hB := (Below.refl w1.heap.size w1).drew
    have lt := LL.lt
    go_quiet (fail)
    have HB := Lib.hid (below_drewN LL.below nq)
    have LD := LL.later (below_drewN (Below.refl _ _) nq)
    generalize w1.drewN nq = W at *
    go_wp2_with fail
    go_loopw [3, 4] (fun o i wr => ∃ (k : Nat), k ≤ 3 ∧ i = .int .i64 (k : Nat) ∧ o = .bool false ∧ wr = W) (fun _ i _ => 3 - (intOf i).toNat)
    case atStart => exact ⟨0, by omega, rfl, rfl, rfl⟩
    case round =>
      obtain ⟨k, hk, rfl, rfl, rfl⟩ := hrel
      by_cases hlt : k < 3
      · go_wp2_with fail
        go_roundw
        case rel => exact ⟨k + 1, by omega, by go_num, by first | rfl | trivial, by first | rfl | trivial⟩
        case measure => simp [intOf]; omega
      · obtain rfl : k = 3 := by omega
        go_wp2_with fail
        go_ret
        exact ⟨by rw [e.out]; rfl, HB.out⟩
  cases c1 : leC q.lev q.best
  case false =>
    have e := Lib.hid (show r = 8 by rw [hr]; exact chkP_no (fun h => by rw [c1] at h; simp at h))
    have E1 := Lib.hid c1
    have d1 : decide (1 ≤ q.bet) = true := decide_eq_true (by omega)
    have d2 : decide (q.bet ≤ 999) = true := decide_eq_true (by omega)
    clear hr c1
    go_enter Try.func28, Try.ntmps28
    go_wp2_with fail
    have LL := L1
    clear L1
    generalize w.alloc (.cells (polC q a n c b m d) 25) = w1 at *
    have r1 := fun w' (hb : Below w1.heap.size w1 w') => q1.below hb
    have r2 := fun w' (hb : Below w1.heap.size w1 w') => q2.below hb
    have A1 := fun w' (hb : Below w1.heap.size w1 w') => refAtMost_any w' (r1 w' hb) (r2 w' hb)
    simp only [E1.out] at A1
    have A2 := fun w' (hb : Below w1.heap.size w1 w') a9 n9 c9 (x9 : Rd .u32 w' a9 n9 c9 [0, 0, 1]) => refAtMost_any w' x9 (r2 w' hb)
    have A3 := fun w' (hb : Below w1.heap.size w1 w') a9 n9 c9 (x9 : Rd .u32 w' a9 n9 c9 [0, 0, 0, 0, 1]) => refAtMost_any w' (r2 w' hb) x9
    have hB := (Below.refl w1.heap.size w1).drew
    have lt := LL.lt
    have AQ := fun k => refAtMost_dr (w1.drewN k) (q1.drewN k) (q2.drewN k)
    simp only [E1.out] at AQ
    go_quiet ((go_at_call 34; exact Calls.quiet_of (AQ _)))
    have HB := Lib.hid (below_drewN LL.below nq)
    have LD := LL.later (below_drewN (Below.refl _ _) nq)
    generalize w1.drewN nq = W at *
    go_wp2_with fail
    go_loopw [3, 4] (fun o i wr => ∃ (k : Nat), k ≤ 3 ∧ i = .int .i64 (k : Nat) ∧ o = .bool false ∧ wr = W) (fun _ i _ => 3 - (intOf i).toNat)
    case atStart => exact ⟨0, by omega, rfl, rfl, rfl⟩
    case round =>
      obtain ⟨k, hk, rfl, rfl, rfl⟩ := hrel
      by_cases hlt : k < 3
      · go_wp2_with fail
        go_roundw
        case rel => exact ⟨k + 1, by omega, by go_num, by first | rfl | trivial, by first | rfl | trivial⟩
        case measure => simp [intOf]; omega
      · obtain rfl : k = 3 := by omega
        go_wp2_with fail
        go_ret
        exact ⟨by rw [e.out]; rfl, HB.out⟩
  cases c2 : leC [0, 0, 1] q.best
  case false =>
    have e := Lib.hid (show r = 8 by rw [hr]; exact chkP_no (fun h => by rw [c2] at h; simp at h))
    have E1 := Lib.hid c1
    have E2 := Lib.hid c2
    have d1 : decide (1 ≤ q.bet) = true := decide_eq_true (by omega)
    have d2 : decide (q.bet ≤ 999) = true := decide_eq_true (by omega)
    clear hr c1 c2
    go_enter Try.func28, Try.ntmps28
    go_wp2_with fail
    have LL := L1
    clear L1
    generalize w.alloc (.cells (polC q a n c b m d) 25) = w1 at *
    have r1 := fun w' (hb : Below w1.heap.size w1 w') => q1.below hb
    have r2 := fun w' (hb : Below w1.heap.size w1 w') => q2.below hb
    have A1 := fun w' (hb : Below w1.heap.size w1 w') => refAtMost_any w' (r1 w' hb) (r2 w' hb)
    simp only [E1.out] at A1
    have A2 := fun w' (hb : Below w1.heap.size w1 w') a9 n9 c9 (x9 : Rd .u32 w' a9 n9 c9 [0, 0, 1]) => refAtMost_any w' x9 (r2 w' hb)
    simp only [E2.out] at A2
    have A3 := fun w' (hb : Below w1.heap.size w1 w') a9 n9 c9 (x9 : Rd .u32 w' a9 n9 c9 [0, 0, 0, 0, 1]) => refAtMost_any w' (r2 w' hb) x9
    have hB := (Below.refl w1.heap.size w1).drew
    have lt := LL.lt
    refine wp_region_held_drew (S := (fun w' => Below w1.heap.size w1 w' ∧ w'.cell? ⟨w.heap.size, 0, none⟩ = some (.int .i64 q.bet) ∧ w'.cell? ⟨w.heap.size, 4, none⟩ = some (.slice a n c) ∧ w'.cell? ⟨w.heap.size, 5, none⟩ = some (.slice b m d))) (by kernel_rfl) ?_ (fun hHeld => ?_)
    · (first | (refine ⟨?_, ?_, ?_, ?_⟩ <;> first | assumption | exact (Below.refl _ _).drew | (simp only [World.cell?_drew]; assumption) | (simp [*]; done)) | exact keep_pol ‹_› ‹_› (by omega) | fail "keep")
    refine wpAnyH_take (i := 0) (oi := ?oir4_0) (v := ?vr4_0) ?hir4_0 (by kernel_rfl) (by kernel_rfl) (by kernel_rfl) ?hqr4_0 ?hyr4_0 (by assumption) ?restr4_0
    case hir4_0 => simp only [List.getElem?_toArray, List.getElem?_cons_succ, List.getElem?_cons_zero]; rfl
    case hqr4_0 => exact fun _ _ _ h => h
    case hyr4_0 => (refine Or.inl ⟨by rfl, ?_⟩; intro w hSw; (try dsimp only at hSw); go_simp; all_goals with_reducible rfl)
    try simp only [Act.put, List.setIfInBounds_toArray, List.set_cons_zero, List.set_cons_succ]
    refine wpAnyH_take (i := 1) (oi := ?oir4_1) (v := ?vr4_1) ?hir4_1 (by kernel_rfl) (by kernel_rfl) (by kernel_rfl) ?hqr4_1 ?hyr4_1 (by assumption) ?restr4_1
    case hir4_1 => simp only [List.getElem?_toArray, List.getElem?_cons_succ, List.getElem?_cons_zero]; rfl
    case hqr4_1 => exact fun _ _ _ h => h
    case hyr4_1 => (refine Or.inl ⟨by rfl, ?_⟩; intro w hSw; (try dsimp only at hSw); go_simp; all_goals with_reducible rfl)
    try simp only [Act.put, List.setIfInBounds_toArray, List.set_cons_zero, List.set_cons_succ]
    refine wpAnyH_take (i := 2) (oi := ?oir4_2) (v := ?vr4_2) ?hir4_2 (by kernel_rfl) (by kernel_rfl) (by kernel_rfl) ?hqr4_2 ?hyr4_2 (by assumption) ?restr4_2
    case hir4_2 => simp only [List.getElem?_toArray, List.getElem?_cons_succ, List.getElem?_cons_zero]; rfl
    case hqr4_2 => exact fun _ _ _ h => h
    case hyr4_2 => (refine Or.inl ⟨by rfl, ?_⟩; intro w hSw; (try dsimp only at hSw); go_simp; all_goals with_reducible rfl)
    try simp only [Act.put, List.setIfInBounds_toArray, List.set_cons_zero, List.set_cons_succ]
    refine wpAnyH_take (i := 3) (oi := ?oir4_3) (v := ?vr4_3) ?hir4_3 (by kernel_rfl) (by kernel_rfl) (by kernel_rfl) ?hqr4_3 ?hyr4_3 (by assumption) ?restr4_3
    case hir4_3 => simp only [List.getElem?_toArray, List.getElem?_cons_succ, List.getElem?_cons_zero]; rfl
    case hqr4_3 => exact fun _ _ _ h => h
    case hyr4_3 => (refine Or.inl ⟨by rfl, ?_⟩; intro w hSw; (try dsimp only at hSw); go_simp; all_goals with_reducible rfl)
    try simp only [Act.put, List.setIfInBounds_toArray, List.set_cons_zero, List.set_cons_succ]
    refine wpAnyH_take (i := 4) (oi := ?oir4_4) (v := ?vr4_4) ?hir4_4 (by kernel_rfl) (by kernel_rfl) (by kernel_rfl) ?hqr4_4 ?hyr4_4 (by assumption) ?restr4_4
    case hir4_4 => simp only [List.getElem?_toArray, List.getElem?_cons_succ, List.getElem?_cons_zero]; rfl
    case hqr4_4 => exact fun _ _ _ h => h
    case hyr4_4 => (refine Or.inl ⟨by rfl, ?_⟩; intro w hSw; (try dsimp only at hSw); go_simp; all_goals with_reducible rfl)
    try simp only [Act.put, List.setIfInBounds_toArray, List.set_cons_zero, List.set_cons_succ]
    refine wpAnyH_take (i := 5) (oi := ?oir4_5) (v := ?vr4_5) ?hir4_5 (by kernel_rfl) (by kernel_rfl) (by kernel_rfl) ?hqr4_5 ?hyr4_5 (by assumption) ?restr4_5
    case hir4_5 => simp only [List.getElem?_toArray, List.getElem?_cons_succ, List.getElem?_cons_zero]; rfl
    case hqr4_5 => exact fun _ _ _ h => h
    case hyr4_5 => (refine Or.inl ⟨by rfl, ?_⟩; intro w hSw; (try dsimp only at hSw); go_simp; all_goals with_reducible rfl)
    try simp only [Act.put, List.setIfInBounds_toArray, List.set_cons_zero, List.set_cons_succ]
    refine wpAnyH_take (i := 6) (oi := ?oir4_6) (v := ?vr4_6) ?hir4_6 (by kernel_rfl) (by kernel_rfl) (by kernel_rfl) ?hqr4_6 ?hyr4_6 (by assumption) ?restr4_6
    case hir4_6 => simp only [List.getElem?_toArray, List.getElem?_cons_succ, List.getElem?_cons_zero]; rfl
    case hqr4_6 => exact fun _ _ _ h => h
    case hyr4_6 => (refine Or.inl ⟨by rfl, ?_⟩; intro w hSw; (try dsimp only at hSw); go_simp; all_goals with_reducible rfl)
    try simp only [Act.put, List.setIfInBounds_toArray, List.set_cons_zero, List.set_cons_succ]
    refine wpAnyH_take (i := 7) (oi := ?oir4_7) (v := ?vr4_7) ?hir4_7 (by kernel_rfl) (by kernel_rfl) (by kernel_rfl) ?hqr4_7 ?hyr4_7 (by assumption) ?restr4_7
    case hir4_7 => simp only [List.getElem?_toArray, List.getElem?_cons_succ, List.getElem?_cons_zero]; rfl
    case hqr4_7 => exact fun _ _ _ h => h
    case hyr4_7 => (refine Or.inl ⟨by rfl, ?_⟩; intro w hSw; (try dsimp only at hSw); go_simp; all_goals with_reducible rfl)
    try simp only [Act.put, List.setIfInBounds_toArray, List.set_cons_zero, List.set_cons_succ]
    refine wpAnyH_take (i := 8) (oi := ?oir4_8) (v := ?vr4_8) ?hir4_8 (by kernel_rfl) (by kernel_rfl) (by kernel_rfl) ?hqr4_8 ?hyr4_8 (by assumption) ?restr4_8
    case hir4_8 => simp only [List.getElem?_toArray, List.getElem?_cons_succ, List.getElem?_cons_zero]; rfl
    case hqr4_8 => exact fun _ _ _ h => h
    case hyr4_8 => (refine Or.inl ⟨by rfl, ?_⟩; intro w hSw; (try dsimp only at hSw); go_simp; all_goals with_reducible rfl)
    try simp only [Act.put, List.setIfInBounds_toArray, List.set_cons_zero, List.set_cons_succ]
    refine wpAnyH_take (i := 9) (oi := ?oir4_9) (v := ?vr4_9) ?hir4_9 (by kernel_rfl) (by kernel_rfl) (by kernel_rfl) ?hqr4_9 ?hyr4_9 (by assumption) ?restr4_9
    case hir4_9 => simp only [List.getElem?_toArray, List.getElem?_cons_succ, List.getElem?_cons_zero]; rfl
    case hqr4_9 => exact fun _ _ _ h => h
    case hyr4_9 => (refine Or.inl ⟨by rfl, ?_⟩; intro w hSw; (try dsimp only at hSw); go_simp; all_goals with_reducible rfl)
    try simp only [Act.put, List.setIfInBounds_toArray, List.set_cons_zero, List.set_cons_succ]
    refine wpAnyH_take (i := 10) (oi := ?oir4_10) (v := ?vr4_10) ?hir4_10 (by kernel_rfl) (by kernel_rfl) (by kernel_rfl) ?hqr4_10 ?hyr4_10 (by assumption) ?restr4_10
    case hir4_10 => simp only [List.getElem?_toArray, List.getElem?_cons_succ, List.getElem?_cons_zero]; rfl
    case hqr4_10 => exact fun _ _ _ h => h
    case hyr4_10 => (refine Or.inl ⟨by rfl, ?_⟩; intro w hSw; (try dsimp only at hSw); go_simp; all_goals with_reducible rfl)
    try simp only [Act.put, List.setIfInBounds_toArray, List.set_cons_zero, List.set_cons_succ]
    refine wpAnyH_take (i := 11) (oi := ?oir4_11) (v := ?vr4_11) ?hir4_11 (by kernel_rfl) (by kernel_rfl) (by kernel_rfl) ?hqr4_11 ?hyr4_11 (by assumption) ?restr4_11
    case hir4_11 => simp only [List.getElem?_toArray, List.getElem?_cons_succ, List.getElem?_cons_zero]; rfl
    case hqr4_11 => exact fun _ _ _ h => h
    case hyr4_11 => (refine Or.inl ⟨by rfl, ?_⟩; intro w hSw; (try dsimp only at hSw); go_simp; all_goals with_reducible rfl)
    try simp only [Act.put, List.setIfInBounds_toArray, List.set_cons_zero, List.set_cons_succ]
    refine wpAnyH_take (i := 12) (oi := ?oir4_12) (v := ?vr4_12) ?hir4_12 (by kernel_rfl) (by kernel_rfl) (by kernel_rfl) ?hqr4_12 ?hyr4_12 (by assumption) ?restr4_12
    case hir4_12 => simp only [List.getElem?_toArray, List.getElem?_cons_succ, List.getElem?_cons_zero]; rfl
    case hqr4_12 => exact fun _ _ _ h => h
    case hyr4_12 => (refine Or.inl ⟨by rfl, ?_⟩; intro w hSw; (try dsimp only at hSw); go_simp; all_goals with_reducible rfl)
    try simp only [Act.put, List.setIfInBounds_toArray, List.set_cons_zero, List.set_cons_succ]
    refine wpAnyH_ready (rs := [13]) (by kernel_rfl) (by simp) ?_
    refine AllReadyH.cons (o := ?or4_13) ?hor4_13 (fun K hK => ?kr4_13) AllReadyH.nil
    case hor4_13 => simp only [List.getElem?_toArray, List.getElem?_cons_succ, List.getElem?_cons_zero]; rfl
    go_simp
    (with_reducible refine (A1 _ hB).mono ?_); rintro e2 w2 ⟨rfl, hb2⟩; have hB := Below.trans hB (hb2.mono hB.size)
    go_wp2_with fail
    refine hK.out _ _ ?_ (fun hHeld => ?_)
    · (first | (refine ⟨?_, ?_, ?_, ?_⟩ <;> first | assumption | exact (Below.refl _ _).drew | (simp only [World.cell?_drew]; assumption) | (simp [*]; done)) | exact keep_pol ‹_› ‹_› (by omega) | fail "keep")
    clear hK K
    try simp only [Act.put, List.setIfInBounds_toArray, List.set_cons_zero, List.set_cons_succ]
    refine wpAnyH_take (i := 14) (oi := ?oir4_14) (v := ?vr4_14) ?hir4_14 (by kernel_rfl) (by kernel_rfl) (by kernel_rfl) ?hqr4_14 ?hyr4_14 (by assumption) ?restr4_14
    case hir4_14 => simp only [List.getElem?_toArray, List.getElem?_cons_succ, List.getElem?_cons_zero]; rfl
    case hqr4_14 => exact fun _ _ _ h => h
    case hyr4_14 => (refine Or.inl ⟨by rfl, ?_⟩; intro w hSw; (try dsimp only at hSw); go_simp; all_goals with_reducible rfl)
    try simp only [Act.put, List.setIfInBounds_toArray, List.set_cons_zero, List.set_cons_succ]
    refine wpAnyH_take (i := 15) (oi := ?oir4_15) (v := ?vr4_15) ?hir4_15 (by kernel_rfl) (by kernel_rfl) (by kernel_rfl) ?hqr4_15 ?hyr4_15 (by assumption) ?restr4_15
    case hir4_15 => simp only [List.getElem?_toArray, List.getElem?_cons_succ, List.getElem?_cons_zero]; rfl
    case hqr4_15 => exact fun _ _ _ h => h
    case hyr4_15 => (refine Or.inl ⟨by rfl, ?_⟩; intro w hSw; (try dsimp only at hSw); go_simp; all_goals with_reducible rfl)
    try simp only [Act.put, List.setIfInBounds_toArray, List.set_cons_zero, List.set_cons_succ]
    refine wpAnyH_take (i := 17) (oi := ?oir4_17) (v := ?vr4_17) ?hir4_17 (by kernel_rfl) (by kernel_rfl) (by kernel_rfl) ?hqr4_17 ?hyr4_17 (by assumption) ?restr4_17
    case hir4_17 => simp only [List.getElem?_toArray, List.getElem?_cons_succ, List.getElem?_cons_zero]; rfl
    case hqr4_17 => exact fun _ _ _ h => h
    case hyr4_17 => (refine Or.inl ⟨by rfl, ?_⟩; intro w hSw; (try dsimp only at hSw); go_simp; all_goals with_reducible rfl)
    try simp only [Act.put, List.setIfInBounds_toArray, List.set_cons_zero, List.set_cons_succ]
    refine wpAnyH_take (i := 18) (oi := ?oir4_18) (v := ?vr4_18) ?hir4_18 (by kernel_rfl) (by kernel_rfl) (by kernel_rfl) ?hqr4_18 ?hyr4_18 (by assumption) ?restr4_18
    case hir4_18 => simp only [List.getElem?_toArray, List.getElem?_cons_succ, List.getElem?_cons_zero]; rfl
    case hqr4_18 => exact fun _ _ _ h => h
    case hyr4_18 => (refine Or.inl ⟨by rfl, ?_⟩; intro w hSw; (try dsimp only at hSw); go_simp; all_goals with_reducible rfl)
    try simp only [Act.put, List.setIfInBounds_toArray, List.set_cons_zero, List.set_cons_succ]
    refine wpAnyH_ready (rs := [16]) (by kernel_rfl) (by simp) ?_
    refine AllReadyH.cons (o := ?or4_16) ?hor4_16 (fun K hK => ?kr4_16) AllReadyH.nil
    case hor4_16 => simp only [List.getElem?_toArray, List.getElem?_cons_succ, List.getElem?_cons_zero]; rfl
    go_simp
    (with_reducible refine (refOne_any _).mono ?_); rintro e2 w2 ⟨a9, n9, c9, rfl, x9, hb2⟩; have hB := Below.trans hB (hb2.mono hB.size)
    go_wp2_with fail
    refine hK.out _ _ ?_ (fun hHeld => ?_)
    · (first | (refine ⟨?_, ?_, ?_, ?_⟩ <;> first | assumption | exact (Below.refl _ _).drew | (simp only [World.cell?_drew]; assumption) | (simp [*]; done)) | exact keep_pol ‹_› ‹_› (by omega) | fail "keep")
    clear hK K
    try simp only [Act.put, List.setIfInBounds_toArray, List.set_cons_zero, List.set_cons_succ]
    refine wpAnyH_ready (rs := [19]) (by kernel_rfl) (by simp) ?_
    refine AllReadyH.cons (o := ?or4_19) ?hor4_19 (fun K hK => ?kr4_19) AllReadyH.nil
    case hor4_19 => simp only [List.getElem?_toArray, List.getElem?_cons_succ, List.getElem?_cons_zero]; rfl
    go_simp
    (with_reducible refine (A2 _ hB _ _ _ x9).mono ?_); rintro e2 w2 ⟨rfl, hb2⟩; have hB := Below.trans hB (hb2.mono hB.size)
    go_wp2_with fail
    refine hK.out _ _ ?_ (fun hHeld => ?_)
    · (first | (refine ⟨?_, ?_, ?_, ?_⟩ <;> first | assumption | exact (Below.refl _ _).drew | (simp only [World.cell?_drew]; assumption) | (simp [*]; done)) | exact keep_pol ‹_› ‹_› (by omega) | fail "keep")
    clear hK K
    try simp only [Act.put, List.setIfInBounds_toArray, List.set_cons_zero, List.set_cons_succ]
    refine wpAnyH_take (i := 20) (oi := ?oir4_20) (v := ?vr4_20) ?hir4_20 (by kernel_rfl) (by kernel_rfl) (by kernel_rfl) ?hqr4_20 ?hyr4_20 (by assumption) ?restr4_20
    case hir4_20 => simp only [List.getElem?_toArray, List.getElem?_cons_succ, List.getElem?_cons_zero]; rfl
    case hqr4_20 => exact fun _ _ _ h => h
    case hyr4_20 => (refine Or.inl ⟨by rfl, ?_⟩; intro w hSw; (try dsimp only at hSw); go_simp; all_goals with_reducible rfl)
    try simp only [Act.put, List.setIfInBounds_toArray, List.set_cons_zero, List.set_cons_succ]
    refine wpAnyH_take (i := 21) (oi := ?oir4_21) (v := ?vr4_21) ?hir4_21 (by kernel_rfl) (by kernel_rfl) (by kernel_rfl) ?hqr4_21 ?hyr4_21 (by assumption) ?restr4_21
    case hir4_21 => simp only [List.getElem?_toArray, List.getElem?_cons_succ, List.getElem?_cons_zero]; rfl
    case hqr4_21 => exact fun _ _ _ h => h
    case hyr4_21 => (refine Or.inl ⟨by rfl, ?_⟩; intro w hSw; (try dsimp only at hSw); go_simp; all_goals with_reducible rfl)
    try simp only [Act.put, List.setIfInBounds_toArray, List.set_cons_zero, List.set_cons_succ]
    refine wpAnyH_take (i := 22) (oi := ?oir4_22) (v := undef) ?hir4_22 (by kernel_rfl) (by kernel_rfl) (by kernel_rfl) ?hqr4_22 ?hyr4_22 (by assumption) ?restr4_22
    case hir4_22 => simp only [List.getElem?_toArray, List.getElem?_cons_succ, List.getElem?_cons_zero]; rfl
    case hqr4_22 => exact fun _ _ _ h => h
    case hyr4_22 => exact Or.inr ⟨by rfl, rfl⟩
    try simp only [Act.put, List.setIfInBounds_toArray, List.set_cons_zero, List.set_cons_succ]
    refine wpAnyH_take (i := 23) (oi := ?oir4_23) (v := undef) ?hir4_23 (by kernel_rfl) (by kernel_rfl) (by kernel_rfl) ?hqr4_23 ?hyr4_23 (by assumption) ?restr4_23
    case hir4_23 => simp only [List.getElem?_toArray, List.getElem?_cons_succ, List.getElem?_cons_zero]; rfl
    case hqr4_23 => exact fun _ _ _ h => h
    case hyr4_23 => exact Or.inr ⟨by rfl, rfl⟩
    try simp only [Act.put, List.setIfInBounds_toArray, List.set_cons_zero, List.set_cons_succ]
    refine wpAnyH_take (i := 24) (oi := ?oir4_24) (v := undef) ?hir4_24 (by kernel_rfl) (by kernel_rfl) (by kernel_rfl) ?hqr4_24 ?hyr4_24 (by assumption) ?restr4_24
    case hir4_24 => simp only [List.getElem?_toArray, List.getElem?_cons_succ, List.getElem?_cons_zero]; rfl
    case hqr4_24 => exact fun _ _ _ h => h
    case hyr4_24 => exact Or.inr ⟨by rfl, rfl⟩
    try simp only [Act.put, List.setIfInBounds_toArray, List.set_cons_zero, List.set_cons_succ]
    refine wpAnyH_take (i := 25) (oi := ?oir4_25) (v := undef) ?hir4_25 (by kernel_rfl) (by kernel_rfl) (by kernel_rfl) ?hqr4_25 ?hyr4_25 (by assumption) ?restr4_25
    case hir4_25 => simp only [List.getElem?_toArray, List.getElem?_cons_succ, List.getElem?_cons_zero]; rfl
    case hqr4_25 => exact fun _ _ _ h => h
    case hyr4_25 => exact Or.inr ⟨by rfl, rfl⟩
    try simp only [Act.put, List.setIfInBounds_toArray, List.set_cons_zero, List.set_cons_succ]
    refine wpAnyH_take (i := 26) (oi := ?oir4_26) (v := ?vr4_26) ?hir4_26 (by kernel_rfl) (by kernel_rfl) (by kernel_rfl) ?hqr4_26 ?hyr4_26 (by assumption) ?restr4_26
    case hir4_26 => simp only [List.getElem?_toArray, List.getElem?_cons_succ, List.getElem?_cons_zero]; rfl
    case hqr4_26 => exact fun _ _ _ h => h
    case hyr4_26 => (refine Or.inl ⟨by rfl, ?_⟩; intro w hSw; (try dsimp only at hSw); go_simp; all_goals with_reducible rfl)
    try simp only [Act.put, List.setIfInBounds_toArray, List.set_cons_zero, List.set_cons_succ]
    refine wpAnyH_take (i := 27) (oi := ?oir4_27) (v := ?vr4_27) ?hir4_27 (by kernel_rfl) (by kernel_rfl) (by kernel_rfl) ?hqr4_27 ?hyr4_27 (by assumption) ?restr4_27
    case hir4_27 => simp only [List.getElem?_toArray, List.getElem?_cons_succ, List.getElem?_cons_zero]; rfl
    case hqr4_27 => exact fun _ _ _ h => h
    case hyr4_27 => (refine Or.inl ⟨by rfl, ?_⟩; intro w hSw; (try dsimp only at hSw); go_simp; all_goals with_reducible rfl)
    try simp only [Act.put, List.setIfInBounds_toArray, List.set_cons_zero, List.set_cons_succ]
    refine wpAnyH_done (by kernel_rfl) ?_ _
    have HB := Lib.hid (LL.below.trans (hB.mono LL.below.size))
    have LD := LL.later hB
    rename World => W
    go_wp2_with fail
    go_loopw [3, 4] (fun o i wr => ∃ (k : Nat), k ≤ 3 ∧ i = .int .i64 (k : Nat) ∧ o = .bool false ∧ wr = W) (fun _ i _ => 3 - (intOf i).toNat)
    case atStart => exact ⟨0, by omega, rfl, rfl, rfl⟩
    case round =>
      obtain ⟨k, hk, rfl, rfl, rfl⟩ := hrel
      by_cases hlt : k < 3
      · go_wp2_with fail
        go_roundw
        case rel => exact ⟨k + 1, by omega, by go_num, by first | rfl | trivial, by first | rfl | trivial⟩
        case measure => simp [intOf]; omega
      · obtain rfl : k = 3 := by omega
        go_wp2_with fail
        go_ret
        exact ⟨by rw [e.out]; rfl, HB.out⟩
  cases c3 : leC q.best [0, 0, 0, 0, 1]
  case false =>
    have e := Lib.hid (show r = 8 by rw [hr]; exact chkP_no (fun h => by rw [c3] at h; simp at h))
    have E1 := Lib.hid c1
    have E2 := Lib.hid c2
    have E3 := Lib.hid c3
    have d1 : decide (1 ≤ q.bet) = true := decide_eq_true (by omega)
    have d2 : decide (q.bet ≤ 999) = true := decide_eq_true (by omega)
    clear hr c1 c2 c3
    go_enter Try.func28, Try.ntmps28
    go_wp2_with fail
    have LL := L1
    clear L1
    generalize w.alloc (.cells (polC q a n c b m d) 25) = w1 at *
    have r1 := fun w' (hb : Below w1.heap.size w1 w') => q1.below hb
    have r2 := fun w' (hb : Below w1.heap.size w1 w') => q2.below hb
    have A1 := fun w' (hb : Below w1.heap.size w1 w') => refAtMost_any w' (r1 w' hb) (r2 w' hb)
    simp only [E1.out] at A1
    have A2 := fun w' (hb : Below w1.heap.size w1 w') a9 n9 c9 (x9 : Rd .u32 w' a9 n9 c9 [0, 0, 1]) => refAtMost_any w' x9 (r2 w' hb)
    simp only [E2.out] at A2
    have A3 := fun w' (hb : Below w1.heap.size w1 w') a9 n9 c9 (x9 : Rd .u32 w' a9 n9 c9 [0, 0, 0, 0, 1]) => refAtMost_any w' (r2 w' hb) x9
    simp only [E3.out] at A3
    have hB := (Below.refl w1.heap.size w1).drew
    have lt := LL.lt
    refine wp_region_held_drew (S := (fun w' => Below w1.heap.size w1 w' ∧ w'.cell? ⟨w.heap.size, 0, none⟩ = some (.int .i64 q.bet) ∧ w'.cell? ⟨w.heap.size, 4, none⟩ = some (.slice a n c) ∧ w'.cell? ⟨w.heap.size, 5, none⟩ = some (.slice b m d))) (by kernel_rfl) ?_ (fun hHeld => ?_)
    · (first | (refine ⟨?_, ?_, ?_, ?_⟩ <;> first | assumption | exact (Below.refl _ _).drew | (simp only [World.cell?_drew]; assumption) | (simp [*]; done)) | exact keep_pol ‹_› ‹_› (by omega) | fail "keep")
    refine wpAnyH_take (i := 0) (oi := ?oir5_0) (v := ?vr5_0) ?hir5_0 (by kernel_rfl) (by kernel_rfl) (by kernel_rfl) ?hqr5_0 ?hyr5_0 (by assumption) ?restr5_0
    case hir5_0 => simp only [List.getElem?_toArray, List.getElem?_cons_succ, List.getElem?_cons_zero]; rfl
    case hqr5_0 => exact fun _ _ _ h => h
    case hyr5_0 => (refine Or.inl ⟨by rfl, ?_⟩; intro w hSw; (try dsimp only at hSw); go_simp; all_goals with_reducible rfl)
    try simp only [Act.put, List.setIfInBounds_toArray, List.set_cons_zero, List.set_cons_succ]
    refine wpAnyH_take (i := 1) (oi := ?oir5_1) (v := ?vr5_1) ?hir5_1 (by kernel_rfl) (by kernel_rfl) (by kernel_rfl) ?hqr5_1 ?hyr5_1 (by assumption) ?restr5_1
    case hir5_1 => simp only [List.getElem?_toArray, List.getElem?_cons_succ, List.getElem?_cons_zero]; rfl
    case hqr5_1 => exact fun _ _ _ h => h
    case hyr5_1 => (refine Or.inl ⟨by rfl, ?_⟩; intro w hSw; (try dsimp only at hSw); go_simp; all_goals with_reducible rfl)
    try simp only [Act.put, List.setIfInBounds_toArray, List.set_cons_zero, List.set_cons_succ]
    refine wpAnyH_take (i := 2) (oi := ?oir5_2) (v := ?vr5_2) ?hir5_2 (by kernel_rfl) (by kernel_rfl) (by kernel_rfl) ?hqr5_2 ?hyr5_2 (by assumption) ?restr5_2
    case hir5_2 => simp only [List.getElem?_toArray, List.getElem?_cons_succ, List.getElem?_cons_zero]; rfl
    case hqr5_2 => exact fun _ _ _ h => h
    case hyr5_2 => (refine Or.inl ⟨by rfl, ?_⟩; intro w hSw; (try dsimp only at hSw); go_simp; all_goals with_reducible rfl)
    try simp only [Act.put, List.setIfInBounds_toArray, List.set_cons_zero, List.set_cons_succ]
    refine wpAnyH_take (i := 3) (oi := ?oir5_3) (v := ?vr5_3) ?hir5_3 (by kernel_rfl) (by kernel_rfl) (by kernel_rfl) ?hqr5_3 ?hyr5_3 (by assumption) ?restr5_3
    case hir5_3 => simp only [List.getElem?_toArray, List.getElem?_cons_succ, List.getElem?_cons_zero]; rfl
    case hqr5_3 => exact fun _ _ _ h => h
    case hyr5_3 => (refine Or.inl ⟨by rfl, ?_⟩; intro w hSw; (try dsimp only at hSw); go_simp; all_goals with_reducible rfl)
    try simp only [Act.put, List.setIfInBounds_toArray, List.set_cons_zero, List.set_cons_succ]
    refine wpAnyH_take (i := 4) (oi := ?oir5_4) (v := ?vr5_4) ?hir5_4 (by kernel_rfl) (by kernel_rfl) (by kernel_rfl) ?hqr5_4 ?hyr5_4 (by assumption) ?restr5_4
    case hir5_4 => simp only [List.getElem?_toArray, List.getElem?_cons_succ, List.getElem?_cons_zero]; rfl
    case hqr5_4 => exact fun _ _ _ h => h
    case hyr5_4 => (refine Or.inl ⟨by rfl, ?_⟩; intro w hSw; (try dsimp only at hSw); go_simp; all_goals with_reducible rfl)
    try simp only [Act.put, List.setIfInBounds_toArray, List.set_cons_zero, List.set_cons_succ]
    refine wpAnyH_take (i := 5) (oi := ?oir5_5) (v := ?vr5_5) ?hir5_5 (by kernel_rfl) (by kernel_rfl) (by kernel_rfl) ?hqr5_5 ?hyr5_5 (by assumption) ?restr5_5
    case hir5_5 => simp only [List.getElem?_toArray, List.getElem?_cons_succ, List.getElem?_cons_zero]; rfl
    case hqr5_5 => exact fun _ _ _ h => h
    case hyr5_5 => (refine Or.inl ⟨by rfl, ?_⟩; intro w hSw; (try dsimp only at hSw); go_simp; all_goals with_reducible rfl)
    try simp only [Act.put, List.setIfInBounds_toArray, List.set_cons_zero, List.set_cons_succ]
    refine wpAnyH_take (i := 6) (oi := ?oir5_6) (v := ?vr5_6) ?hir5_6 (by kernel_rfl) (by kernel_rfl) (by kernel_rfl) ?hqr5_6 ?hyr5_6 (by assumption) ?restr5_6
    case hir5_6 => simp only [List.getElem?_toArray, List.getElem?_cons_succ, List.getElem?_cons_zero]; rfl
    case hqr5_6 => exact fun _ _ _ h => h
    case hyr5_6 => (refine Or.inl ⟨by rfl, ?_⟩; intro w hSw; (try dsimp only at hSw); go_simp; all_goals with_reducible rfl)
    try simp only [Act.put, List.setIfInBounds_toArray, List.set_cons_zero, List.set_cons_succ]
    refine wpAnyH_take (i := 7) (oi := ?oir5_7) (v := ?vr5_7) ?hir5_7 (by kernel_rfl) (by kernel_rfl) (by kernel_rfl) ?hqr5_7 ?hyr5_7 (by assumption) ?restr5_7
    case hir5_7 => simp only [List.getElem?_toArray, List.getElem?_cons_succ, List.getElem?_cons_zero]; rfl
    case hqr5_7 => exact fun _ _ _ h => h
    case hyr5_7 => (refine Or.inl ⟨by rfl, ?_⟩; intro w hSw; (try dsimp only at hSw); go_simp; all_goals with_reducible rfl)
    try simp only [Act.put, List.setIfInBounds_toArray, List.set_cons_zero, List.set_cons_succ]
    refine wpAnyH_take (i := 8) (oi := ?oir5_8) (v := ?vr5_8) ?hir5_8 (by kernel_rfl) (by kernel_rfl) (by kernel_rfl) ?hqr5_8 ?hyr5_8 (by assumption) ?restr5_8
    case hir5_8 => simp only [List.getElem?_toArray, List.getElem?_cons_succ, List.getElem?_cons_zero]; rfl
    case hqr5_8 => exact fun _ _ _ h => h
    case hyr5_8 => (refine Or.inl ⟨by rfl, ?_⟩; intro w hSw; (try dsimp only at hSw); go_simp; all_goals with_reducible rfl)
    try simp only [Act.put, List.setIfInBounds_toArray, List.set_cons_zero, List.set_cons_succ]
    refine wpAnyH_take (i := 9) (oi := ?oir5_9) (v := ?vr5_9) ?hir5_9 (by kernel_rfl) (by kernel_rfl) (by kernel_rfl) ?hqr5_9 ?hyr5_9 (by assumption) ?restr5_9
    case hir5_9 => simp only [List.getElem?_toArray, List.getElem?_cons_succ, List.getElem?_cons_zero]; rfl
    case hqr5_9 => exact fun _ _ _ h => h
    case hyr5_9 => (refine Or.inl ⟨by rfl, ?_⟩; intro w hSw; (try dsimp only at hSw); go_simp; all_goals with_reducible rfl)
    try simp only [Act.put, List.setIfInBounds_toArray, List.set_cons_zero, List.set_cons_succ]
    refine wpAnyH_take (i := 10) (oi := ?oir5_10) (v := ?vr5_10) ?hir5_10 (by kernel_rfl) (by kernel_rfl) (by kernel_rfl) ?hqr5_10 ?hyr5_10 (by assumption) ?restr5_10
    case hir5_10 => simp only [List.getElem?_toArray, List.getElem?_cons_succ, List.getElem?_cons_zero]; rfl
    case hqr5_10 => exact fun _ _ _ h => h
    case hyr5_10 => (refine Or.inl ⟨by rfl, ?_⟩; intro w hSw; (try dsimp only at hSw); go_simp; all_goals with_reducible rfl)
    try simp only [Act.put, List.setIfInBounds_toArray, List.set_cons_zero, List.set_cons_succ]
    refine wpAnyH_take (i := 11) (oi := ?oir5_11) (v := ?vr5_11) ?hir5_11 (by kernel_rfl) (by kernel_rfl) (by kernel_rfl) ?hqr5_11 ?hyr5_11 (by assumption) ?restr5_11
    case hir5_11 => simp only [List.getElem?_toArray, List.getElem?_cons_succ, List.getElem?_cons_zero]; rfl
    case hqr5_11 => exact fun _ _ _ h => h
    case hyr5_11 => (refine Or.inl ⟨by rfl, ?_⟩; intro w hSw; (try dsimp only at hSw); go_simp; all_goals with_reducible rfl)
    try simp only [Act.put, List.setIfInBounds_toArray, List.set_cons_zero, List.set_cons_succ]
    refine wpAnyH_take (i := 12) (oi := ?oir5_12) (v := ?vr5_12) ?hir5_12 (by kernel_rfl) (by kernel_rfl) (by kernel_rfl) ?hqr5_12 ?hyr5_12 (by assumption) ?restr5_12
    case hir5_12 => simp only [List.getElem?_toArray, List.getElem?_cons_succ, List.getElem?_cons_zero]; rfl
    case hqr5_12 => exact fun _ _ _ h => h
    case hyr5_12 => (refine Or.inl ⟨by rfl, ?_⟩; intro w hSw; (try dsimp only at hSw); go_simp; all_goals with_reducible rfl)
    try simp only [Act.put, List.setIfInBounds_toArray, List.set_cons_zero, List.set_cons_succ]
    refine wpAnyH_ready (rs := [13]) (by kernel_rfl) (by simp) ?_
    refine AllReadyH.cons (o := ?or5_13) ?hor5_13 (fun K hK => ?kr5_13) AllReadyH.nil
    case hor5_13 => simp only [List.getElem?_toArray, List.getElem?_cons_succ, List.getElem?_cons_zero]; rfl
    go_simp
    (with_reducible refine (A1 _ hB).mono ?_); rintro e2 w2 ⟨rfl, hb2⟩; have hB := Below.trans hB (hb2.mono hB.size)
    go_wp2_with fail
    refine hK.out _ _ ?_ (fun hHeld => ?_)
    · (first | (refine ⟨?_, ?_, ?_, ?_⟩ <;> first | assumption | exact (Below.refl _ _).drew | (simp only [World.cell?_drew]; assumption) | (simp [*]; done)) | exact keep_pol ‹_› ‹_› (by omega) | fail "keep")
    clear hK K
    try simp only [Act.put, List.setIfInBounds_toArray, List.set_cons_zero, List.set_cons_succ]
    refine wpAnyH_take (i := 14) (oi := ?oir5_14) (v := ?vr5_14) ?hir5_14 (by kernel_rfl) (by kernel_rfl) (by kernel_rfl) ?hqr5_14 ?hyr5_14 (by assumption) ?restr5_14
    case hir5_14 => simp only [List.getElem?_toArray, List.getElem?_cons_succ, List.getElem?_cons_zero]; rfl
    case hqr5_14 => exact fun _ _ _ h => h
    case hyr5_14 => (refine Or.inl ⟨by rfl, ?_⟩; intro w hSw; (try dsimp only at hSw); go_simp; all_goals with_reducible rfl)
    try simp only [Act.put, List.setIfInBounds_toArray, List.set_cons_zero, List.set_cons_succ]
    refine wpAnyH_take (i := 15) (oi := ?oir5_15) (v := ?vr5_15) ?hir5_15 (by kernel_rfl) (by kernel_rfl) (by kernel_rfl) ?hqr5_15 ?hyr5_15 (by assumption) ?restr5_15
    case hir5_15 => simp only [List.getElem?_toArray, List.getElem?_cons_succ, List.getElem?_cons_zero]; rfl
    case hqr5_15 => exact fun _ _ _ h => h
    case hyr5_15 => (refine Or.inl ⟨by rfl, ?_⟩; intro w hSw; (try dsimp only at hSw); go_simp; all_goals with_reducible rfl)
    try simp only [Act.put, List.setIfInBounds_toArray, List.set_cons_zero, List.set_cons_succ]
    refine wpAnyH_take (i := 17) (oi := ?oir5_17) (v := ?vr5_17) ?hir5_17 (by kernel_rfl) (by kernel_rfl) (by kernel_rfl) ?hqr5_17 ?hyr5_17 (by assumption) ?restr5_17
    case hir5_17 => simp only [List.getElem?_toArray, List.getElem?_cons_succ, List.getElem?_cons_zero]; rfl
    case hqr5_17 => exact fun _ _ _ h => h
    case hyr5_17 => (refine Or.inl ⟨by rfl, ?_⟩; intro w hSw; (try dsimp only at hSw); go_simp; all_goals with_reducible rfl)
    try simp only [Act.put, List.setIfInBounds_toArray, List.set_cons_zero, List.set_cons_succ]
    refine wpAnyH_take (i := 18) (oi := ?oir5_18) (v := ?vr5_18) ?hir5_18 (by kernel_rfl) (by kernel_rfl) (by kernel_rfl) ?hqr5_18 ?hyr5_18 (by assumption) ?restr5_18
    case hir5_18 => simp only [List.getElem?_toArray, List.getElem?_cons_succ, List.getElem?_cons_zero]; rfl
    case hqr5_18 => exact fun _ _ _ h => h
    case hyr5_18 => (refine Or.inl ⟨by rfl, ?_⟩; intro w hSw; (try dsimp only at hSw); go_simp; all_goals with_reducible rfl)
    try simp only [Act.put, List.setIfInBounds_toArray, List.set_cons_zero, List.set_cons_succ]
    refine wpAnyH_ready (rs := [16]) (by kernel_rfl) (by simp) ?_
    refine AllReadyH.cons (o := ?or5_16) ?hor5_16 (fun K hK => ?kr5_16) AllReadyH.nil
    case hor5_16 => simp only [List.getElem?_toArray, List.getElem?_cons_succ, List.getElem?_cons_zero]; rfl
    go_simp
    (with_reducible refine (refOne_any _).mono ?_); rintro e2 w2 ⟨a9, n9, c9, rfl, x9, hb2⟩; have hB := Below.trans hB (hb2.mono hB.size)
    go_wp2_with fail
    refine hK.out _ _ ?_ (fun hHeld => ?_)
    · (first | (refine ⟨?_, ?_, ?_, ?_⟩ <;> first | assumption | exact (Below.refl _ _).drew | (simp only [World.cell?_drew]; assumption) | (simp [*]; done)) | exact keep_pol ‹_› ‹_› (by omega) | fail "keep")
    clear hK K
    try simp only [Act.put, List.setIfInBounds_toArray, List.set_cons_zero, List.set_cons_succ]
    refine wpAnyH_ready (rs := [19]) (by kernel_rfl) (by simp) ?_
    refine AllReadyH.cons (o := ?or5_19) ?hor5_19 (fun K hK => ?kr5_19) AllReadyH.nil
    case hor5_19 => simp only [List.getElem?_toArray, List.getElem?_cons_succ, List.getElem?_cons_zero]; rfl
    go_simp
    (with_reducible refine (A2 _ hB _ _ _ x9).mono ?_); rintro e2 w2 ⟨rfl, hb2⟩; have hB := Below.trans hB (hb2.mono hB.size)
    go_wp2_with fail
    refine hK.out _ _ ?_ (fun hHeld => ?_)
    · (first | (refine ⟨?_, ?_, ?_, ?_⟩ <;> first | assumption | exact (Below.refl _ _).drew | (simp only [World.cell?_drew]; assumption) | (simp [*]; done)) | exact keep_pol ‹_› ‹_› (by omega) | fail "keep")
    clear hK K
    try simp only [Act.put, List.setIfInBounds_toArray, List.set_cons_zero, List.set_cons_succ]
    refine wpAnyH_take (i := 20) (oi := ?oir5_20) (v := ?vr5_20) ?hir5_20 (by kernel_rfl) (by kernel_rfl) (by kernel_rfl) ?hqr5_20 ?hyr5_20 (by assumption) ?restr5_20
    case hir5_20 => simp only [List.getElem?_toArray, List.getElem?_cons_succ, List.getElem?_cons_zero]; rfl
    case hqr5_20 => exact fun _ _ _ h => h
    case hyr5_20 => (refine Or.inl ⟨by rfl, ?_⟩; intro w hSw; (try dsimp only at hSw); go_simp; all_goals with_reducible rfl)
    try simp only [Act.put, List.setIfInBounds_toArray, List.set_cons_zero, List.set_cons_succ]
    refine wpAnyH_take (i := 21) (oi := ?oir5_21) (v := ?vr5_21) ?hir5_21 (by kernel_rfl) (by kernel_rfl) (by kernel_rfl) ?hqr5_21 ?hyr5_21 (by assumption) ?restr5_21
    case hir5_21 => simp only [List.getElem?_toArray, List.getElem?_cons_succ, List.getElem?_cons_zero]; rfl
    case hqr5_21 => exact fun _ _ _ h => h
    case hyr5_21 => (refine Or.inl ⟨by rfl, ?_⟩; intro w hSw; (try dsimp only at hSw); go_simp; all_goals with_reducible rfl)
    try simp only [Act.put, List.setIfInBounds_toArray, List.set_cons_zero, List.set_cons_succ]
    refine wpAnyH_take (i := 22) (oi := ?oir5_22) (v := ?vr5_22) ?hir5_22 (by kernel_rfl) (by kernel_rfl) (by kernel_rfl) ?hqr5_22 ?hyr5_22 (by assumption) ?restr5_22
    case hir5_22 => simp only [List.getElem?_toArray, List.getElem?_cons_succ, List.getElem?_cons_zero]; rfl
    case hqr5_22 => exact fun _ _ _ h => h
    case hyr5_22 => (refine Or.inl ⟨by rfl, ?_⟩; intro w hSw; (try dsimp only at hSw); go_simp; all_goals with_reducible rfl)
    try simp only [Act.put, List.setIfInBounds_toArray, List.set_cons_zero, List.set_cons_succ]
    refine wpAnyH_take (i := 23) (oi := ?oir5_23) (v := ?vr5_23) ?hir5_23 (by kernel_rfl) (by kernel_rfl) (by kernel_rfl) ?hqr5_23 ?hyr5_23 (by assumption) ?restr5_23
    case hir5_23 => simp only [List.getElem?_toArray, List.getElem?_cons_succ, List.getElem?_cons_zero]; rfl
    case hqr5_23 => exact fun _ _ _ h => h
    case hyr5_23 => (refine Or.inl ⟨by rfl, ?_⟩; intro w hSw; (try dsimp only at hSw); go_simp; all_goals with_reducible rfl)
    try simp only [Act.put, List.setIfInBounds_toArray, List.set_cons_zero, List.set_cons_succ]
    refine wpAnyH_ready (rs := [24]) (by kernel_rfl) (by simp) ?_
    refine AllReadyH.cons (o := ?or5_24) ?hor5_24 (fun K hK => ?kr5_24) AllReadyH.nil
    case hor5_24 => simp only [List.getElem?_toArray, List.getElem?_cons_succ, List.getElem?_cons_zero]; rfl
    go_simp
    (with_reducible refine (refMost_any _).mono ?_); rintro e2 w2 ⟨a9, n9, c9, rfl, x9, hb2⟩; have hB := Below.trans hB (hb2.mono hB.size)
    go_wp2_with fail
    refine hK.out _ _ ?_ (fun hHeld => ?_)
    · (first | (refine ⟨?_, ?_, ?_, ?_⟩ <;> first | assumption | exact (Below.refl _ _).drew | (simp only [World.cell?_drew]; assumption) | (simp [*]; done)) | exact keep_pol ‹_› ‹_› (by omega) | fail "keep")
    clear hK K
    try simp only [Act.put, List.setIfInBounds_toArray, List.set_cons_zero, List.set_cons_succ]
    refine wpAnyH_ready (rs := [25]) (by kernel_rfl) (by simp) ?_
    refine AllReadyH.cons (o := ?or5_25) ?hor5_25 (fun K hK => ?kr5_25) AllReadyH.nil
    case hor5_25 => simp only [List.getElem?_toArray, List.getElem?_cons_succ, List.getElem?_cons_zero]; rfl
    go_simp
    (with_reducible refine (A3 _ hB _ _ _ x9).mono ?_); rintro e2 w2 ⟨rfl, hb2⟩; have hB := Below.trans hB (hb2.mono hB.size)
    go_wp2_with fail
    refine hK.out _ _ ?_ (fun hHeld => ?_)
    · (first | (refine ⟨?_, ?_, ?_, ?_⟩ <;> first | assumption | exact (Below.refl _ _).drew | (simp only [World.cell?_drew]; assumption) | (simp [*]; done)) | exact keep_pol ‹_› ‹_› (by omega) | fail "keep")
    clear hK K
    try simp only [Act.put, List.setIfInBounds_toArray, List.set_cons_zero, List.set_cons_succ]
    refine wpAnyH_take (i := 26) (oi := ?oir5_26) (v := ?vr5_26) ?hir5_26 (by kernel_rfl) (by kernel_rfl) (by kernel_rfl) ?hqr5_26 ?hyr5_26 (by assumption) ?restr5_26
    case hir5_26 => simp only [List.getElem?_toArray, List.getElem?_cons_succ, List.getElem?_cons_zero]; rfl
    case hqr5_26 => exact fun _ _ _ h => h
    case hyr5_26 => (refine Or.inl ⟨by rfl, ?_⟩; intro w hSw; (try dsimp only at hSw); go_simp; all_goals with_reducible rfl)
    try simp only [Act.put, List.setIfInBounds_toArray, List.set_cons_zero, List.set_cons_succ]
    refine wpAnyH_take (i := 27) (oi := ?oir5_27) (v := ?vr5_27) ?hir5_27 (by kernel_rfl) (by kernel_rfl) (by kernel_rfl) ?hqr5_27 ?hyr5_27 (by assumption) ?restr5_27
    case hir5_27 => simp only [List.getElem?_toArray, List.getElem?_cons_succ, List.getElem?_cons_zero]; rfl
    case hqr5_27 => exact fun _ _ _ h => h
    case hyr5_27 => (refine Or.inl ⟨by rfl, ?_⟩; intro w hSw; (try dsimp only at hSw); go_simp; all_goals with_reducible rfl)
    try simp only [Act.put, List.setIfInBounds_toArray, List.set_cons_zero, List.set_cons_succ]
    refine wpAnyH_done (by kernel_rfl) ?_ _
    have HB := Lib.hid (LL.below.trans (hB.mono LL.below.size))
    have LD := LL.later hB
    rename World => W
    go_wp2_with fail
    go_loopw [3, 4] (fun o i wr => ∃ (k : Nat), k ≤ 3 ∧ i = .int .i64 (k : Nat) ∧ o = .bool false ∧ wr = W) (fun _ i _ => 3 - (intOf i).toNat)
    case atStart => exact ⟨0, by omega, rfl, rfl, rfl⟩
    case round =>
      obtain ⟨k, hk, rfl, rfl, rfl⟩ := hrel
      by_cases hlt : k < 3
      · go_wp2_with fail
        go_roundw
        case rel => exact ⟨k + 1, by omega, by go_num, by first | rfl | trivial, by first | rfl | trivial⟩
        case measure => simp [intOf]; omega
      · obtain rfl : k = 3 := by omega
        go_wp2_with fail
        go_ret
        exact ⟨by rw [e.out]; rfl, HB.out⟩
  have ER := Lib.hid (show r = if seenOk q = true then 0 else 8 by
    by_cases s : seenOk q = true
    · rw [if_pos s, hr]; exact chkP_yes ⟨⟨by omega, by omega⟩, s, c1, c2, c3⟩
    · rw [if_neg s, hr]; exact chkP_no (fun h => s h.2.1))
  have E1 := Lib.hid c1
  have E2 := Lib.hid c2
  have E3 := Lib.hid c3
  have d1 : decide (1 ≤ q.bet) = true := decide_eq_true (by omega)
  have d2 : decide (q.bet ≤ 999) = true := decide_eq_true (by omega)
  clear hr c1 c2 c3
  go_enter Try.func28, Try.ntmps28
  go_wp2_with fail
  have LL := L1
  clear L1
  generalize w.alloc (.cells (polC q a n c b m d) 25) = w1 at *
  have r1 := fun w' (hb : Below w1.heap.size w1 w') => q1.below hb
  have r2 := fun w' (hb : Below w1.heap.size w1 w') => q2.below hb
  have A1 := fun w' (hb : Below w1.heap.size w1 w') => refAtMost_any w' (r1 w' hb) (r2 w' hb)
  simp only [E1.out] at A1
  have A2 := fun w' (hb : Below w1.heap.size w1 w') a9 n9 c9 (x9 : Rd .u32 w' a9 n9 c9 [0, 0, 1]) => refAtMost_any w' x9 (r2 w' hb)
  simp only [E2.out] at A2
  have A3 := fun w' (hb : Below w1.heap.size w1 w') a9 n9 c9 (x9 : Rd .u32 w' a9 n9 c9 [0, 0, 0, 0, 1]) => refAtMost_any w' (r2 w' hb) x9
  simp only [E3.out] at A3
  have hB := (Below.refl w1.heap.size w1).drew
  have lt := LL.lt
  refine wp_region_held_drew (S := (fun w' => Below w1.heap.size w1 w' ∧ w'.cell? ⟨w.heap.size, 0, none⟩ = some (.int .i64 q.bet) ∧ w'.cell? ⟨w.heap.size, 4, none⟩ = some (.slice a n c) ∧ w'.cell? ⟨w.heap.size, 5, none⟩ = some (.slice b m d))) (by kernel_rfl) ?_ (fun hHeld => ?_)
  · (first | (refine ⟨?_, ?_, ?_, ?_⟩ <;> first | assumption | exact (Below.refl _ _).drew | (simp only [World.cell?_drew]; assumption) | (simp [*]; done)) | exact keep_pol ‹_› ‹_› (by omega) | fail "keep")
  refine wpAnyH_take (i := 0) (oi := ?oir6_0) (v := ?vr6_0) ?hir6_0 (by kernel_rfl) (by kernel_rfl) (by kernel_rfl) ?hqr6_0 ?hyr6_0 (by assumption) ?restr6_0
  case hir6_0 => simp only [List.getElem?_toArray, List.getElem?_cons_succ, List.getElem?_cons_zero]; rfl
  case hqr6_0 => exact fun _ _ _ h => h
  case hyr6_0 => (refine Or.inl ⟨by rfl, ?_⟩; intro w hSw; (try dsimp only at hSw); go_simp; all_goals with_reducible rfl)
  try simp only [Act.put, List.setIfInBounds_toArray, List.set_cons_zero, List.set_cons_succ]
  refine wpAnyH_take (i := 1) (oi := ?oir6_1) (v := ?vr6_1) ?hir6_1 (by kernel_rfl) (by kernel_rfl) (by kernel_rfl) ?hqr6_1 ?hyr6_1 (by assumption) ?restr6_1
  case hir6_1 => simp only [List.getElem?_toArray, List.getElem?_cons_succ, List.getElem?_cons_zero]; rfl
  case hqr6_1 => exact fun _ _ _ h => h
  case hyr6_1 => (refine Or.inl ⟨by rfl, ?_⟩; intro w hSw; (try dsimp only at hSw); go_simp; all_goals with_reducible rfl)
  try simp only [Act.put, List.setIfInBounds_toArray, List.set_cons_zero, List.set_cons_succ]
  refine wpAnyH_take (i := 2) (oi := ?oir6_2) (v := ?vr6_2) ?hir6_2 (by kernel_rfl) (by kernel_rfl) (by kernel_rfl) ?hqr6_2 ?hyr6_2 (by assumption) ?restr6_2
  case hir6_2 => simp only [List.getElem?_toArray, List.getElem?_cons_succ, List.getElem?_cons_zero]; rfl
  case hqr6_2 => exact fun _ _ _ h => h
  case hyr6_2 => (refine Or.inl ⟨by rfl, ?_⟩; intro w hSw; (try dsimp only at hSw); go_simp; all_goals with_reducible rfl)
  try simp only [Act.put, List.setIfInBounds_toArray, List.set_cons_zero, List.set_cons_succ]
  refine wpAnyH_take (i := 3) (oi := ?oir6_3) (v := ?vr6_3) ?hir6_3 (by kernel_rfl) (by kernel_rfl) (by kernel_rfl) ?hqr6_3 ?hyr6_3 (by assumption) ?restr6_3
  case hir6_3 => simp only [List.getElem?_toArray, List.getElem?_cons_succ, List.getElem?_cons_zero]; rfl
  case hqr6_3 => exact fun _ _ _ h => h
  case hyr6_3 => (refine Or.inl ⟨by rfl, ?_⟩; intro w hSw; (try dsimp only at hSw); go_simp; all_goals with_reducible rfl)
  try simp only [Act.put, List.setIfInBounds_toArray, List.set_cons_zero, List.set_cons_succ]
  refine wpAnyH_take (i := 4) (oi := ?oir6_4) (v := ?vr6_4) ?hir6_4 (by kernel_rfl) (by kernel_rfl) (by kernel_rfl) ?hqr6_4 ?hyr6_4 (by assumption) ?restr6_4
  case hir6_4 => simp only [List.getElem?_toArray, List.getElem?_cons_succ, List.getElem?_cons_zero]; rfl
  case hqr6_4 => exact fun _ _ _ h => h
  case hyr6_4 => (refine Or.inl ⟨by rfl, ?_⟩; intro w hSw; (try dsimp only at hSw); go_simp; all_goals with_reducible rfl)
  try simp only [Act.put, List.setIfInBounds_toArray, List.set_cons_zero, List.set_cons_succ]
  refine wpAnyH_take (i := 5) (oi := ?oir6_5) (v := ?vr6_5) ?hir6_5 (by kernel_rfl) (by kernel_rfl) (by kernel_rfl) ?hqr6_5 ?hyr6_5 (by assumption) ?restr6_5
  case hir6_5 => simp only [List.getElem?_toArray, List.getElem?_cons_succ, List.getElem?_cons_zero]; rfl
  case hqr6_5 => exact fun _ _ _ h => h
  case hyr6_5 => (refine Or.inl ⟨by rfl, ?_⟩; intro w hSw; (try dsimp only at hSw); go_simp; all_goals with_reducible rfl)
  try simp only [Act.put, List.setIfInBounds_toArray, List.set_cons_zero, List.set_cons_succ]
  refine wpAnyH_take (i := 6) (oi := ?oir6_6) (v := ?vr6_6) ?hir6_6 (by kernel_rfl) (by kernel_rfl) (by kernel_rfl) ?hqr6_6 ?hyr6_6 (by assumption) ?restr6_6
  case hir6_6 => simp only [List.getElem?_toArray, List.getElem?_cons_succ, List.getElem?_cons_zero]; rfl
  case hqr6_6 => exact fun _ _ _ h => h
  case hyr6_6 => (refine Or.inl ⟨by rfl, ?_⟩; intro w hSw; (try dsimp only at hSw); go_simp; all_goals with_reducible rfl)
  try simp only [Act.put, List.setIfInBounds_toArray, List.set_cons_zero, List.set_cons_succ]
  refine wpAnyH_take (i := 7) (oi := ?oir6_7) (v := ?vr6_7) ?hir6_7 (by kernel_rfl) (by kernel_rfl) (by kernel_rfl) ?hqr6_7 ?hyr6_7 (by assumption) ?restr6_7
  case hir6_7 => simp only [List.getElem?_toArray, List.getElem?_cons_succ, List.getElem?_cons_zero]; rfl
  case hqr6_7 => exact fun _ _ _ h => h
  case hyr6_7 => (refine Or.inl ⟨by rfl, ?_⟩; intro w hSw; (try dsimp only at hSw); go_simp; all_goals with_reducible rfl)
  try simp only [Act.put, List.setIfInBounds_toArray, List.set_cons_zero, List.set_cons_succ]
  refine wpAnyH_take (i := 8) (oi := ?oir6_8) (v := ?vr6_8) ?hir6_8 (by kernel_rfl) (by kernel_rfl) (by kernel_rfl) ?hqr6_8 ?hyr6_8 (by assumption) ?restr6_8
  case hir6_8 => simp only [List.getElem?_toArray, List.getElem?_cons_succ, List.getElem?_cons_zero]; rfl
  case hqr6_8 => exact fun _ _ _ h => h
  case hyr6_8 => (refine Or.inl ⟨by rfl, ?_⟩; intro w hSw; (try dsimp only at hSw); go_simp; all_goals with_reducible rfl)
  try simp only [Act.put, List.setIfInBounds_toArray, List.set_cons_zero, List.set_cons_succ]
  refine wpAnyH_take (i := 9) (oi := ?oir6_9) (v := ?vr6_9) ?hir6_9 (by kernel_rfl) (by kernel_rfl) (by kernel_rfl) ?hqr6_9 ?hyr6_9 (by assumption) ?restr6_9
  case hir6_9 => simp only [List.getElem?_toArray, List.getElem?_cons_succ, List.getElem?_cons_zero]; rfl
  case hqr6_9 => exact fun _ _ _ h => h
  case hyr6_9 => (refine Or.inl ⟨by rfl, ?_⟩; intro w hSw; (try dsimp only at hSw); go_simp; all_goals with_reducible rfl)
  try simp only [Act.put, List.setIfInBounds_toArray, List.set_cons_zero, List.set_cons_succ]
  refine wpAnyH_take (i := 10) (oi := ?oir6_10) (v := ?vr6_10) ?hir6_10 (by kernel_rfl) (by kernel_rfl) (by kernel_rfl) ?hqr6_10 ?hyr6_10 (by assumption) ?restr6_10
  case hir6_10 => simp only [List.getElem?_toArray, List.getElem?_cons_succ, List.getElem?_cons_zero]; rfl
  case hqr6_10 => exact fun _ _ _ h => h
  case hyr6_10 => (refine Or.inl ⟨by rfl, ?_⟩; intro w hSw; (try dsimp only at hSw); go_simp; all_goals with_reducible rfl)
  try simp only [Act.put, List.setIfInBounds_toArray, List.set_cons_zero, List.set_cons_succ]
  refine wpAnyH_take (i := 11) (oi := ?oir6_11) (v := ?vr6_11) ?hir6_11 (by kernel_rfl) (by kernel_rfl) (by kernel_rfl) ?hqr6_11 ?hyr6_11 (by assumption) ?restr6_11
  case hir6_11 => simp only [List.getElem?_toArray, List.getElem?_cons_succ, List.getElem?_cons_zero]; rfl
  case hqr6_11 => exact fun _ _ _ h => h
  case hyr6_11 => (refine Or.inl ⟨by rfl, ?_⟩; intro w hSw; (try dsimp only at hSw); go_simp; all_goals with_reducible rfl)
  try simp only [Act.put, List.setIfInBounds_toArray, List.set_cons_zero, List.set_cons_succ]
  refine wpAnyH_take (i := 12) (oi := ?oir6_12) (v := ?vr6_12) ?hir6_12 (by kernel_rfl) (by kernel_rfl) (by kernel_rfl) ?hqr6_12 ?hyr6_12 (by assumption) ?restr6_12
  case hir6_12 => simp only [List.getElem?_toArray, List.getElem?_cons_succ, List.getElem?_cons_zero]; rfl
  case hqr6_12 => exact fun _ _ _ h => h
  case hyr6_12 => (refine Or.inl ⟨by rfl, ?_⟩; intro w hSw; (try dsimp only at hSw); go_simp; all_goals with_reducible rfl)
  try simp only [Act.put, List.setIfInBounds_toArray, List.set_cons_zero, List.set_cons_succ]
  refine wpAnyH_ready (rs := [13]) (by kernel_rfl) (by simp) ?_
  refine AllReadyH.cons (o := ?or6_13) ?hor6_13 (fun K hK => ?kr6_13) AllReadyH.nil
  case hor6_13 => simp only [List.getElem?_toArray, List.getElem?_cons_succ, List.getElem?_cons_zero]; rfl
  go_simp
  (with_reducible refine (A1 _ hB).mono ?_); rintro e2 w2 ⟨rfl, hb2⟩; have hB := Below.trans hB (hb2.mono hB.size)
  go_wp2_with fail
  refine hK.out _ _ ?_ (fun hHeld => ?_)
  · (first | (refine ⟨?_, ?_, ?_, ?_⟩ <;> first | assumption | exact (Below.refl _ _).drew | (simp only [World.cell?_drew]; assumption) | (simp [*]; done)) | exact keep_pol ‹_› ‹_› (by omega) | fail "keep")
  clear hK K
  try simp only [Act.put, List.setIfInBounds_toArray, List.set_cons_zero, List.set_cons_succ]
  refine wpAnyH_take (i := 14) (oi := ?oir6_14) (v := ?vr6_14) ?hir6_14 (by kernel_rfl) (by kernel_rfl) (by kernel_rfl) ?hqr6_14 ?hyr6_14 (by assumption) ?restr6_14
  case hir6_14 => simp only [List.getElem?_toArray, List.getElem?_cons_succ, List.getElem?_cons_zero]; rfl
  case hqr6_14 => exact fun _ _ _ h => h
  case hyr6_14 => (refine Or.inl ⟨by rfl, ?_⟩; intro w hSw; (try dsimp only at hSw); go_simp; all_goals with_reducible rfl)
  try simp only [Act.put, List.setIfInBounds_toArray, List.set_cons_zero, List.set_cons_succ]
  refine wpAnyH_take (i := 15) (oi := ?oir6_15) (v := ?vr6_15) ?hir6_15 (by kernel_rfl) (by kernel_rfl) (by kernel_rfl) ?hqr6_15 ?hyr6_15 (by assumption) ?restr6_15
  case hir6_15 => simp only [List.getElem?_toArray, List.getElem?_cons_succ, List.getElem?_cons_zero]; rfl
  case hqr6_15 => exact fun _ _ _ h => h
  case hyr6_15 => (refine Or.inl ⟨by rfl, ?_⟩; intro w hSw; (try dsimp only at hSw); go_simp; all_goals with_reducible rfl)
  try simp only [Act.put, List.setIfInBounds_toArray, List.set_cons_zero, List.set_cons_succ]
  refine wpAnyH_take (i := 17) (oi := ?oir6_17) (v := ?vr6_17) ?hir6_17 (by kernel_rfl) (by kernel_rfl) (by kernel_rfl) ?hqr6_17 ?hyr6_17 (by assumption) ?restr6_17
  case hir6_17 => simp only [List.getElem?_toArray, List.getElem?_cons_succ, List.getElem?_cons_zero]; rfl
  case hqr6_17 => exact fun _ _ _ h => h
  case hyr6_17 => (refine Or.inl ⟨by rfl, ?_⟩; intro w hSw; (try dsimp only at hSw); go_simp; all_goals with_reducible rfl)
  try simp only [Act.put, List.setIfInBounds_toArray, List.set_cons_zero, List.set_cons_succ]
  refine wpAnyH_take (i := 18) (oi := ?oir6_18) (v := ?vr6_18) ?hir6_18 (by kernel_rfl) (by kernel_rfl) (by kernel_rfl) ?hqr6_18 ?hyr6_18 (by assumption) ?restr6_18
  case hir6_18 => simp only [List.getElem?_toArray, List.getElem?_cons_succ, List.getElem?_cons_zero]; rfl
  case hqr6_18 => exact fun _ _ _ h => h
  case hyr6_18 => (refine Or.inl ⟨by rfl, ?_⟩; intro w hSw; (try dsimp only at hSw); go_simp; all_goals with_reducible rfl)
  try simp only [Act.put, List.setIfInBounds_toArray, List.set_cons_zero, List.set_cons_succ]
  refine wpAnyH_ready (rs := [16]) (by kernel_rfl) (by simp) ?_
  refine AllReadyH.cons (o := ?or6_16) ?hor6_16 (fun K hK => ?kr6_16) AllReadyH.nil
  case hor6_16 => simp only [List.getElem?_toArray, List.getElem?_cons_succ, List.getElem?_cons_zero]; rfl
  go_simp
  (with_reducible refine (refOne_any _).mono ?_); rintro e2 w2 ⟨a9, n9, c9, rfl, x9, hb2⟩; have hB := Below.trans hB (hb2.mono hB.size)
  go_wp2_with fail
  refine hK.out _ _ ?_ (fun hHeld => ?_)
  · (first | (refine ⟨?_, ?_, ?_, ?_⟩ <;> first | assumption | exact (Below.refl _ _).drew | (simp only [World.cell?_drew]; assumption) | (simp [*]; done)) | exact keep_pol ‹_› ‹_› (by omega) | fail "keep")
  clear hK K
  try simp only [Act.put, List.setIfInBounds_toArray, List.set_cons_zero, List.set_cons_succ]
  refine wpAnyH_ready (rs := [19]) (by kernel_rfl) (by simp) ?_
  refine AllReadyH.cons (o := ?or6_19) ?hor6_19 (fun K hK => ?kr6_19) AllReadyH.nil
  case hor6_19 => simp only [List.getElem?_toArray, List.getElem?_cons_succ, List.getElem?_cons_zero]; rfl
  go_simp
  (with_reducible refine (A2 _ hB _ _ _ x9).mono ?_); rintro e2 w2 ⟨rfl, hb2⟩; have hB := Below.trans hB (hb2.mono hB.size)
  go_wp2_with fail
  refine hK.out _ _ ?_ (fun hHeld => ?_)
  · (first | (refine ⟨?_, ?_, ?_, ?_⟩ <;> first | assumption | exact (Below.refl _ _).drew | (simp only [World.cell?_drew]; assumption) | (simp [*]; done)) | exact keep_pol ‹_› ‹_› (by omega) | fail "keep")
  clear hK K
  try simp only [Act.put, List.setIfInBounds_toArray, List.set_cons_zero, List.set_cons_succ]
  refine wpAnyH_take (i := 20) (oi := ?oir6_20) (v := ?vr6_20) ?hir6_20 (by kernel_rfl) (by kernel_rfl) (by kernel_rfl) ?hqr6_20 ?hyr6_20 (by assumption) ?restr6_20
  case hir6_20 => simp only [List.getElem?_toArray, List.getElem?_cons_succ, List.getElem?_cons_zero]; rfl
  case hqr6_20 => exact fun _ _ _ h => h
  case hyr6_20 => (refine Or.inl ⟨by rfl, ?_⟩; intro w hSw; (try dsimp only at hSw); go_simp; all_goals with_reducible rfl)
  try simp only [Act.put, List.setIfInBounds_toArray, List.set_cons_zero, List.set_cons_succ]
  refine wpAnyH_take (i := 21) (oi := ?oir6_21) (v := ?vr6_21) ?hir6_21 (by kernel_rfl) (by kernel_rfl) (by kernel_rfl) ?hqr6_21 ?hyr6_21 (by assumption) ?restr6_21
  case hir6_21 => simp only [List.getElem?_toArray, List.getElem?_cons_succ, List.getElem?_cons_zero]; rfl
  case hqr6_21 => exact fun _ _ _ h => h
  case hyr6_21 => (refine Or.inl ⟨by rfl, ?_⟩; intro w hSw; (try dsimp only at hSw); go_simp; all_goals with_reducible rfl)
  try simp only [Act.put, List.setIfInBounds_toArray, List.set_cons_zero, List.set_cons_succ]
  refine wpAnyH_take (i := 22) (oi := ?oir6_22) (v := ?vr6_22) ?hir6_22 (by kernel_rfl) (by kernel_rfl) (by kernel_rfl) ?hqr6_22 ?hyr6_22 (by assumption) ?restr6_22
  case hir6_22 => simp only [List.getElem?_toArray, List.getElem?_cons_succ, List.getElem?_cons_zero]; rfl
  case hqr6_22 => exact fun _ _ _ h => h
  case hyr6_22 => (refine Or.inl ⟨by rfl, ?_⟩; intro w hSw; (try dsimp only at hSw); go_simp; all_goals with_reducible rfl)
  try simp only [Act.put, List.setIfInBounds_toArray, List.set_cons_zero, List.set_cons_succ]
  refine wpAnyH_take (i := 23) (oi := ?oir6_23) (v := ?vr6_23) ?hir6_23 (by kernel_rfl) (by kernel_rfl) (by kernel_rfl) ?hqr6_23 ?hyr6_23 (by assumption) ?restr6_23
  case hir6_23 => simp only [List.getElem?_toArray, List.getElem?_cons_succ, List.getElem?_cons_zero]; rfl
  case hqr6_23 => exact fun _ _ _ h => h
  case hyr6_23 => (refine Or.inl ⟨by rfl, ?_⟩; intro w hSw; (try dsimp only at hSw); go_simp; all_goals with_reducible rfl)
  try simp only [Act.put, List.setIfInBounds_toArray, List.set_cons_zero, List.set_cons_succ]
  refine wpAnyH_ready (rs := [24]) (by kernel_rfl) (by simp) ?_
  refine AllReadyH.cons (o := ?or6_24) ?hor6_24 (fun K hK => ?kr6_24) AllReadyH.nil
  case hor6_24 => simp only [List.getElem?_toArray, List.getElem?_cons_succ, List.getElem?_cons_zero]; rfl
  go_simp
  (with_reducible refine (refMost_any _).mono ?_); rintro e2 w2 ⟨a9, n9, c9, rfl, x9, hb2⟩; have hB := Below.trans hB (hb2.mono hB.size)
  go_wp2_with fail
  refine hK.out _ _ ?_ (fun hHeld => ?_)
  · (first | (refine ⟨?_, ?_, ?_, ?_⟩ <;> first | assumption | exact (Below.refl _ _).drew | (simp only [World.cell?_drew]; assumption) | (simp [*]; done)) | exact keep_pol ‹_› ‹_› (by omega) | fail "keep")
  clear hK K
  try simp only [Act.put, List.setIfInBounds_toArray, List.set_cons_zero, List.set_cons_succ]
  refine wpAnyH_ready (rs := [25]) (by kernel_rfl) (by simp) ?_
  refine AllReadyH.cons (o := ?or6_25) ?hor6_25 (fun K hK => ?kr6_25) AllReadyH.nil
  case hor6_25 => simp only [List.getElem?_toArray, List.getElem?_cons_succ, List.getElem?_cons_zero]; rfl
  go_simp
  (with_reducible refine (A3 _ hB _ _ _ x9).mono ?_); rintro e2 w2 ⟨rfl, hb2⟩; have hB := Below.trans hB (hb2.mono hB.size)
  go_wp2_with fail
  refine hK.out _ _ ?_ (fun hHeld => ?_)
  · (first | (refine ⟨?_, ?_, ?_, ?_⟩ <;> first | assumption | exact (Below.refl _ _).drew | (simp only [World.cell?_drew]; assumption) | (simp [*]; done)) | exact keep_pol ‹_› ‹_› (by omega) | fail "keep")
  clear hK K
  try simp only [Act.put, List.setIfInBounds_toArray, List.set_cons_zero, List.set_cons_succ]
  refine wpAnyH_take (i := 26) (oi := ?oir6_26) (v := ?vr6_26) ?hir6_26 (by kernel_rfl) (by kernel_rfl) (by kernel_rfl) ?hqr6_26 ?hyr6_26 (by assumption) ?restr6_26
  case hir6_26 => simp only [List.getElem?_toArray, List.getElem?_cons_succ, List.getElem?_cons_zero]; rfl
  case hqr6_26 => exact fun _ _ _ h => h
  case hyr6_26 => (refine Or.inl ⟨by rfl, ?_⟩; intro w hSw; (try dsimp only at hSw); go_simp; all_goals with_reducible rfl)
  try simp only [Act.put, List.setIfInBounds_toArray, List.set_cons_zero, List.set_cons_succ]
  refine wpAnyH_take (i := 27) (oi := ?oir6_27) (v := ?vr6_27) ?hir6_27 (by kernel_rfl) (by kernel_rfl) (by kernel_rfl) ?hqr6_27 ?hyr6_27 (by assumption) ?restr6_27
  case hir6_27 => simp only [List.getElem?_toArray, List.getElem?_cons_succ, List.getElem?_cons_zero]; rfl
  case hqr6_27 => exact fun _ _ _ h => h
  case hyr6_27 => (refine Or.inl ⟨by rfl, ?_⟩; intro w hSw; (try dsimp only at hSw); go_simp; all_goals with_reducible rfl)
  try simp only [Act.put, List.setIfInBounds_toArray, List.set_cons_zero, List.set_cons_succ]
  refine wpAnyH_done (by kernel_rfl) ?_ _
  have HB := Lib.hid (LL.below.trans (hB.mono LL.below.size))
  have LD := LL.later hB
  rename World => W
  have hs := arr_rdI LD rfl rfl rfl hw.s0 hw.s1 hw.s2
  go_wp2_with fail
  go_loopw [3, 4] (fun o i wr => ∃ (k : Nat) (t : Bool), k ≤ 3 ∧ i = .int .i64 (k : Nat) ∧ o = .bool t ∧ wr = W ∧ Hid (t = allIn (List.take k [q.s0, q.s1, q.s2]))) (fun _ i _ => 3 - (intOf i).toNat)
  case atStart => exact ⟨0, true, by omega, rfl, rfl, rfl, Lib.hid rfl⟩
  case round =>
    obtain ⟨k, t, hk, rfl, rfl, rfl, hD⟩ := hrel
    by_cases hlt : k < 3
    · have hc := hs.at k hlt
      obtain ⟨x, hx⟩ : ∃ x, x = ith [q.s0, q.s1, q.s2] k := ⟨_, rfl⟩
      rw [← hx] at hc
      have HT := Lib.hid (allIn_succ (xs := [q.s0, q.s1, q.s2]) (k := k) hlt)
      have HX := Lib.hid hx
      clear hx
      cases t
      · have HF := Lib.hid (show false = allIn (List.take (k + 1) [q.s0, q.s1, q.s2]) by rw [HT.out, ← hD.out]; rfl)
        go_wp2_with fail
        go_roundw
        case rel => exact ⟨k + 1, false, by omega, by go_num, by first | rfl | trivial, by first | rfl | trivial, HF⟩
        case measure => simp [intOf]; omega
      · by_cases u1 : x < 0
        · have d1 : decide (0 ≤ x) = false := decide_eq_false (by omega)
          have HF := Lib.hid (show false = allIn (List.take (k + 1) [q.s0, q.s1, q.s2]) by rw [HT.out, ← hD.out, ← HX.out, decide_eq_false (fun h => by unfold inS at h; omega)]; rfl)
          go_wp2_with fail
          go_roundw
          case rel => exact ⟨k + 1, false, by omega, by go_num, by first | rfl | trivial, by first | rfl | trivial, HF⟩
          case measure => simp [intOf]; omega
        · have d1 : decide (0 ≤ x) = true := decide_eq_true (by omega)
          have HF := Lib.hid (show decide (x ≤ 1000000) = allIn (List.take (k + 1) [q.s0, q.s1, q.s2]) by
            rw [HT.out, ← hD.out, ← HX.out, Bool.true_and, decide_eq_decide]
            unfold inS
            omega)
          go_wp2_with fail
          go_roundw
          case rel => exact ⟨k + 1, decide (x ≤ 1000000), by omega, by go_num, by first | rfl | trivial, by first | rfl | trivial, HF⟩
          case measure => simp [intOf]; omega
    · obtain rfl : k = 3 := by omega
      have HE := Lib.hid (show t = seenOk q by rw [hD.out, ← seen_all]; rfl)
      cases t
      · have e := Lib.hid (show r = 8 by rw [ER.out, ← HE.out]; rfl)
        go_wp2_with fail
        go_ret
        exact ⟨by rw [e.out]; rfl, HB.out⟩
      · have e := Lib.hid (show r = 0 by rw [ER.out, ← HE.out]; rfl)
        go_wp2_with fail
        go_ret
        exact ⟨by rw [e.out]; rfl, HB.out⟩

end Go.Proofs.Ytkomdiblopdfiaa
