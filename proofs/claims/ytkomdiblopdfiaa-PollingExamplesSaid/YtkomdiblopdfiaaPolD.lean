/- Check of polling. -/
import Derived.Test.YtkomdiblopdfiaaPolA
import Derived.BigQuiet
import Derived.Deep.RegionHeld3
namespace Go.Proofs.Ytkomdiblopdfiaa
open Go.RowKit Go.Suf
set_option linter.unusedVariables false
set_option linter.unusedSimpArgs false

theorem chkP_no {q : PV} (h : ¬ ((1 ≤ q.bet ∧ q.bet ≤ 999) ∧ seenOk q = true ∧ leC q.lev q.best = true ∧ leC [0, 0, 1] q.best = true ∧ leC q.best [0, 0, 0, 0, 1] = true)) : chkP q = 8 := by
  unfold chkP
  rw [if_neg h]

theorem chkP_yes {q : PV} (h : (1 ≤ q.bet ∧ q.bet ≤ 999) ∧ seenOk q = true ∧ leC q.lev q.best = true ∧ leC [0, 0, 1] q.best = true ∧ leC q.best [0, 0, 0, 0, 1] = true) : chkP q = 0 := by
  unfold chkP
  rw [if_pos h]

set_option maxRecDepth 100000 in
set_option maxHeartbeats 8000000 in
theorem check_any (w : World) {q : PV} {a b : Option Addr} {n m c d : Nat} (h1 : Rd .u32 w a n c q.lev) (h2 : Rd .u32 w b m d q.best) (hw : PW q) :
    Calls Try.prog 18 #[polV q a n c b m d] w (RetIB w (chkP q)) := by
  obtain ⟨r, hr⟩ : ∃ r, r = chkP q := ⟨_, rfl⟩
  rw [← hr]
  have L1 := Has.new w (polC q a n c b m d) 25
  have hs := arr_rdI L1 rfl rfl rfl hw.s0 hw.s1 hw.s2
  have k0 := L1.cell 0 _ rfl
  have k4 := L1.cell 4 _ rfl
  have k5 := L1.cell 5 _ rfl
  have q1 := h1.below L1.below
  have q2 := h2.below L1.below
  have HC := fun W (hh : RdI W (some ⟨w.heap.size, 1, none⟩) 3 3 [q.s0, q.s1, q.s2]) => containsF_any W hh
  simp only [seen_all] at HC
  by_cases b1 : q.bet < 1
  case pos =>
    have e := Lib.hid (show r = 8 by rw [hr]; exact chkP_no (fun h => by omega))
    have d1 : decide (q.bet < 1) = true := decide_eq_true b1
    clear hr
    go_enter Try.func18, Try.ntmps18
    go_wp2_with fail
    refine (HC _ hs).mono ?_
    rintro e1 w9 ⟨rfl, rfl⟩
    have LL := L1
    clear HC hs L1
    generalize seenOk q = sk at *
    go_wp2_with fail
    generalize w.alloc (.cells (polC q a n c b m d) 25) = w1 at *
    have r1 := fun w' (hb : Below w1.heap.size w1 w') => q1.below hb
    have r2 := fun w' (hb : Below w1.heap.size w1 w') => q2.below hb
    have A1 := fun w' (hb : Below w1.heap.size w1 w') => atMost_any w' (r1 w' hb) (r2 w' hb)
    have A2 := fun w' (hb : Below w1.heap.size w1 w') a9 n9 c9 (x9 : Rd .u32 w' a9 n9 c9 [0, 0, 1]) => atMost_any w' x9 (r2 w' hb)
    have A3 := fun w' (hb : Below w1.heap.size w1 w') a9 n9 c9 (x9 : Rd .u32 w' a9 n9 c9 [0, 0, 0, 0, 1]) => atMost_any w' (r2 w' hb) x9
    have hB := (Below.refl w1.heap.size w1).drew
    have lt := LL.lt
    go_quiet (fail)
    go_wp2_with fail
    go_ret
    exact ⟨by rw [e.out]; rfl, below_drewN LL.below _⟩
  by_cases b2 : 999 < q.bet
  case pos =>
    have e := Lib.hid (show r = 8 by rw [hr]; exact chkP_no (fun h => by omega))
    have d1 : decide (q.bet < 1) = false := decide_eq_false b1
    have d2 : decide (999 < q.bet) = true := decide_eq_true b2
    clear hr b1
    go_enter Try.func18, Try.ntmps18
    go_wp2_with fail
    refine (HC _ hs).mono ?_
    rintro e1 w9 ⟨rfl, rfl⟩
    have LL := L1
    clear HC hs L1
    generalize seenOk q = sk at *
    go_wp2_with fail
    generalize w.alloc (.cells (polC q a n c b m d) 25) = w1 at *
    have r1 := fun w' (hb : Below w1.heap.size w1 w') => q1.below hb
    have r2 := fun w' (hb : Below w1.heap.size w1 w') => q2.below hb
    have A1 := fun w' (hb : Below w1.heap.size w1 w') => atMost_any w' (r1 w' hb) (r2 w' hb)
    have A2 := fun w' (hb : Below w1.heap.size w1 w') a9 n9 c9 (x9 : Rd .u32 w' a9 n9 c9 [0, 0, 1]) => atMost_any w' x9 (r2 w' hb)
    have A3 := fun w' (hb : Below w1.heap.size w1 w') a9 n9 c9 (x9 : Rd .u32 w' a9 n9 c9 [0, 0, 0, 0, 1]) => atMost_any w' (r2 w' hb) x9
    have hB := (Below.refl w1.heap.size w1).drew
    have lt := LL.lt
    go_quiet (fail)
    go_wp2_with fail
    go_ret
    exact ⟨by rw [e.out]; rfl, below_drewN LL.below _⟩
  cases s : seenOk q
  case false =>
    have e := Lib.hid (show r = 8 by rw [hr]; exact chkP_no (fun h => by rw [s] at h; simp at h))
    have SE := Lib.hid s
    have d1 : decide (q.bet < 1) = false := decide_eq_false b1
    have d2 : decide (999 < q.bet) = false := decide_eq_false b2
    clear hr b1 b2 s
    go_enter Try.func18, Try.ntmps18
    go_wp2_with fail
    have cc := HC _ hs
    rw [SE.out] at cc
    refine cc.mono ?_
    rintro e1 w9 ⟨rfl, rfl⟩
    clear cc
    have LL := L1
    clear HC hs L1
    go_wp2_with fail
    generalize w.alloc (.cells (polC q a n c b m d) 25) = w1 at *
    have r1 := fun w' (hb : Below w1.heap.size w1 w') => q1.below hb
    have r2 := fun w' (hb : Below w1.heap.size w1 w') => q2.below hb
    have A1 := fun w' (hb : Below w1.heap.size w1 w') => atMost_any w' (r1 w' hb) (r2 w' hb)
    have A2 := fun w' (hb : Below w1.heap.size w1 w') a9 n9 c9 (x9 : Rd .u32 w' a9 n9 c9 [0, 0, 1]) => atMost_any w' x9 (r2 w' hb)
    have A3 := fun w' (hb : Below w1.heap.size w1 w') a9 n9 c9 (x9 : Rd .u32 w' a9 n9 c9 [0, 0, 0, 0, 1]) => atMost_any w' (r2 w' hb) x9
    have hB := (Below.refl w1.heap.size w1).drew
    have lt := LL.lt
    go_quiet (fail)
    go_wp2_with fail
    go_ret
    exact ⟨by rw [e.out]; rfl, below_drewN LL.below _⟩
  cases c1 : leC q.lev q.best
  case false =>
    have e := Lib.hid (show r = 8 by rw [hr]; exact chkP_no (fun h => by rw [c1] at h; simp at h))
    have SE := Lib.hid s
    have E1 := Lib.hid c1
    have d1 : decide (q.bet < 1) = false := decide_eq_false b1
    have d2 : decide (999 < q.bet) = false := decide_eq_false b2
    clear hr b1 b2 s c1
    go_enter Try.func18, Try.ntmps18
    go_wp2_with fail
    have cc := HC _ hs
    rw [SE.out] at cc
    refine cc.mono ?_
    rintro e1 w9 ⟨rfl, rfl⟩
    clear cc
    have LL := L1
    clear HC hs L1
    go_wp2_with fail
    generalize w.alloc (.cells (polC q a n c b m d) 25) = w1 at *
    have r1 := fun w' (hb : Below w1.heap.size w1 w') => q1.below hb
    have r2 := fun w' (hb : Below w1.heap.size w1 w') => q2.below hb
    have A1 := fun w' (hb : Below w1.heap.size w1 w') => atMost_any w' (r1 w' hb) (r2 w' hb)
    simp only [E1.out] at A1
    have A2 := fun w' (hb : Below w1.heap.size w1 w') a9 n9 c9 (x9 : Rd .u32 w' a9 n9 c9 [0, 0, 1]) => atMost_any w' x9 (r2 w' hb)
    have A3 := fun w' (hb : Below w1.heap.size w1 w') a9 n9 c9 (x9 : Rd .u32 w' a9 n9 c9 [0, 0, 0, 0, 1]) => atMost_any w' (r2 w' hb) x9
    have hB := (Below.refl w1.heap.size w1).drew
    have lt := LL.lt
    have AQ := fun k => atMost_dr (w1.drewN k) (q1.drewN k) (q2.drewN k)
    simp only [E1.out] at AQ
    go_quiet ((go_at_call 40; exact Calls.quiet_of (AQ _)))
    go_wp2_with fail
    go_ret
    exact ⟨by rw [e.out]; rfl, below_drewN LL.below _⟩
  cases c2 : leC [0, 0, 1] q.best
  case false =>
    have e := Lib.hid (show r = 8 by rw [hr]; exact chkP_no (fun h => by rw [c2] at h; simp at h))
    have SE := Lib.hid s
    have E1 := Lib.hid c1
    have E2 := Lib.hid c2
    have d1 : decide (q.bet < 1) = false := decide_eq_false b1
    have d2 : decide (999 < q.bet) = false := decide_eq_false b2
    clear hr b1 b2 s c1 c2
    go_enter Try.func18, Try.ntmps18
    go_wp2_with fail
    have cc := HC _ hs
    rw [SE.out] at cc
    refine cc.mono ?_
    rintro e1 w9 ⟨rfl, rfl⟩
    clear cc
    have LL := L1
    clear HC hs L1
    go_wp2_with fail
    generalize w.alloc (.cells (polC q a n c b m d) 25) = w1 at *
    have r1 := fun w' (hb : Below w1.heap.size w1 w') => q1.below hb
    have r2 := fun w' (hb : Below w1.heap.size w1 w') => q2.below hb
    have A1 := fun w' (hb : Below w1.heap.size w1 w') => atMost_any w' (r1 w' hb) (r2 w' hb)
    simp only [E1.out] at A1
    have A2 := fun w' (hb : Below w1.heap.size w1 w') a9 n9 c9 (x9 : Rd .u32 w' a9 n9 c9 [0, 0, 1]) => atMost_any w' x9 (r2 w' hb)
    simp only [E2.out] at A2
    have A3 := fun w' (hb : Below w1.heap.size w1 w') a9 n9 c9 (x9 : Rd .u32 w' a9 n9 c9 [0, 0, 0, 0, 1]) => atMost_any w' (r2 w' hb) x9
    have hB := (Below.refl w1.heap.size w1).drew
    have lt := LL.lt
    refine wp_region_held_drew (S := (fun w' => Below w1.heap.size w1 w' ∧ w'.cell? ⟨w.heap.size, 0, none⟩ = some (.int .i64 q.bet) ∧ w'.cell? ⟨w.heap.size, 4, none⟩ = some (.slice a n c) ∧ w'.cell? ⟨w.heap.size, 5, none⟩ = some (.slice b m d))) (by kernel_rfl) ?_ (fun hHeld => ?_)
    · (first | (refine ⟨?_, ?_, ?_, ?_⟩ <;> first | assumption | exact (Below.refl _ _).drew | (simp only [World.cell?_drew]; assumption) | (simp [*]; done)) | exact keep_pol ‹_› ‹_› (by omega) | fail "keep")
    refine wpAnyH_take (i := 0) (oi := ?oir1_0) (v := ?vr1_0) ?hir1_0 (by kernel_rfl) (by kernel_rfl) (by kernel_rfl) ?hqr1_0 ?hyr1_0 (by assumption) ?restr1_0
    case hir1_0 => simp only [List.getElem?_toArray, List.getElem?_cons_succ, List.getElem?_cons_zero]; rfl
    case hqr1_0 => exact fun _ _ _ h => h
    case hyr1_0 => (refine Or.inl ⟨by rfl, ?_⟩; intro w hSw; (try dsimp only at hSw); go_simp; all_goals with_reducible rfl)
    try simp only [Act.put, List.setIfInBounds_toArray, List.set_cons_zero, List.set_cons_succ]
    refine wpAnyH_take (i := 1) (oi := ?oir1_1) (v := ?vr1_1) ?hir1_1 (by kernel_rfl) (by kernel_rfl) (by kernel_rfl) ?hqr1_1 ?hyr1_1 (by assumption) ?restr1_1
    case hir1_1 => simp only [List.getElem?_toArray, List.getElem?_cons_succ, List.getElem?_cons_zero]; rfl
    case hqr1_1 => exact fun _ _ _ h => h
    case hyr1_1 => (refine Or.inl ⟨by rfl, ?_⟩; intro w hSw; (try dsimp only at hSw); go_simp; all_goals with_reducible rfl)
    try simp only [Act.put, List.setIfInBounds_toArray, List.set_cons_zero, List.set_cons_succ]
    refine wpAnyH_take (i := 2) (oi := ?oir1_2) (v := ?vr1_2) ?hir1_2 (by kernel_rfl) (by kernel_rfl) (by kernel_rfl) ?hqr1_2 ?hyr1_2 (by assumption) ?restr1_2
    case hir1_2 => simp only [List.getElem?_toArray, List.getElem?_cons_succ, List.getElem?_cons_zero]; rfl
    case hqr1_2 => exact fun _ _ _ h => h
    case hyr1_2 => (refine Or.inl ⟨by rfl, ?_⟩; intro w hSw; (try dsimp only at hSw); go_simp; all_goals with_reducible rfl)
    try simp only [Act.put, List.setIfInBounds_toArray, List.set_cons_zero, List.set_cons_succ]
    refine wpAnyH_take (i := 3) (oi := ?oir1_3) (v := ?vr1_3) ?hir1_3 (by kernel_rfl) (by kernel_rfl) (by kernel_rfl) ?hqr1_3 ?hyr1_3 (by assumption) ?restr1_3
    case hir1_3 => simp only [List.getElem?_toArray, List.getElem?_cons_succ, List.getElem?_cons_zero]; rfl
    case hqr1_3 => exact fun _ _ _ h => h
    case hyr1_3 => (refine Or.inl ⟨by rfl, ?_⟩; intro w hSw; (try dsimp only at hSw); go_simp; all_goals with_reducible rfl)
    try simp only [Act.put, List.setIfInBounds_toArray, List.set_cons_zero, List.set_cons_succ]
    refine wpAnyH_take (i := 4) (oi := ?oir1_4) (v := ?vr1_4) ?hir1_4 (by kernel_rfl) (by kernel_rfl) (by kernel_rfl) ?hqr1_4 ?hyr1_4 (by assumption) ?restr1_4
    case hir1_4 => simp only [List.getElem?_toArray, List.getElem?_cons_succ, List.getElem?_cons_zero]; rfl
    case hqr1_4 => exact fun _ _ _ h => h
    case hyr1_4 => (refine Or.inl ⟨by rfl, ?_⟩; intro w hSw; (try dsimp only at hSw); go_simp; all_goals with_reducible rfl)
    try simp only [Act.put, List.setIfInBounds_toArray, List.set_cons_zero, List.set_cons_succ]
    refine wpAnyH_take (i := 5) (oi := ?oir1_5) (v := ?vr1_5) ?hir1_5 (by kernel_rfl) (by kernel_rfl) (by kernel_rfl) ?hqr1_5 ?hyr1_5 (by assumption) ?restr1_5
    case hir1_5 => simp only [List.getElem?_toArray, List.getElem?_cons_succ, List.getElem?_cons_zero]; rfl
    case hqr1_5 => exact fun _ _ _ h => h
    case hyr1_5 => (refine Or.inl ⟨by rfl, ?_⟩; intro w hSw; (try dsimp only at hSw); go_simp; all_goals with_reducible rfl)
    try simp only [Act.put, List.setIfInBounds_toArray, List.set_cons_zero, List.set_cons_succ]
    refine wpAnyH_take (i := 6) (oi := ?oir1_6) (v := ?vr1_6) ?hir1_6 (by kernel_rfl) (by kernel_rfl) (by kernel_rfl) ?hqr1_6 ?hyr1_6 (by assumption) ?restr1_6
    case hir1_6 => simp only [List.getElem?_toArray, List.getElem?_cons_succ, List.getElem?_cons_zero]; rfl
    case hqr1_6 => exact fun _ _ _ h => h
    case hyr1_6 => (refine Or.inl ⟨by rfl, ?_⟩; intro w hSw; (try dsimp only at hSw); go_simp; all_goals with_reducible rfl)
    try simp only [Act.put, List.setIfInBounds_toArray, List.set_cons_zero, List.set_cons_succ]
    refine wpAnyH_take (i := 7) (oi := ?oir1_7) (v := ?vr1_7) ?hir1_7 (by kernel_rfl) (by kernel_rfl) (by kernel_rfl) ?hqr1_7 ?hyr1_7 (by assumption) ?restr1_7
    case hir1_7 => simp only [List.getElem?_toArray, List.getElem?_cons_succ, List.getElem?_cons_zero]; rfl
    case hqr1_7 => exact fun _ _ _ h => h
    case hyr1_7 => (refine Or.inl ⟨by rfl, ?_⟩; intro w hSw; (try dsimp only at hSw); go_simp; all_goals with_reducible rfl)
    try simp only [Act.put, List.setIfInBounds_toArray, List.set_cons_zero, List.set_cons_succ]
    refine wpAnyH_take (i := 8) (oi := ?oir1_8) (v := ?vr1_8) ?hir1_8 (by kernel_rfl) (by kernel_rfl) (by kernel_rfl) ?hqr1_8 ?hyr1_8 (by assumption) ?restr1_8
    case hir1_8 => simp only [List.getElem?_toArray, List.getElem?_cons_succ, List.getElem?_cons_zero]; rfl
    case hqr1_8 => exact fun _ _ _ h => h
    case hyr1_8 => (refine Or.inl ⟨by rfl, ?_⟩; intro w hSw; (try dsimp only at hSw); go_simp; all_goals with_reducible rfl)
    try simp only [Act.put, List.setIfInBounds_toArray, List.set_cons_zero, List.set_cons_succ]
    refine wpAnyH_take (i := 9) (oi := ?oir1_9) (v := ?vr1_9) ?hir1_9 (by kernel_rfl) (by kernel_rfl) (by kernel_rfl) ?hqr1_9 ?hyr1_9 (by assumption) ?restr1_9
    case hir1_9 => simp only [List.getElem?_toArray, List.getElem?_cons_succ, List.getElem?_cons_zero]; rfl
    case hqr1_9 => exact fun _ _ _ h => h
    case hyr1_9 => (refine Or.inl ⟨by rfl, ?_⟩; intro w hSw; (try dsimp only at hSw); go_simp; all_goals with_reducible rfl)
    try simp only [Act.put, List.setIfInBounds_toArray, List.set_cons_zero, List.set_cons_succ]
    refine wpAnyH_take (i := 10) (oi := ?oir1_10) (v := ?vr1_10) ?hir1_10 (by kernel_rfl) (by kernel_rfl) (by kernel_rfl) ?hqr1_10 ?hyr1_10 (by assumption) ?restr1_10
    case hir1_10 => simp only [List.getElem?_toArray, List.getElem?_cons_succ, List.getElem?_cons_zero]; rfl
    case hqr1_10 => exact fun _ _ _ h => h
    case hyr1_10 => (refine Or.inl ⟨by rfl, ?_⟩; intro w hSw; (try dsimp only at hSw); go_simp; all_goals with_reducible rfl)
    try simp only [Act.put, List.setIfInBounds_toArray, List.set_cons_zero, List.set_cons_succ]
    refine wpAnyH_take (i := 11) (oi := ?oir1_11) (v := ?vr1_11) ?hir1_11 (by kernel_rfl) (by kernel_rfl) (by kernel_rfl) ?hqr1_11 ?hyr1_11 (by assumption) ?restr1_11
    case hir1_11 => simp only [List.getElem?_toArray, List.getElem?_cons_succ, List.getElem?_cons_zero]; rfl
    case hqr1_11 => exact fun _ _ _ h => h
    case hyr1_11 => (refine Or.inl ⟨by rfl, ?_⟩; intro w hSw; (try dsimp only at hSw); go_simp; all_goals with_reducible rfl)
    try simp only [Act.put, List.setIfInBounds_toArray, List.set_cons_zero, List.set_cons_succ]
    refine wpAnyH_take (i := 12) (oi := ?oir1_12) (v := ?vr1_12) ?hir1_12 (by kernel_rfl) (by kernel_rfl) (by kernel_rfl) ?hqr1_12 ?hyr1_12 (by assumption) ?restr1_12
    case hir1_12 => simp only [List.getElem?_toArray, List.getElem?_cons_succ, List.getElem?_cons_zero]; rfl
    case hqr1_12 => exact fun _ _ _ h => h
    case hyr1_12 => (refine Or.inl ⟨by rfl, ?_⟩; intro w hSw; (try dsimp only at hSw); go_simp; all_goals with_reducible rfl)
    try simp only [Act.put, List.setIfInBounds_toArray, List.set_cons_zero, List.set_cons_succ]
    refine wpAnyH_take (i := 13) (oi := ?oir1_13) (v := ?vr1_13) ?hir1_13 (by kernel_rfl) (by kernel_rfl) (by kernel_rfl) ?hqr1_13 ?hyr1_13 (by assumption) ?restr1_13
    case hir1_13 => simp only [List.getElem?_toArray, List.getElem?_cons_succ, List.getElem?_cons_zero]; rfl
    case hqr1_13 => exact fun _ _ _ h => h
    case hyr1_13 => (refine Or.inl ⟨by rfl, ?_⟩; intro w hSw; (try dsimp only at hSw); go_simp; all_goals with_reducible rfl)
    try simp only [Act.put, List.setIfInBounds_toArray, List.set_cons_zero, List.set_cons_succ]
    refine wpAnyH_take (i := 14) (oi := ?oir1_14) (v := ?vr1_14) ?hir1_14 (by kernel_rfl) (by kernel_rfl) (by kernel_rfl) ?hqr1_14 ?hyr1_14 (by assumption) ?restr1_14
    case hir1_14 => simp only [List.getElem?_toArray, List.getElem?_cons_succ, List.getElem?_cons_zero]; rfl
    case hqr1_14 => exact fun _ _ _ h => h
    case hyr1_14 => (refine Or.inl ⟨by rfl, ?_⟩; intro w hSw; (try dsimp only at hSw); go_simp; all_goals with_reducible rfl)
    try simp only [Act.put, List.setIfInBounds_toArray, List.set_cons_zero, List.set_cons_succ]
    refine wpAnyH_take (i := 15) (oi := ?oir1_15) (v := ?vr1_15) ?hir1_15 (by kernel_rfl) (by kernel_rfl) (by kernel_rfl) ?hqr1_15 ?hyr1_15 (by assumption) ?restr1_15
    case hir1_15 => simp only [List.getElem?_toArray, List.getElem?_cons_succ, List.getElem?_cons_zero]; rfl
    case hqr1_15 => exact fun _ _ _ h => h
    case hyr1_15 => (refine Or.inl ⟨by rfl, ?_⟩; intro w hSw; (try dsimp only at hSw); go_simp; all_goals with_reducible rfl)
    try simp only [Act.put, List.setIfInBounds_toArray, List.set_cons_zero, List.set_cons_succ]
    refine wpAnyH_take (i := 16) (oi := ?oir1_16) (v := ?vr1_16) ?hir1_16 (by kernel_rfl) (by kernel_rfl) (by kernel_rfl) ?hqr1_16 ?hyr1_16 (by assumption) ?restr1_16
    case hir1_16 => simp only [List.getElem?_toArray, List.getElem?_cons_succ, List.getElem?_cons_zero]; rfl
    case hqr1_16 => exact fun _ _ _ h => h
    case hyr1_16 => (refine Or.inl ⟨by rfl, ?_⟩; intro w hSw; (try dsimp only at hSw); go_simp; all_goals with_reducible rfl)
    try simp only [Act.put, List.setIfInBounds_toArray, List.set_cons_zero, List.set_cons_succ]
    refine wpAnyH_ready (rs := [17]) (by kernel_rfl) (by simp) ?_
    refine AllReadyH.cons (o := ?or1_17) ?hor1_17 (fun K hK => ?kr1_17) AllReadyH.nil
    case hor1_17 => simp only [List.getElem?_toArray, List.getElem?_cons_succ, List.getElem?_cons_zero]; rfl
    go_simp
    (with_reducible refine (A1 _ hB).mono ?_); rintro e2 w2 ⟨rfl, hb2⟩; have hB := Below.trans hB (hb2.mono hB.size)
    go_wp2_with fail
    refine hK.out _ _ ?_ (fun hHeld => ?_)
    · (first | (refine ⟨?_, ?_, ?_, ?_⟩ <;> first | assumption | exact (Below.refl _ _).drew | (simp only [World.cell?_drew]; assumption) | (simp [*]; done)) | exact keep_pol ‹_› ‹_› (by omega) | fail "keep")
    clear hK K
    try simp only [Act.put, List.setIfInBounds_toArray, List.set_cons_zero, List.set_cons_succ]
    refine wpAnyH_take (i := 18) (oi := ?oir1_18) (v := ?vr1_18) ?hir1_18 (by kernel_rfl) (by kernel_rfl) (by kernel_rfl) ?hqr1_18 ?hyr1_18 (by assumption) ?restr1_18
    case hir1_18 => simp only [List.getElem?_toArray, List.getElem?_cons_succ, List.getElem?_cons_zero]; rfl
    case hqr1_18 => exact fun _ _ _ h => h
    case hyr1_18 => (refine Or.inl ⟨by rfl, ?_⟩; intro w hSw; (try dsimp only at hSw); go_simp; all_goals with_reducible rfl)
    try simp only [Act.put, List.setIfInBounds_toArray, List.set_cons_zero, List.set_cons_succ]
    refine wpAnyH_take (i := 19) (oi := ?oir1_19) (v := ?vr1_19) ?hir1_19 (by kernel_rfl) (by kernel_rfl) (by kernel_rfl) ?hqr1_19 ?hyr1_19 (by assumption) ?restr1_19
    case hir1_19 => simp only [List.getElem?_toArray, List.getElem?_cons_succ, List.getElem?_cons_zero]; rfl
    case hqr1_19 => exact fun _ _ _ h => h
    case hyr1_19 => (refine Or.inl ⟨by rfl, ?_⟩; intro w hSw; (try dsimp only at hSw); go_simp; all_goals with_reducible rfl)
    try simp only [Act.put, List.setIfInBounds_toArray, List.set_cons_zero, List.set_cons_succ]
    refine wpAnyH_take (i := 20) (oi := ?oir1_20) (v := ?vr1_20) ?hir1_20 (by kernel_rfl) (by kernel_rfl) (by kernel_rfl) ?hqr1_20 ?hyr1_20 (by assumption) ?restr1_20
    case hir1_20 => simp only [List.getElem?_toArray, List.getElem?_cons_succ, List.getElem?_cons_zero]; rfl
    case hqr1_20 => exact fun _ _ _ h => h
    case hyr1_20 => (refine Or.inl ⟨by rfl, ?_⟩; intro w hSw; (try dsimp only at hSw); go_simp; all_goals with_reducible rfl)
    try simp only [Act.put, List.setIfInBounds_toArray, List.set_cons_zero, List.set_cons_succ]
    refine wpAnyH_take (i := 22) (oi := ?oir1_22) (v := ?vr1_22) ?hir1_22 (by kernel_rfl) (by kernel_rfl) (by kernel_rfl) ?hqr1_22 ?hyr1_22 (by assumption) ?restr1_22
    case hir1_22 => simp only [List.getElem?_toArray, List.getElem?_cons_succ, List.getElem?_cons_zero]; rfl
    case hqr1_22 => exact fun _ _ _ h => h
    case hyr1_22 => (refine Or.inl ⟨by rfl, ?_⟩; intro w hSw; (try dsimp only at hSw); go_simp; all_goals with_reducible rfl)
    try simp only [Act.put, List.setIfInBounds_toArray, List.set_cons_zero, List.set_cons_succ]
    refine wpAnyH_take (i := 23) (oi := ?oir1_23) (v := ?vr1_23) ?hir1_23 (by kernel_rfl) (by kernel_rfl) (by kernel_rfl) ?hqr1_23 ?hyr1_23 (by assumption) ?restr1_23
    case hir1_23 => simp only [List.getElem?_toArray, List.getElem?_cons_succ, List.getElem?_cons_zero]; rfl
    case hqr1_23 => exact fun _ _ _ h => h
    case hyr1_23 => (refine Or.inl ⟨by rfl, ?_⟩; intro w hSw; (try dsimp only at hSw); go_simp; all_goals with_reducible rfl)
    try simp only [Act.put, List.setIfInBounds_toArray, List.set_cons_zero, List.set_cons_succ]
    refine wpAnyH_ready (rs := [21]) (by kernel_rfl) (by simp) ?_
    refine AllReadyH.cons (o := ?or1_21) ?hor1_21 (fun K hK => ?kr1_21) AllReadyH.nil
    case hor1_21 => simp only [List.getElem?_toArray, List.getElem?_cons_succ, List.getElem?_cons_zero]; rfl
    go_simp
    (with_reducible refine (one_any _).mono ?_); rintro e2 w2 ⟨a9, n9, c9, rfl, x9, hb2⟩; have hB := Below.trans hB (hb2.mono hB.size)
    go_wp2_with fail
    refine hK.out _ _ ?_ (fun hHeld => ?_)
    · (first | (refine ⟨?_, ?_, ?_, ?_⟩ <;> first | assumption | exact (Below.refl _ _).drew | (simp only [World.cell?_drew]; assumption) | (simp [*]; done)) | exact keep_pol ‹_› ‹_› (by omega) | fail "keep")
    clear hK K
    try simp only [Act.put, List.setIfInBounds_toArray, List.set_cons_zero, List.set_cons_succ]
    refine wpAnyH_ready (rs := [24]) (by kernel_rfl) (by simp) ?_
    refine AllReadyH.cons (o := ?or1_24) ?hor1_24 (fun K hK => ?kr1_24) AllReadyH.nil
    case hor1_24 => simp only [List.getElem?_toArray, List.getElem?_cons_succ, List.getElem?_cons_zero]; rfl
    go_simp
    (with_reducible refine (A2 _ hB _ _ _ x9).mono ?_); rintro e2 w2 ⟨rfl, hb2⟩; have hB := Below.trans hB (hb2.mono hB.size)
    go_wp2_with fail
    refine hK.out _ _ ?_ (fun hHeld => ?_)
    · (first | (refine ⟨?_, ?_, ?_, ?_⟩ <;> first | assumption | exact (Below.refl _ _).drew | (simp only [World.cell?_drew]; assumption) | (simp [*]; done)) | exact keep_pol ‹_› ‹_› (by omega) | fail "keep")
    clear hK K
    try simp only [Act.put, List.setIfInBounds_toArray, List.set_cons_zero, List.set_cons_succ]
    refine wpAnyH_take (i := 25) (oi := ?oir1_25) (v := ?vr1_25) ?hir1_25 (by kernel_rfl) (by kernel_rfl) (by kernel_rfl) ?hqr1_25 ?hyr1_25 (by assumption) ?restr1_25
    case hir1_25 => simp only [List.getElem?_toArray, List.getElem?_cons_succ, List.getElem?_cons_zero]; rfl
    case hqr1_25 => exact fun _ _ _ h => h
    case hyr1_25 => (refine Or.inl ⟨by rfl, ?_⟩; intro w hSw; (try dsimp only at hSw); go_simp; all_goals with_reducible rfl)
    try simp only [Act.put, List.setIfInBounds_toArray, List.set_cons_zero, List.set_cons_succ]
    refine wpAnyH_take (i := 26) (oi := ?oir1_26) (v := ?vr1_26) ?hir1_26 (by kernel_rfl) (by kernel_rfl) (by kernel_rfl) ?hqr1_26 ?hyr1_26 (by assumption) ?restr1_26
    case hir1_26 => simp only [List.getElem?_toArray, List.getElem?_cons_succ, List.getElem?_cons_zero]; rfl
    case hqr1_26 => exact fun _ _ _ h => h
    case hyr1_26 => (refine Or.inl ⟨by rfl, ?_⟩; intro w hSw; (try dsimp only at hSw); go_simp; all_goals with_reducible rfl)
    try simp only [Act.put, List.setIfInBounds_toArray, List.set_cons_zero, List.set_cons_succ]
    refine wpAnyH_take (i := 27) (oi := ?oir1_27) (v := ?vr1_27) ?hir1_27 (by kernel_rfl) (by kernel_rfl) (by kernel_rfl) ?hqr1_27 ?hyr1_27 (by assumption) ?restr1_27
    case hir1_27 => simp only [List.getElem?_toArray, List.getElem?_cons_succ, List.getElem?_cons_zero]; rfl
    case hqr1_27 => exact fun _ _ _ h => h
    case hyr1_27 => (refine Or.inl ⟨by rfl, ?_⟩; intro w hSw; (try dsimp only at hSw); go_simp; all_goals with_reducible rfl)
    try simp only [Act.put, List.setIfInBounds_toArray, List.set_cons_zero, List.set_cons_succ]
    refine wpAnyH_take (i := 28) (oi := ?oir1_28) (v := undef) ?hir1_28 (by kernel_rfl) (by kernel_rfl) (by kernel_rfl) ?hqr1_28 ?hyr1_28 (by assumption) ?restr1_28
    case hir1_28 => simp only [List.getElem?_toArray, List.getElem?_cons_succ, List.getElem?_cons_zero]; rfl
    case hqr1_28 => exact fun _ _ _ h => h
    case hyr1_28 => exact Or.inr ⟨by rfl, rfl⟩
    try simp only [Act.put, List.setIfInBounds_toArray, List.set_cons_zero, List.set_cons_succ]
    refine wpAnyH_take (i := 29) (oi := ?oir1_29) (v := undef) ?hir1_29 (by kernel_rfl) (by kernel_rfl) (by kernel_rfl) ?hqr1_29 ?hyr1_29 (by assumption) ?restr1_29
    case hir1_29 => simp only [List.getElem?_toArray, List.getElem?_cons_succ, List.getElem?_cons_zero]; rfl
    case hqr1_29 => exact fun _ _ _ h => h
    case hyr1_29 => exact Or.inr ⟨by rfl, rfl⟩
    try simp only [Act.put, List.setIfInBounds_toArray, List.set_cons_zero, List.set_cons_succ]
    refine wpAnyH_take (i := 30) (oi := ?oir1_30) (v := undef) ?hir1_30 (by kernel_rfl) (by kernel_rfl) (by kernel_rfl) ?hqr1_30 ?hyr1_30 (by assumption) ?restr1_30
    case hir1_30 => simp only [List.getElem?_toArray, List.getElem?_cons_succ, List.getElem?_cons_zero]; rfl
    case hqr1_30 => exact fun _ _ _ h => h
    case hyr1_30 => exact Or.inr ⟨by rfl, rfl⟩
    try simp only [Act.put, List.setIfInBounds_toArray, List.set_cons_zero, List.set_cons_succ]
    refine wpAnyH_take (i := 31) (oi := ?oir1_31) (v := undef) ?hir1_31 (by kernel_rfl) (by kernel_rfl) (by kernel_rfl) ?hqr1_31 ?hyr1_31 (by assumption) ?restr1_31
    case hir1_31 => simp only [List.getElem?_toArray, List.getElem?_cons_succ, List.getElem?_cons_zero]; rfl
    case hqr1_31 => exact fun _ _ _ h => h
    case hyr1_31 => exact Or.inr ⟨by rfl, rfl⟩
    try simp only [Act.put, List.setIfInBounds_toArray, List.set_cons_zero, List.set_cons_succ]
    refine wpAnyH_take (i := 32) (oi := ?oir1_32) (v := undef) ?hir1_32 (by kernel_rfl) (by kernel_rfl) (by kernel_rfl) ?hqr1_32 ?hyr1_32 (by assumption) ?restr1_32
    case hir1_32 => simp only [List.getElem?_toArray, List.getElem?_cons_succ, List.getElem?_cons_zero]; rfl
    case hqr1_32 => exact fun _ _ _ h => h
    case hyr1_32 => exact Or.inr ⟨by rfl, rfl⟩
    try simp only [Act.put, List.setIfInBounds_toArray, List.set_cons_zero, List.set_cons_succ]
    refine wpAnyH_take (i := 33) (oi := ?oir1_33) (v := ?vr1_33) ?hir1_33 (by kernel_rfl) (by kernel_rfl) (by kernel_rfl) ?hqr1_33 ?hyr1_33 (by assumption) ?restr1_33
    case hir1_33 => simp only [List.getElem?_toArray, List.getElem?_cons_succ, List.getElem?_cons_zero]; rfl
    case hqr1_33 => exact fun _ _ _ h => h
    case hyr1_33 => (refine Or.inl ⟨by rfl, ?_⟩; intro w hSw; (try dsimp only at hSw); go_simp; all_goals with_reducible rfl)
    try simp only [Act.put, List.setIfInBounds_toArray, List.set_cons_zero, List.set_cons_succ]
    refine wpAnyH_done (by kernel_rfl) ?_ _
    go_wp2_with fail
    go_ret
    exact ⟨by rw [e.out]; rfl, LL.below.trans (hB.mono LL.below.size)⟩
  cases c3 : leC q.best [0, 0, 0, 0, 1]
  case false =>
    have e := Lib.hid (show r = 8 by rw [hr]; exact chkP_no (fun h => by rw [c3] at h; simp at h))
    have SE := Lib.hid s
    have E1 := Lib.hid c1
    have E2 := Lib.hid c2
    have E3 := Lib.hid c3
    have d1 : decide (q.bet < 1) = false := decide_eq_false b1
    have d2 : decide (999 < q.bet) = false := decide_eq_false b2
    clear hr b1 b2 s c1 c2 c3
    go_enter Try.func18, Try.ntmps18
    go_wp2_with fail
    have cc := HC _ hs
    rw [SE.out] at cc
    refine cc.mono ?_
    rintro e1 w9 ⟨rfl, rfl⟩
    clear cc
    have LL := L1
    clear HC hs L1
    go_wp2_with fail
    generalize w.alloc (.cells (polC q a n c b m d) 25) = w1 at *
    have r1 := fun w' (hb : Below w1.heap.size w1 w') => q1.below hb
    have r2 := fun w' (hb : Below w1.heap.size w1 w') => q2.below hb
    have A1 := fun w' (hb : Below w1.heap.size w1 w') => atMost_any w' (r1 w' hb) (r2 w' hb)
    simp only [E1.out] at A1
    have A2 := fun w' (hb : Below w1.heap.size w1 w') a9 n9 c9 (x9 : Rd .u32 w' a9 n9 c9 [0, 0, 1]) => atMost_any w' x9 (r2 w' hb)
    simp only [E2.out] at A2
    have A3 := fun w' (hb : Below w1.heap.size w1 w') a9 n9 c9 (x9 : Rd .u32 w' a9 n9 c9 [0, 0, 0, 0, 1]) => atMost_any w' (r2 w' hb) x9
    simp only [E3.out] at A3
    have hB := (Below.refl w1.heap.size w1).drew
    have lt := LL.lt
    refine wp_region_held_drew (S := (fun w' => Below w1.heap.size w1 w' ∧ w'.cell? ⟨w.heap.size, 0, none⟩ = some (.int .i64 q.bet) ∧ w'.cell? ⟨w.heap.size, 4, none⟩ = some (.slice a n c) ∧ w'.cell? ⟨w.heap.size, 5, none⟩ = some (.slice b m d))) (by kernel_rfl) ?_ (fun hHeld => ?_)
    · (first | (refine ⟨?_, ?_, ?_, ?_⟩ <;> first | assumption | exact (Below.refl _ _).drew | (simp only [World.cell?_drew]; assumption) | (simp [*]; done)) | exact keep_pol ‹_› ‹_› (by omega) | fail "keep")
    refine wpAnyH_take (i := 0) (oi := ?oir2_0) (v := ?vr2_0) ?hir2_0 (by kernel_rfl) (by kernel_rfl) (by kernel_rfl) ?hqr2_0 ?hyr2_0 (by assumption) ?restr2_0
    case hir2_0 => simp only [List.getElem?_toArray, List.getElem?_cons_succ, List.getElem?_cons_zero]; rfl
    case hqr2_0 => exact fun _ _ _ h => h
    case hyr2_0 => (refine Or.inl ⟨by rfl, ?_⟩; intro w hSw; (try dsimp only at hSw); go_simp; all_goals with_reducible rfl)
    try simp only [Act.put, List.setIfInBounds_toArray, List.set_cons_zero, List.set_cons_succ]
    refine wpAnyH_take (i := 1) (oi := ?oir2_1) (v := ?vr2_1) ?hir2_1 (by kernel_rfl) (by kernel_rfl) (by kernel_rfl) ?hqr2_1 ?hyr2_1 (by assumption) ?restr2_1
    case hir2_1 => simp only [List.getElem?_toArray, List.getElem?_cons_succ, List.getElem?_cons_zero]; rfl
    case hqr2_1 => exact fun _ _ _ h => h
    case hyr2_1 => (refine Or.inl ⟨by rfl, ?_⟩; intro w hSw; (try dsimp only at hSw); go_simp; all_goals with_reducible rfl)
    try simp only [Act.put, List.setIfInBounds_toArray, List.set_cons_zero, List.set_cons_succ]
    refine wpAnyH_take (i := 2) (oi := ?oir2_2) (v := ?vr2_2) ?hir2_2 (by kernel_rfl) (by kernel_rfl) (by kernel_rfl) ?hqr2_2 ?hyr2_2 (by assumption) ?restr2_2
    case hir2_2 => simp only [List.getElem?_toArray, List.getElem?_cons_succ, List.getElem?_cons_zero]; rfl
    case hqr2_2 => exact fun _ _ _ h => h
    case hyr2_2 => (refine Or.inl ⟨by rfl, ?_⟩; intro w hSw; (try dsimp only at hSw); go_simp; all_goals with_reducible rfl)
    try simp only [Act.put, List.setIfInBounds_toArray, List.set_cons_zero, List.set_cons_succ]
    refine wpAnyH_take (i := 3) (oi := ?oir2_3) (v := ?vr2_3) ?hir2_3 (by kernel_rfl) (by kernel_rfl) (by kernel_rfl) ?hqr2_3 ?hyr2_3 (by assumption) ?restr2_3
    case hir2_3 => simp only [List.getElem?_toArray, List.getElem?_cons_succ, List.getElem?_cons_zero]; rfl
    case hqr2_3 => exact fun _ _ _ h => h
    case hyr2_3 => (refine Or.inl ⟨by rfl, ?_⟩; intro w hSw; (try dsimp only at hSw); go_simp; all_goals with_reducible rfl)
    try simp only [Act.put, List.setIfInBounds_toArray, List.set_cons_zero, List.set_cons_succ]
    refine wpAnyH_take (i := 4) (oi := ?oir2_4) (v := ?vr2_4) ?hir2_4 (by kernel_rfl) (by kernel_rfl) (by kernel_rfl) ?hqr2_4 ?hyr2_4 (by assumption) ?restr2_4
    case hir2_4 => simp only [List.getElem?_toArray, List.getElem?_cons_succ, List.getElem?_cons_zero]; rfl
    case hqr2_4 => exact fun _ _ _ h => h
    case hyr2_4 => (refine Or.inl ⟨by rfl, ?_⟩; intro w hSw; (try dsimp only at hSw); go_simp; all_goals with_reducible rfl)
    try simp only [Act.put, List.setIfInBounds_toArray, List.set_cons_zero, List.set_cons_succ]
    refine wpAnyH_take (i := 5) (oi := ?oir2_5) (v := ?vr2_5) ?hir2_5 (by kernel_rfl) (by kernel_rfl) (by kernel_rfl) ?hqr2_5 ?hyr2_5 (by assumption) ?restr2_5
    case hir2_5 => simp only [List.getElem?_toArray, List.getElem?_cons_succ, List.getElem?_cons_zero]; rfl
    case hqr2_5 => exact fun _ _ _ h => h
    case hyr2_5 => (refine Or.inl ⟨by rfl, ?_⟩; intro w hSw; (try dsimp only at hSw); go_simp; all_goals with_reducible rfl)
    try simp only [Act.put, List.setIfInBounds_toArray, List.set_cons_zero, List.set_cons_succ]
    refine wpAnyH_take (i := 6) (oi := ?oir2_6) (v := ?vr2_6) ?hir2_6 (by kernel_rfl) (by kernel_rfl) (by kernel_rfl) ?hqr2_6 ?hyr2_6 (by assumption) ?restr2_6
    case hir2_6 => simp only [List.getElem?_toArray, List.getElem?_cons_succ, List.getElem?_cons_zero]; rfl
    case hqr2_6 => exact fun _ _ _ h => h
    case hyr2_6 => (refine Or.inl ⟨by rfl, ?_⟩; intro w hSw; (try dsimp only at hSw); go_simp; all_goals with_reducible rfl)
    try simp only [Act.put, List.setIfInBounds_toArray, List.set_cons_zero, List.set_cons_succ]
    refine wpAnyH_take (i := 7) (oi := ?oir2_7) (v := ?vr2_7) ?hir2_7 (by kernel_rfl) (by kernel_rfl) (by kernel_rfl) ?hqr2_7 ?hyr2_7 (by assumption) ?restr2_7
    case hir2_7 => simp only [List.getElem?_toArray, List.getElem?_cons_succ, List.getElem?_cons_zero]; rfl
    case hqr2_7 => exact fun _ _ _ h => h
    case hyr2_7 => (refine Or.inl ⟨by rfl, ?_⟩; intro w hSw; (try dsimp only at hSw); go_simp; all_goals with_reducible rfl)
    try simp only [Act.put, List.setIfInBounds_toArray, List.set_cons_zero, List.set_cons_succ]
    refine wpAnyH_take (i := 8) (oi := ?oir2_8) (v := ?vr2_8) ?hir2_8 (by kernel_rfl) (by kernel_rfl) (by kernel_rfl) ?hqr2_8 ?hyr2_8 (by assumption) ?restr2_8
    case hir2_8 => simp only [List.getElem?_toArray, List.getElem?_cons_succ, List.getElem?_cons_zero]; rfl
    case hqr2_8 => exact fun _ _ _ h => h
    case hyr2_8 => (refine Or.inl ⟨by rfl, ?_⟩; intro w hSw; (try dsimp only at hSw); go_simp; all_goals with_reducible rfl)
    try simp only [Act.put, List.setIfInBounds_toArray, List.set_cons_zero, List.set_cons_succ]
    refine wpAnyH_take (i := 9) (oi := ?oir2_9) (v := ?vr2_9) ?hir2_9 (by kernel_rfl) (by kernel_rfl) (by kernel_rfl) ?hqr2_9 ?hyr2_9 (by assumption) ?restr2_9
    case hir2_9 => simp only [List.getElem?_toArray, List.getElem?_cons_succ, List.getElem?_cons_zero]; rfl
    case hqr2_9 => exact fun _ _ _ h => h
    case hyr2_9 => (refine Or.inl ⟨by rfl, ?_⟩; intro w hSw; (try dsimp only at hSw); go_simp; all_goals with_reducible rfl)
    try simp only [Act.put, List.setIfInBounds_toArray, List.set_cons_zero, List.set_cons_succ]
    refine wpAnyH_take (i := 10) (oi := ?oir2_10) (v := ?vr2_10) ?hir2_10 (by kernel_rfl) (by kernel_rfl) (by kernel_rfl) ?hqr2_10 ?hyr2_10 (by assumption) ?restr2_10
    case hir2_10 => simp only [List.getElem?_toArray, List.getElem?_cons_succ, List.getElem?_cons_zero]; rfl
    case hqr2_10 => exact fun _ _ _ h => h
    case hyr2_10 => (refine Or.inl ⟨by rfl, ?_⟩; intro w hSw; (try dsimp only at hSw); go_simp; all_goals with_reducible rfl)
    try simp only [Act.put, List.setIfInBounds_toArray, List.set_cons_zero, List.set_cons_succ]
    refine wpAnyH_take (i := 11) (oi := ?oir2_11) (v := ?vr2_11) ?hir2_11 (by kernel_rfl) (by kernel_rfl) (by kernel_rfl) ?hqr2_11 ?hyr2_11 (by assumption) ?restr2_11
    case hir2_11 => simp only [List.getElem?_toArray, List.getElem?_cons_succ, List.getElem?_cons_zero]; rfl
    case hqr2_11 => exact fun _ _ _ h => h
    case hyr2_11 => (refine Or.inl ⟨by rfl, ?_⟩; intro w hSw; (try dsimp only at hSw); go_simp; all_goals with_reducible rfl)
    try simp only [Act.put, List.setIfInBounds_toArray, List.set_cons_zero, List.set_cons_succ]
    refine wpAnyH_take (i := 12) (oi := ?oir2_12) (v := ?vr2_12) ?hir2_12 (by kernel_rfl) (by kernel_rfl) (by kernel_rfl) ?hqr2_12 ?hyr2_12 (by assumption) ?restr2_12
    case hir2_12 => simp only [List.getElem?_toArray, List.getElem?_cons_succ, List.getElem?_cons_zero]; rfl
    case hqr2_12 => exact fun _ _ _ h => h
    case hyr2_12 => (refine Or.inl ⟨by rfl, ?_⟩; intro w hSw; (try dsimp only at hSw); go_simp; all_goals with_reducible rfl)
    try simp only [Act.put, List.setIfInBounds_toArray, List.set_cons_zero, List.set_cons_succ]
    refine wpAnyH_take (i := 13) (oi := ?oir2_13) (v := ?vr2_13) ?hir2_13 (by kernel_rfl) (by kernel_rfl) (by kernel_rfl) ?hqr2_13 ?hyr2_13 (by assumption) ?restr2_13
    case hir2_13 => simp only [List.getElem?_toArray, List.getElem?_cons_succ, List.getElem?_cons_zero]; rfl
    case hqr2_13 => exact fun _ _ _ h => h
    case hyr2_13 => (refine Or.inl ⟨by rfl, ?_⟩; intro w hSw; (try dsimp only at hSw); go_simp; all_goals with_reducible rfl)
    try simp only [Act.put, List.setIfInBounds_toArray, List.set_cons_zero, List.set_cons_succ]
    refine wpAnyH_take (i := 14) (oi := ?oir2_14) (v := ?vr2_14) ?hir2_14 (by kernel_rfl) (by kernel_rfl) (by kernel_rfl) ?hqr2_14 ?hyr2_14 (by assumption) ?restr2_14
    case hir2_14 => simp only [List.getElem?_toArray, List.getElem?_cons_succ, List.getElem?_cons_zero]; rfl
    case hqr2_14 => exact fun _ _ _ h => h
    case hyr2_14 => (refine Or.inl ⟨by rfl, ?_⟩; intro w hSw; (try dsimp only at hSw); go_simp; all_goals with_reducible rfl)
    try simp only [Act.put, List.setIfInBounds_toArray, List.set_cons_zero, List.set_cons_succ]
    refine wpAnyH_take (i := 15) (oi := ?oir2_15) (v := ?vr2_15) ?hir2_15 (by kernel_rfl) (by kernel_rfl) (by kernel_rfl) ?hqr2_15 ?hyr2_15 (by assumption) ?restr2_15
    case hir2_15 => simp only [List.getElem?_toArray, List.getElem?_cons_succ, List.getElem?_cons_zero]; rfl
    case hqr2_15 => exact fun _ _ _ h => h
    case hyr2_15 => (refine Or.inl ⟨by rfl, ?_⟩; intro w hSw; (try dsimp only at hSw); go_simp; all_goals with_reducible rfl)
    try simp only [Act.put, List.setIfInBounds_toArray, List.set_cons_zero, List.set_cons_succ]
    refine wpAnyH_take (i := 16) (oi := ?oir2_16) (v := ?vr2_16) ?hir2_16 (by kernel_rfl) (by kernel_rfl) (by kernel_rfl) ?hqr2_16 ?hyr2_16 (by assumption) ?restr2_16
    case hir2_16 => simp only [List.getElem?_toArray, List.getElem?_cons_succ, List.getElem?_cons_zero]; rfl
    case hqr2_16 => exact fun _ _ _ h => h
    case hyr2_16 => (refine Or.inl ⟨by rfl, ?_⟩; intro w hSw; (try dsimp only at hSw); go_simp; all_goals with_reducible rfl)
    try simp only [Act.put, List.setIfInBounds_toArray, List.set_cons_zero, List.set_cons_succ]
    refine wpAnyH_ready (rs := [17]) (by kernel_rfl) (by simp) ?_
    refine AllReadyH.cons (o := ?or2_17) ?hor2_17 (fun K hK => ?kr2_17) AllReadyH.nil
    case hor2_17 => simp only [List.getElem?_toArray, List.getElem?_cons_succ, List.getElem?_cons_zero]; rfl
    go_simp
    (with_reducible refine (A1 _ hB).mono ?_); rintro e2 w2 ⟨rfl, hb2⟩; have hB := Below.trans hB (hb2.mono hB.size)
    go_wp2_with fail
    refine hK.out _ _ ?_ (fun hHeld => ?_)
    · (first | (refine ⟨?_, ?_, ?_, ?_⟩ <;> first | assumption | exact (Below.refl _ _).drew | (simp only [World.cell?_drew]; assumption) | (simp [*]; done)) | exact keep_pol ‹_› ‹_› (by omega) | fail "keep")
    clear hK K
    try simp only [Act.put, List.setIfInBounds_toArray, List.set_cons_zero, List.set_cons_succ]
    refine wpAnyH_take (i := 18) (oi := ?oir2_18) (v := ?vr2_18) ?hir2_18 (by kernel_rfl) (by kernel_rfl) (by kernel_rfl) ?hqr2_18 ?hyr2_18 (by assumption) ?restr2_18
    case hir2_18 => simp only [List.getElem?_toArray, List.getElem?_cons_succ, List.getElem?_cons_zero]; rfl
    case hqr2_18 => exact fun _ _ _ h => h
    case hyr2_18 => (refine Or.inl ⟨by rfl, ?_⟩; intro w hSw; (try dsimp only at hSw); go_simp; all_goals with_reducible rfl)
    try simp only [Act.put, List.setIfInBounds_toArray, List.set_cons_zero, List.set_cons_succ]
    refine wpAnyH_take (i := 19) (oi := ?oir2_19) (v := ?vr2_19) ?hir2_19 (by kernel_rfl) (by kernel_rfl) (by kernel_rfl) ?hqr2_19 ?hyr2_19 (by assumption) ?restr2_19
    case hir2_19 => simp only [List.getElem?_toArray, List.getElem?_cons_succ, List.getElem?_cons_zero]; rfl
    case hqr2_19 => exact fun _ _ _ h => h
    case hyr2_19 => (refine Or.inl ⟨by rfl, ?_⟩; intro w hSw; (try dsimp only at hSw); go_simp; all_goals with_reducible rfl)
    try simp only [Act.put, List.setIfInBounds_toArray, List.set_cons_zero, List.set_cons_succ]
    refine wpAnyH_take (i := 20) (oi := ?oir2_20) (v := ?vr2_20) ?hir2_20 (by kernel_rfl) (by kernel_rfl) (by kernel_rfl) ?hqr2_20 ?hyr2_20 (by assumption) ?restr2_20
    case hir2_20 => simp only [List.getElem?_toArray, List.getElem?_cons_succ, List.getElem?_cons_zero]; rfl
    case hqr2_20 => exact fun _ _ _ h => h
    case hyr2_20 => (refine Or.inl ⟨by rfl, ?_⟩; intro w hSw; (try dsimp only at hSw); go_simp; all_goals with_reducible rfl)
    try simp only [Act.put, List.setIfInBounds_toArray, List.set_cons_zero, List.set_cons_succ]
    refine wpAnyH_take (i := 22) (oi := ?oir2_22) (v := ?vr2_22) ?hir2_22 (by kernel_rfl) (by kernel_rfl) (by kernel_rfl) ?hqr2_22 ?hyr2_22 (by assumption) ?restr2_22
    case hir2_22 => simp only [List.getElem?_toArray, List.getElem?_cons_succ, List.getElem?_cons_zero]; rfl
    case hqr2_22 => exact fun _ _ _ h => h
    case hyr2_22 => (refine Or.inl ⟨by rfl, ?_⟩; intro w hSw; (try dsimp only at hSw); go_simp; all_goals with_reducible rfl)
    try simp only [Act.put, List.setIfInBounds_toArray, List.set_cons_zero, List.set_cons_succ]
    refine wpAnyH_take (i := 23) (oi := ?oir2_23) (v := ?vr2_23) ?hir2_23 (by kernel_rfl) (by kernel_rfl) (by kernel_rfl) ?hqr2_23 ?hyr2_23 (by assumption) ?restr2_23
    case hir2_23 => simp only [List.getElem?_toArray, List.getElem?_cons_succ, List.getElem?_cons_zero]; rfl
    case hqr2_23 => exact fun _ _ _ h => h
    case hyr2_23 => (refine Or.inl ⟨by rfl, ?_⟩; intro w hSw; (try dsimp only at hSw); go_simp; all_goals with_reducible rfl)
    try simp only [Act.put, List.setIfInBounds_toArray, List.set_cons_zero, List.set_cons_succ]
    refine wpAnyH_ready (rs := [21]) (by kernel_rfl) (by simp) ?_
    refine AllReadyH.cons (o := ?or2_21) ?hor2_21 (fun K hK => ?kr2_21) AllReadyH.nil
    case hor2_21 => simp only [List.getElem?_toArray, List.getElem?_cons_succ, List.getElem?_cons_zero]; rfl
    go_simp
    (with_reducible refine (one_any _).mono ?_); rintro e2 w2 ⟨a9, n9, c9, rfl, x9, hb2⟩; have hB := Below.trans hB (hb2.mono hB.size)
    go_wp2_with fail
    refine hK.out _ _ ?_ (fun hHeld => ?_)
    · (first | (refine ⟨?_, ?_, ?_, ?_⟩ <;> first | assumption | exact (Below.refl _ _).drew | (simp only [World.cell?_drew]; assumption) | (simp [*]; done)) | exact keep_pol ‹_› ‹_› (by omega) | fail "keep")
    clear hK K
    try simp only [Act.put, List.setIfInBounds_toArray, List.set_cons_zero, List.set_cons_succ]
    refine wpAnyH_ready (rs := [24]) (by kernel_rfl) (by simp) ?_
    refine AllReadyH.cons (o := ?or2_24) ?hor2_24 (fun K hK => ?kr2_24) AllReadyH.nil
    case hor2_24 => simp only [List.getElem?_toArray, List.getElem?_cons_succ, List.getElem?_cons_zero]; rfl
    go_simp
    (with_reducible refine (A2 _ hB _ _ _ x9).mono ?_); rintro e2 w2 ⟨rfl, hb2⟩; have hB := Below.trans hB (hb2.mono hB.size)
    go_wp2_with fail
    refine hK.out _ _ ?_ (fun hHeld => ?_)
    · (first | (refine ⟨?_, ?_, ?_, ?_⟩ <;> first | assumption | exact (Below.refl _ _).drew | (simp only [World.cell?_drew]; assumption) | (simp [*]; done)) | exact keep_pol ‹_› ‹_› (by omega) | fail "keep")
    clear hK K
    try simp only [Act.put, List.setIfInBounds_toArray, List.set_cons_zero, List.set_cons_succ]
    refine wpAnyH_take (i := 25) (oi := ?oir2_25) (v := ?vr2_25) ?hir2_25 (by kernel_rfl) (by kernel_rfl) (by kernel_rfl) ?hqr2_25 ?hyr2_25 (by assumption) ?restr2_25
    case hir2_25 => simp only [List.getElem?_toArray, List.getElem?_cons_succ, List.getElem?_cons_zero]; rfl
    case hqr2_25 => exact fun _ _ _ h => h
    case hyr2_25 => (refine Or.inl ⟨by rfl, ?_⟩; intro w hSw; (try dsimp only at hSw); go_simp; all_goals with_reducible rfl)
    try simp only [Act.put, List.setIfInBounds_toArray, List.set_cons_zero, List.set_cons_succ]
    refine wpAnyH_take (i := 26) (oi := ?oir2_26) (v := ?vr2_26) ?hir2_26 (by kernel_rfl) (by kernel_rfl) (by kernel_rfl) ?hqr2_26 ?hyr2_26 (by assumption) ?restr2_26
    case hir2_26 => simp only [List.getElem?_toArray, List.getElem?_cons_succ, List.getElem?_cons_zero]; rfl
    case hqr2_26 => exact fun _ _ _ h => h
    case hyr2_26 => (refine Or.inl ⟨by rfl, ?_⟩; intro w hSw; (try dsimp only at hSw); go_simp; all_goals with_reducible rfl)
    try simp only [Act.put, List.setIfInBounds_toArray, List.set_cons_zero, List.set_cons_succ]
    refine wpAnyH_take (i := 27) (oi := ?oir2_27) (v := ?vr2_27) ?hir2_27 (by kernel_rfl) (by kernel_rfl) (by kernel_rfl) ?hqr2_27 ?hyr2_27 (by assumption) ?restr2_27
    case hir2_27 => simp only [List.getElem?_toArray, List.getElem?_cons_succ, List.getElem?_cons_zero]; rfl
    case hqr2_27 => exact fun _ _ _ h => h
    case hyr2_27 => (refine Or.inl ⟨by rfl, ?_⟩; intro w hSw; (try dsimp only at hSw); go_simp; all_goals with_reducible rfl)
    try simp only [Act.put, List.setIfInBounds_toArray, List.set_cons_zero, List.set_cons_succ]
    refine wpAnyH_take (i := 28) (oi := ?oir2_28) (v := ?vr2_28) ?hir2_28 (by kernel_rfl) (by kernel_rfl) (by kernel_rfl) ?hqr2_28 ?hyr2_28 (by assumption) ?restr2_28
    case hir2_28 => simp only [List.getElem?_toArray, List.getElem?_cons_succ, List.getElem?_cons_zero]; rfl
    case hqr2_28 => exact fun _ _ _ h => h
    case hyr2_28 => (refine Or.inl ⟨by rfl, ?_⟩; intro w hSw; (try dsimp only at hSw); go_simp; all_goals with_reducible rfl)
    try simp only [Act.put, List.setIfInBounds_toArray, List.set_cons_zero, List.set_cons_succ]
    refine wpAnyH_take (i := 29) (oi := ?oir2_29) (v := ?vr2_29) ?hir2_29 (by kernel_rfl) (by kernel_rfl) (by kernel_rfl) ?hqr2_29 ?hyr2_29 (by assumption) ?restr2_29
    case hir2_29 => simp only [List.getElem?_toArray, List.getElem?_cons_succ, List.getElem?_cons_zero]; rfl
    case hqr2_29 => exact fun _ _ _ h => h
    case hyr2_29 => (refine Or.inl ⟨by rfl, ?_⟩; intro w hSw; (try dsimp only at hSw); go_simp; all_goals with_reducible rfl)
    try simp only [Act.put, List.setIfInBounds_toArray, List.set_cons_zero, List.set_cons_succ]
    refine wpAnyH_ready (rs := [30]) (by kernel_rfl) (by simp) ?_
    refine AllReadyH.cons (o := ?or2_30) ?hor2_30 (fun K hK => ?kr2_30) AllReadyH.nil
    case hor2_30 => simp only [List.getElem?_toArray, List.getElem?_cons_succ, List.getElem?_cons_zero]; rfl
    go_simp
    (with_reducible refine (most_any _).mono ?_); rintro e2 w2 ⟨a9, n9, c9, rfl, x9, hb2⟩; have hB := Below.trans hB (hb2.mono hB.size)
    go_wp2_with fail
    refine hK.out _ _ ?_ (fun hHeld => ?_)
    · (first | (refine ⟨?_, ?_, ?_, ?_⟩ <;> first | assumption | exact (Below.refl _ _).drew | (simp only [World.cell?_drew]; assumption) | (simp [*]; done)) | exact keep_pol ‹_› ‹_› (by omega) | fail "keep")
    clear hK K
    try simp only [Act.put, List.setIfInBounds_toArray, List.set_cons_zero, List.set_cons_succ]
    refine wpAnyH_ready (rs := [31]) (by kernel_rfl) (by simp) ?_
    refine AllReadyH.cons (o := ?or2_31) ?hor2_31 (fun K hK => ?kr2_31) AllReadyH.nil
    case hor2_31 => simp only [List.getElem?_toArray, List.getElem?_cons_succ, List.getElem?_cons_zero]; rfl
    go_simp
    (with_reducible refine (A3 _ hB _ _ _ x9).mono ?_); rintro e2 w2 ⟨rfl, hb2⟩; have hB := Below.trans hB (hb2.mono hB.size)
    go_wp2_with fail
    refine hK.out _ _ ?_ (fun hHeld => ?_)
    · (first | (refine ⟨?_, ?_, ?_, ?_⟩ <;> first | assumption | exact (Below.refl _ _).drew | (simp only [World.cell?_drew]; assumption) | (simp [*]; done)) | exact keep_pol ‹_› ‹_› (by omega) | fail "keep")
    clear hK K
    try simp only [Act.put, List.setIfInBounds_toArray, List.set_cons_zero, List.set_cons_succ]
    refine wpAnyH_take (i := 32) (oi := ?oir2_32) (v := ?vr2_32) ?hir2_32 (by kernel_rfl) (by kernel_rfl) (by kernel_rfl) ?hqr2_32 ?hyr2_32 (by assumption) ?restr2_32
    case hir2_32 => simp only [List.getElem?_toArray, List.getElem?_cons_succ, List.getElem?_cons_zero]; rfl
    case hqr2_32 => exact fun _ _ _ h => h
    case hyr2_32 => (refine Or.inl ⟨by rfl, ?_⟩; intro w hSw; (try dsimp only at hSw); go_simp; all_goals with_reducible rfl)
    try simp only [Act.put, List.setIfInBounds_toArray, List.set_cons_zero, List.set_cons_succ]
    refine wpAnyH_take (i := 33) (oi := ?oir2_33) (v := ?vr2_33) ?hir2_33 (by kernel_rfl) (by kernel_rfl) (by kernel_rfl) ?hqr2_33 ?hyr2_33 (by assumption) ?restr2_33
    case hir2_33 => simp only [List.getElem?_toArray, List.getElem?_cons_succ, List.getElem?_cons_zero]; rfl
    case hqr2_33 => exact fun _ _ _ h => h
    case hyr2_33 => (refine Or.inl ⟨by rfl, ?_⟩; intro w hSw; (try dsimp only at hSw); go_simp; all_goals with_reducible rfl)
    try simp only [Act.put, List.setIfInBounds_toArray, List.set_cons_zero, List.set_cons_succ]
    refine wpAnyH_done (by kernel_rfl) ?_ _
    go_wp2_with fail
    go_ret
    exact ⟨by rw [e.out]; rfl, LL.below.trans (hB.mono LL.below.size)⟩
  have e := Lib.hid (show r = 0 by rw [hr]; exact chkP_yes ⟨⟨by omega, by omega⟩, s, c1, c2, c3⟩)
  have SE := Lib.hid s
  have E1 := Lib.hid c1
  have E2 := Lib.hid c2
  have E3 := Lib.hid c3
  have d1 : decide (q.bet < 1) = false := decide_eq_false b1
  have d2 : decide (999 < q.bet) = false := decide_eq_false b2
  clear hr b1 b2 s c1 c2 c3
  go_enter Try.func18, Try.ntmps18
  go_wp2_with fail
  have cc := HC _ hs
  rw [SE.out] at cc
  refine cc.mono ?_
  rintro e1 w9 ⟨rfl, rfl⟩
  clear cc
  have LL := L1
  clear HC hs L1
  go_wp2_with fail
  generalize w.alloc (.cells (polC q a n c b m d) 25) = w1 at *
  have r1 := fun w' (hb : Below w1.heap.size w1 w') => q1.below hb
  have r2 := fun w' (hb : Below w1.heap.size w1 w') => q2.below hb
  have A1 := fun w' (hb : Below w1.heap.size w1 w') => atMost_any w' (r1 w' hb) (r2 w' hb)
  simp only [E1.out] at A1
  have A2 := fun w' (hb : Below w1.heap.size w1 w') a9 n9 c9 (x9 : Rd .u32 w' a9 n9 c9 [0, 0, 1]) => atMost_any w' x9 (r2 w' hb)
  simp only [E2.out] at A2
  have A3 := fun w' (hb : Below w1.heap.size w1 w') a9 n9 c9 (x9 : Rd .u32 w' a9 n9 c9 [0, 0, 0, 0, 1]) => atMost_any w' (r2 w' hb) x9
  simp only [E3.out] at A3
  have hB := (Below.refl w1.heap.size w1).drew
  have lt := LL.lt
  refine wp_region_held_drew (S := (fun w' => Below w1.heap.size w1 w' ∧ w'.cell? ⟨w.heap.size, 0, none⟩ = some (.int .i64 q.bet) ∧ w'.cell? ⟨w.heap.size, 4, none⟩ = some (.slice a n c) ∧ w'.cell? ⟨w.heap.size, 5, none⟩ = some (.slice b m d))) (by kernel_rfl) ?_ (fun hHeld => ?_)
  · (first | (refine ⟨?_, ?_, ?_, ?_⟩ <;> first | assumption | exact (Below.refl _ _).drew | (simp only [World.cell?_drew]; assumption) | (simp [*]; done)) | exact keep_pol ‹_› ‹_› (by omega) | fail "keep")
  refine wpAnyH_take (i := 0) (oi := ?oir3_0) (v := ?vr3_0) ?hir3_0 (by kernel_rfl) (by kernel_rfl) (by kernel_rfl) ?hqr3_0 ?hyr3_0 (by assumption) ?restr3_0
  case hir3_0 => simp only [List.getElem?_toArray, List.getElem?_cons_succ, List.getElem?_cons_zero]; rfl
  case hqr3_0 => exact fun _ _ _ h => h
  case hyr3_0 => (refine Or.inl ⟨by rfl, ?_⟩; intro w hSw; (try dsimp only at hSw); go_simp; all_goals with_reducible rfl)
  try simp only [Act.put, List.setIfInBounds_toArray, List.set_cons_zero, List.set_cons_succ]
  refine wpAnyH_take (i := 1) (oi := ?oir3_1) (v := ?vr3_1) ?hir3_1 (by kernel_rfl) (by kernel_rfl) (by kernel_rfl) ?hqr3_1 ?hyr3_1 (by assumption) ?restr3_1
  case hir3_1 => simp only [List.getElem?_toArray, List.getElem?_cons_succ, List.getElem?_cons_zero]; rfl
  case hqr3_1 => exact fun _ _ _ h => h
  case hyr3_1 => (refine Or.inl ⟨by rfl, ?_⟩; intro w hSw; (try dsimp only at hSw); go_simp; all_goals with_reducible rfl)
  try simp only [Act.put, List.setIfInBounds_toArray, List.set_cons_zero, List.set_cons_succ]
  refine wpAnyH_take (i := 2) (oi := ?oir3_2) (v := ?vr3_2) ?hir3_2 (by kernel_rfl) (by kernel_rfl) (by kernel_rfl) ?hqr3_2 ?hyr3_2 (by assumption) ?restr3_2
  case hir3_2 => simp only [List.getElem?_toArray, List.getElem?_cons_succ, List.getElem?_cons_zero]; rfl
  case hqr3_2 => exact fun _ _ _ h => h
  case hyr3_2 => (refine Or.inl ⟨by rfl, ?_⟩; intro w hSw; (try dsimp only at hSw); go_simp; all_goals with_reducible rfl)
  try simp only [Act.put, List.setIfInBounds_toArray, List.set_cons_zero, List.set_cons_succ]
  refine wpAnyH_take (i := 3) (oi := ?oir3_3) (v := ?vr3_3) ?hir3_3 (by kernel_rfl) (by kernel_rfl) (by kernel_rfl) ?hqr3_3 ?hyr3_3 (by assumption) ?restr3_3
  case hir3_3 => simp only [List.getElem?_toArray, List.getElem?_cons_succ, List.getElem?_cons_zero]; rfl
  case hqr3_3 => exact fun _ _ _ h => h
  case hyr3_3 => (refine Or.inl ⟨by rfl, ?_⟩; intro w hSw; (try dsimp only at hSw); go_simp; all_goals with_reducible rfl)
  try simp only [Act.put, List.setIfInBounds_toArray, List.set_cons_zero, List.set_cons_succ]
  refine wpAnyH_take (i := 4) (oi := ?oir3_4) (v := ?vr3_4) ?hir3_4 (by kernel_rfl) (by kernel_rfl) (by kernel_rfl) ?hqr3_4 ?hyr3_4 (by assumption) ?restr3_4
  case hir3_4 => simp only [List.getElem?_toArray, List.getElem?_cons_succ, List.getElem?_cons_zero]; rfl
  case hqr3_4 => exact fun _ _ _ h => h
  case hyr3_4 => (refine Or.inl ⟨by rfl, ?_⟩; intro w hSw; (try dsimp only at hSw); go_simp; all_goals with_reducible rfl)
  try simp only [Act.put, List.setIfInBounds_toArray, List.set_cons_zero, List.set_cons_succ]
  refine wpAnyH_take (i := 5) (oi := ?oir3_5) (v := ?vr3_5) ?hir3_5 (by kernel_rfl) (by kernel_rfl) (by kernel_rfl) ?hqr3_5 ?hyr3_5 (by assumption) ?restr3_5
  case hir3_5 => simp only [List.getElem?_toArray, List.getElem?_cons_succ, List.getElem?_cons_zero]; rfl
  case hqr3_5 => exact fun _ _ _ h => h
  case hyr3_5 => (refine Or.inl ⟨by rfl, ?_⟩; intro w hSw; (try dsimp only at hSw); go_simp; all_goals with_reducible rfl)
  try simp only [Act.put, List.setIfInBounds_toArray, List.set_cons_zero, List.set_cons_succ]
  refine wpAnyH_take (i := 6) (oi := ?oir3_6) (v := ?vr3_6) ?hir3_6 (by kernel_rfl) (by kernel_rfl) (by kernel_rfl) ?hqr3_6 ?hyr3_6 (by assumption) ?restr3_6
  case hir3_6 => simp only [List.getElem?_toArray, List.getElem?_cons_succ, List.getElem?_cons_zero]; rfl
  case hqr3_6 => exact fun _ _ _ h => h
  case hyr3_6 => (refine Or.inl ⟨by rfl, ?_⟩; intro w hSw; (try dsimp only at hSw); go_simp; all_goals with_reducible rfl)
  try simp only [Act.put, List.setIfInBounds_toArray, List.set_cons_zero, List.set_cons_succ]
  refine wpAnyH_take (i := 7) (oi := ?oir3_7) (v := ?vr3_7) ?hir3_7 (by kernel_rfl) (by kernel_rfl) (by kernel_rfl) ?hqr3_7 ?hyr3_7 (by assumption) ?restr3_7
  case hir3_7 => simp only [List.getElem?_toArray, List.getElem?_cons_succ, List.getElem?_cons_zero]; rfl
  case hqr3_7 => exact fun _ _ _ h => h
  case hyr3_7 => (refine Or.inl ⟨by rfl, ?_⟩; intro w hSw; (try dsimp only at hSw); go_simp; all_goals with_reducible rfl)
  try simp only [Act.put, List.setIfInBounds_toArray, List.set_cons_zero, List.set_cons_succ]
  refine wpAnyH_take (i := 8) (oi := ?oir3_8) (v := ?vr3_8) ?hir3_8 (by kernel_rfl) (by kernel_rfl) (by kernel_rfl) ?hqr3_8 ?hyr3_8 (by assumption) ?restr3_8
  case hir3_8 => simp only [List.getElem?_toArray, List.getElem?_cons_succ, List.getElem?_cons_zero]; rfl
  case hqr3_8 => exact fun _ _ _ h => h
  case hyr3_8 => (refine Or.inl ⟨by rfl, ?_⟩; intro w hSw; (try dsimp only at hSw); go_simp; all_goals with_reducible rfl)
  try simp only [Act.put, List.setIfInBounds_toArray, List.set_cons_zero, List.set_cons_succ]
  refine wpAnyH_take (i := 9) (oi := ?oir3_9) (v := ?vr3_9) ?hir3_9 (by kernel_rfl) (by kernel_rfl) (by kernel_rfl) ?hqr3_9 ?hyr3_9 (by assumption) ?restr3_9
  case hir3_9 => simp only [List.getElem?_toArray, List.getElem?_cons_succ, List.getElem?_cons_zero]; rfl
  case hqr3_9 => exact fun _ _ _ h => h
  case hyr3_9 => (refine Or.inl ⟨by rfl, ?_⟩; intro w hSw; (try dsimp only at hSw); go_simp; all_goals with_reducible rfl)
  try simp only [Act.put, List.setIfInBounds_toArray, List.set_cons_zero, List.set_cons_succ]
  refine wpAnyH_take (i := 10) (oi := ?oir3_10) (v := ?vr3_10) ?hir3_10 (by kernel_rfl) (by kernel_rfl) (by kernel_rfl) ?hqr3_10 ?hyr3_10 (by assumption) ?restr3_10
  case hir3_10 => simp only [List.getElem?_toArray, List.getElem?_cons_succ, List.getElem?_cons_zero]; rfl
  case hqr3_10 => exact fun _ _ _ h => h
  case hyr3_10 => (refine Or.inl ⟨by rfl, ?_⟩; intro w hSw; (try dsimp only at hSw); go_simp; all_goals with_reducible rfl)
  try simp only [Act.put, List.setIfInBounds_toArray, List.set_cons_zero, List.set_cons_succ]
  refine wpAnyH_take (i := 11) (oi := ?oir3_11) (v := ?vr3_11) ?hir3_11 (by kernel_rfl) (by kernel_rfl) (by kernel_rfl) ?hqr3_11 ?hyr3_11 (by assumption) ?restr3_11
  case hir3_11 => simp only [List.getElem?_toArray, List.getElem?_cons_succ, List.getElem?_cons_zero]; rfl
  case hqr3_11 => exact fun _ _ _ h => h
  case hyr3_11 => (refine Or.inl ⟨by rfl, ?_⟩; intro w hSw; (try dsimp only at hSw); go_simp; all_goals with_reducible rfl)
  try simp only [Act.put, List.setIfInBounds_toArray, List.set_cons_zero, List.set_cons_succ]
  refine wpAnyH_take (i := 12) (oi := ?oir3_12) (v := ?vr3_12) ?hir3_12 (by kernel_rfl) (by kernel_rfl) (by kernel_rfl) ?hqr3_12 ?hyr3_12 (by assumption) ?restr3_12
  case hir3_12 => simp only [List.getElem?_toArray, List.getElem?_cons_succ, List.getElem?_cons_zero]; rfl
  case hqr3_12 => exact fun _ _ _ h => h
  case hyr3_12 => (refine Or.inl ⟨by rfl, ?_⟩; intro w hSw; (try dsimp only at hSw); go_simp; all_goals with_reducible rfl)
  try simp only [Act.put, List.setIfInBounds_toArray, List.set_cons_zero, List.set_cons_succ]
  refine wpAnyH_take (i := 13) (oi := ?oir3_13) (v := ?vr3_13) ?hir3_13 (by kernel_rfl) (by kernel_rfl) (by kernel_rfl) ?hqr3_13 ?hyr3_13 (by assumption) ?restr3_13
  case hir3_13 => simp only [List.getElem?_toArray, List.getElem?_cons_succ, List.getElem?_cons_zero]; rfl
  case hqr3_13 => exact fun _ _ _ h => h
  case hyr3_13 => (refine Or.inl ⟨by rfl, ?_⟩; intro w hSw; (try dsimp only at hSw); go_simp; all_goals with_reducible rfl)
  try simp only [Act.put, List.setIfInBounds_toArray, List.set_cons_zero, List.set_cons_succ]
  refine wpAnyH_take (i := 14) (oi := ?oir3_14) (v := ?vr3_14) ?hir3_14 (by kernel_rfl) (by kernel_rfl) (by kernel_rfl) ?hqr3_14 ?hyr3_14 (by assumption) ?restr3_14
  case hir3_14 => simp only [List.getElem?_toArray, List.getElem?_cons_succ, List.getElem?_cons_zero]; rfl
  case hqr3_14 => exact fun _ _ _ h => h
  case hyr3_14 => (refine Or.inl ⟨by rfl, ?_⟩; intro w hSw; (try dsimp only at hSw); go_simp; all_goals with_reducible rfl)
  try simp only [Act.put, List.setIfInBounds_toArray, List.set_cons_zero, List.set_cons_succ]
  refine wpAnyH_take (i := 15) (oi := ?oir3_15) (v := ?vr3_15) ?hir3_15 (by kernel_rfl) (by kernel_rfl) (by kernel_rfl) ?hqr3_15 ?hyr3_15 (by assumption) ?restr3_15
  case hir3_15 => simp only [List.getElem?_toArray, List.getElem?_cons_succ, List.getElem?_cons_zero]; rfl
  case hqr3_15 => exact fun _ _ _ h => h
  case hyr3_15 => (refine Or.inl ⟨by rfl, ?_⟩; intro w hSw; (try dsimp only at hSw); go_simp; all_goals with_reducible rfl)
  try simp only [Act.put, List.setIfInBounds_toArray, List.set_cons_zero, List.set_cons_succ]
  refine wpAnyH_take (i := 16) (oi := ?oir3_16) (v := ?vr3_16) ?hir3_16 (by kernel_rfl) (by kernel_rfl) (by kernel_rfl) ?hqr3_16 ?hyr3_16 (by assumption) ?restr3_16
  case hir3_16 => simp only [List.getElem?_toArray, List.getElem?_cons_succ, List.getElem?_cons_zero]; rfl
  case hqr3_16 => exact fun _ _ _ h => h
  case hyr3_16 => (refine Or.inl ⟨by rfl, ?_⟩; intro w hSw; (try dsimp only at hSw); go_simp; all_goals with_reducible rfl)
  try simp only [Act.put, List.setIfInBounds_toArray, List.set_cons_zero, List.set_cons_succ]
  refine wpAnyH_ready (rs := [17]) (by kernel_rfl) (by simp) ?_
  refine AllReadyH.cons (o := ?or3_17) ?hor3_17 (fun K hK => ?kr3_17) AllReadyH.nil
  case hor3_17 => simp only [List.getElem?_toArray, List.getElem?_cons_succ, List.getElem?_cons_zero]; rfl
  go_simp
  (with_reducible refine (A1 _ hB).mono ?_); rintro e2 w2 ⟨rfl, hb2⟩; have hB := Below.trans hB (hb2.mono hB.size)
  go_wp2_with fail
  refine hK.out _ _ ?_ (fun hHeld => ?_)
  · (first | (refine ⟨?_, ?_, ?_, ?_⟩ <;> first | assumption | exact (Below.refl _ _).drew | (simp only [World.cell?_drew]; assumption) | (simp [*]; done)) | exact keep_pol ‹_› ‹_› (by omega) | fail "keep")
  clear hK K
  try simp only [Act.put, List.setIfInBounds_toArray, List.set_cons_zero, List.set_cons_succ]
  refine wpAnyH_take (i := 18) (oi := ?oir3_18) (v := ?vr3_18) ?hir3_18 (by kernel_rfl) (by kernel_rfl) (by kernel_rfl) ?hqr3_18 ?hyr3_18 (by assumption) ?restr3_18
  case hir3_18 => simp only [List.getElem?_toArray, List.getElem?_cons_succ, List.getElem?_cons_zero]; rfl
  case hqr3_18 => exact fun _ _ _ h => h
  case hyr3_18 => (refine Or.inl ⟨by rfl, ?_⟩; intro w hSw; (try dsimp only at hSw); go_simp; all_goals with_reducible rfl)
  try simp only [Act.put, List.setIfInBounds_toArray, List.set_cons_zero, List.set_cons_succ]
  refine wpAnyH_take (i := 19) (oi := ?oir3_19) (v := ?vr3_19) ?hir3_19 (by kernel_rfl) (by kernel_rfl) (by kernel_rfl) ?hqr3_19 ?hyr3_19 (by assumption) ?restr3_19
  case hir3_19 => simp only [List.getElem?_toArray, List.getElem?_cons_succ, List.getElem?_cons_zero]; rfl
  case hqr3_19 => exact fun _ _ _ h => h
  case hyr3_19 => (refine Or.inl ⟨by rfl, ?_⟩; intro w hSw; (try dsimp only at hSw); go_simp; all_goals with_reducible rfl)
  try simp only [Act.put, List.setIfInBounds_toArray, List.set_cons_zero, List.set_cons_succ]
  refine wpAnyH_take (i := 20) (oi := ?oir3_20) (v := ?vr3_20) ?hir3_20 (by kernel_rfl) (by kernel_rfl) (by kernel_rfl) ?hqr3_20 ?hyr3_20 (by assumption) ?restr3_20
  case hir3_20 => simp only [List.getElem?_toArray, List.getElem?_cons_succ, List.getElem?_cons_zero]; rfl
  case hqr3_20 => exact fun _ _ _ h => h
  case hyr3_20 => (refine Or.inl ⟨by rfl, ?_⟩; intro w hSw; (try dsimp only at hSw); go_simp; all_goals with_reducible rfl)
  try simp only [Act.put, List.setIfInBounds_toArray, List.set_cons_zero, List.set_cons_succ]
  refine wpAnyH_take (i := 22) (oi := ?oir3_22) (v := ?vr3_22) ?hir3_22 (by kernel_rfl) (by kernel_rfl) (by kernel_rfl) ?hqr3_22 ?hyr3_22 (by assumption) ?restr3_22
  case hir3_22 => simp only [List.getElem?_toArray, List.getElem?_cons_succ, List.getElem?_cons_zero]; rfl
  case hqr3_22 => exact fun _ _ _ h => h
  case hyr3_22 => (refine Or.inl ⟨by rfl, ?_⟩; intro w hSw; (try dsimp only at hSw); go_simp; all_goals with_reducible rfl)
  try simp only [Act.put, List.setIfInBounds_toArray, List.set_cons_zero, List.set_cons_succ]
  refine wpAnyH_take (i := 23) (oi := ?oir3_23) (v := ?vr3_23) ?hir3_23 (by kernel_rfl) (by kernel_rfl) (by kernel_rfl) ?hqr3_23 ?hyr3_23 (by assumption) ?restr3_23
  case hir3_23 => simp only [List.getElem?_toArray, List.getElem?_cons_succ, List.getElem?_cons_zero]; rfl
  case hqr3_23 => exact fun _ _ _ h => h
  case hyr3_23 => (refine Or.inl ⟨by rfl, ?_⟩; intro w hSw; (try dsimp only at hSw); go_simp; all_goals with_reducible rfl)
  try simp only [Act.put, List.setIfInBounds_toArray, List.set_cons_zero, List.set_cons_succ]
  refine wpAnyH_ready (rs := [21]) (by kernel_rfl) (by simp) ?_
  refine AllReadyH.cons (o := ?or3_21) ?hor3_21 (fun K hK => ?kr3_21) AllReadyH.nil
  case hor3_21 => simp only [List.getElem?_toArray, List.getElem?_cons_succ, List.getElem?_cons_zero]; rfl
  go_simp
  (with_reducible refine (one_any _).mono ?_); rintro e2 w2 ⟨a9, n9, c9, rfl, x9, hb2⟩; have hB := Below.trans hB (hb2.mono hB.size)
  go_wp2_with fail
  refine hK.out _ _ ?_ (fun hHeld => ?_)
  · (first | (refine ⟨?_, ?_, ?_, ?_⟩ <;> first | assumption | exact (Below.refl _ _).drew | (simp only [World.cell?_drew]; assumption) | (simp [*]; done)) | exact keep_pol ‹_› ‹_› (by omega) | fail "keep")
  clear hK K
  try simp only [Act.put, List.setIfInBounds_toArray, List.set_cons_zero, List.set_cons_succ]
  refine wpAnyH_ready (rs := [24]) (by kernel_rfl) (by simp) ?_
  refine AllReadyH.cons (o := ?or3_24) ?hor3_24 (fun K hK => ?kr3_24) AllReadyH.nil
  case hor3_24 => simp only [List.getElem?_toArray, List.getElem?_cons_succ, List.getElem?_cons_zero]; rfl
  go_simp
  (with_reducible refine (A2 _ hB _ _ _ x9).mono ?_); rintro e2 w2 ⟨rfl, hb2⟩; have hB := Below.trans hB (hb2.mono hB.size)
  go_wp2_with fail
  refine hK.out _ _ ?_ (fun hHeld => ?_)
  · (first | (refine ⟨?_, ?_, ?_, ?_⟩ <;> first | assumption | exact (Below.refl _ _).drew | (simp only [World.cell?_drew]; assumption) | (simp [*]; done)) | exact keep_pol ‹_› ‹_› (by omega) | fail "keep")
  clear hK K
  try simp only [Act.put, List.setIfInBounds_toArray, List.set_cons_zero, List.set_cons_succ]
  refine wpAnyH_take (i := 25) (oi := ?oir3_25) (v := ?vr3_25) ?hir3_25 (by kernel_rfl) (by kernel_rfl) (by kernel_rfl) ?hqr3_25 ?hyr3_25 (by assumption) ?restr3_25
  case hir3_25 => simp only [List.getElem?_toArray, List.getElem?_cons_succ, List.getElem?_cons_zero]; rfl
  case hqr3_25 => exact fun _ _ _ h => h
  case hyr3_25 => (refine Or.inl ⟨by rfl, ?_⟩; intro w hSw; (try dsimp only at hSw); go_simp; all_goals with_reducible rfl)
  try simp only [Act.put, List.setIfInBounds_toArray, List.set_cons_zero, List.set_cons_succ]
  refine wpAnyH_take (i := 26) (oi := ?oir3_26) (v := ?vr3_26) ?hir3_26 (by kernel_rfl) (by kernel_rfl) (by kernel_rfl) ?hqr3_26 ?hyr3_26 (by assumption) ?restr3_26
  case hir3_26 => simp only [List.getElem?_toArray, List.getElem?_cons_succ, List.getElem?_cons_zero]; rfl
  case hqr3_26 => exact fun _ _ _ h => h
  case hyr3_26 => (refine Or.inl ⟨by rfl, ?_⟩; intro w hSw; (try dsimp only at hSw); go_simp; all_goals with_reducible rfl)
  try simp only [Act.put, List.setIfInBounds_toArray, List.set_cons_zero, List.set_cons_succ]
  refine wpAnyH_take (i := 27) (oi := ?oir3_27) (v := ?vr3_27) ?hir3_27 (by kernel_rfl) (by kernel_rfl) (by kernel_rfl) ?hqr3_27 ?hyr3_27 (by assumption) ?restr3_27
  case hir3_27 => simp only [List.getElem?_toArray, List.getElem?_cons_succ, List.getElem?_cons_zero]; rfl
  case hqr3_27 => exact fun _ _ _ h => h
  case hyr3_27 => (refine Or.inl ⟨by rfl, ?_⟩; intro w hSw; (try dsimp only at hSw); go_simp; all_goals with_reducible rfl)
  try simp only [Act.put, List.setIfInBounds_toArray, List.set_cons_zero, List.set_cons_succ]
  refine wpAnyH_take (i := 28) (oi := ?oir3_28) (v := ?vr3_28) ?hir3_28 (by kernel_rfl) (by kernel_rfl) (by kernel_rfl) ?hqr3_28 ?hyr3_28 (by assumption) ?restr3_28
  case hir3_28 => simp only [List.getElem?_toArray, List.getElem?_cons_succ, List.getElem?_cons_zero]; rfl
  case hqr3_28 => exact fun _ _ _ h => h
  case hyr3_28 => (refine Or.inl ⟨by rfl, ?_⟩; intro w hSw; (try dsimp only at hSw); go_simp; all_goals with_reducible rfl)
  try simp only [Act.put, List.setIfInBounds_toArray, List.set_cons_zero, List.set_cons_succ]
  refine wpAnyH_take (i := 29) (oi := ?oir3_29) (v := ?vr3_29) ?hir3_29 (by kernel_rfl) (by kernel_rfl) (by kernel_rfl) ?hqr3_29 ?hyr3_29 (by assumption) ?restr3_29
  case hir3_29 => simp only [List.getElem?_toArray, List.getElem?_cons_succ, List.getElem?_cons_zero]; rfl
  case hqr3_29 => exact fun _ _ _ h => h
  case hyr3_29 => (refine Or.inl ⟨by rfl, ?_⟩; intro w hSw; (try dsimp only at hSw); go_simp; all_goals with_reducible rfl)
  try simp only [Act.put, List.setIfInBounds_toArray, List.set_cons_zero, List.set_cons_succ]
  refine wpAnyH_ready (rs := [30]) (by kernel_rfl) (by simp) ?_
  refine AllReadyH.cons (o := ?or3_30) ?hor3_30 (fun K hK => ?kr3_30) AllReadyH.nil
  case hor3_30 => simp only [List.getElem?_toArray, List.getElem?_cons_succ, List.getElem?_cons_zero]; rfl
  go_simp
  (with_reducible refine (most_any _).mono ?_); rintro e2 w2 ⟨a9, n9, c9, rfl, x9, hb2⟩; have hB := Below.trans hB (hb2.mono hB.size)
  go_wp2_with fail
  refine hK.out _ _ ?_ (fun hHeld => ?_)
  · (first | (refine ⟨?_, ?_, ?_, ?_⟩ <;> first | assumption | exact (Below.refl _ _).drew | (simp only [World.cell?_drew]; assumption) | (simp [*]; done)) | exact keep_pol ‹_› ‹_› (by omega) | fail "keep")
  clear hK K
  try simp only [Act.put, List.setIfInBounds_toArray, List.set_cons_zero, List.set_cons_succ]
  refine wpAnyH_ready (rs := [31]) (by kernel_rfl) (by simp) ?_
  refine AllReadyH.cons (o := ?or3_31) ?hor3_31 (fun K hK => ?kr3_31) AllReadyH.nil
  case hor3_31 => simp only [List.getElem?_toArray, List.getElem?_cons_succ, List.getElem?_cons_zero]; rfl
  go_simp
  (with_reducible refine (A3 _ hB _ _ _ x9).mono ?_); rintro e2 w2 ⟨rfl, hb2⟩; have hB := Below.trans hB (hb2.mono hB.size)
  go_wp2_with fail
  refine hK.out _ _ ?_ (fun hHeld => ?_)
  · (first | (refine ⟨?_, ?_, ?_, ?_⟩ <;> first | assumption | exact (Below.refl _ _).drew | (simp only [World.cell?_drew]; assumption) | (simp [*]; done)) | exact keep_pol ‹_› ‹_› (by omega) | fail "keep")
  clear hK K
  try simp only [Act.put, List.setIfInBounds_toArray, List.set_cons_zero, List.set_cons_succ]
  refine wpAnyH_take (i := 32) (oi := ?oir3_32) (v := ?vr3_32) ?hir3_32 (by kernel_rfl) (by kernel_rfl) (by kernel_rfl) ?hqr3_32 ?hyr3_32 (by assumption) ?restr3_32
  case hir3_32 => simp only [List.getElem?_toArray, List.getElem?_cons_succ, List.getElem?_cons_zero]; rfl
  case hqr3_32 => exact fun _ _ _ h => h
  case hyr3_32 => (refine Or.inl ⟨by rfl, ?_⟩; intro w hSw; (try dsimp only at hSw); go_simp; all_goals with_reducible rfl)
  try simp only [Act.put, List.setIfInBounds_toArray, List.set_cons_zero, List.set_cons_succ]
  refine wpAnyH_take (i := 33) (oi := ?oir3_33) (v := ?vr3_33) ?hir3_33 (by kernel_rfl) (by kernel_rfl) (by kernel_rfl) ?hqr3_33 ?hyr3_33 (by assumption) ?restr3_33
  case hir3_33 => simp only [List.getElem?_toArray, List.getElem?_cons_succ, List.getElem?_cons_zero]; rfl
  case hqr3_33 => exact fun _ _ _ h => h
  case hyr3_33 => (refine Or.inl ⟨by rfl, ?_⟩; intro w hSw; (try dsimp only at hSw); go_simp; all_goals with_reducible rfl)
  try simp only [Act.put, List.setIfInBounds_toArray, List.set_cons_zero, List.set_cons_succ]
  refine wpAnyH_done (by kernel_rfl) ?_ _
  go_wp2_with fail
  go_ret
  exact ⟨by rw [e.out]; rfl, LL.below.trans (hB.mono LL.below.size)⟩

end Go.Proofs.Ytkomdiblopdfiaa
