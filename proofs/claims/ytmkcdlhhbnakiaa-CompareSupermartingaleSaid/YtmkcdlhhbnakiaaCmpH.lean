/- Confirmed of comparison audits, and the answer's. -/
import Derived.Test.YtmkcdlhhbnakiaaCmpF
import Derived.Laws.StructEq
namespace Go.Proofs.Ytmkcdlhhbnakiaa
open Go.RowKit Go.Suf
set_option linter.unusedVariables false
set_option linter.unusedSimpArgs false

theorem confCC_bad {p : CV} {x : QV} (h : chkC p ≠ 0) : confCC p x = (false, 8) := by unfold confCC; rw [if_neg h]
theorem confCC_lim {p : CV} {x : QV} (h : chkC p = 0) (h2 : limC x ≠ 0) : confCC p x = (false, limC x) := by unfold confCC; rw [if_pos h, if_neg h2]
theorem confCC_ok {p : CV} {x : QV} (h : chkC p = 0) (h2 : limC x = 0) : confCC p x = (sureC p.best x.num x.den, 0) := by unfold confCC; rw [if_pos h, if_pos h2]

theorem cm_rat_boxes (w : World) (x y : Array Value) :
    Has w ((w.alloc (.cells x 25)).alloc (.cells y 34)) w.heap.size x ∧ Has w ((w.alloc (.cells x 25)).alloc (.cells y 34)) (w.heap.size + 1) y := by
  have s1 : (w.alloc (.cells x 25)).heap.size = w.heap.size + 1 := World.size_alloc _ _
  have h1 := Has.new w x 25
  have h2 := Has.new (w.alloc (.cells x 25)) y 34
  have h3 := h1.later h2.below
  rw [s1] at h2
  exact ⟨h3, h3.below, h2.cell, h2.lt⟩

set_option maxRecDepth 100000 in
set_option maxHeartbeats 4000000 in
theorem cmSure_any (w : World) {g : Bool} {a b e : Option Addr} {n m l c d k : Nat} {bs xs ys : List Nat} (h0 : Rd .u32 w e l k bs) (h1 : Rd .u32 w a n c xs) (h2 : Rd .u32 w b m d ys) :
    Calls Try.prog 44 #[.slice e l k, ratV g a n c b m d] w (RetBB w (sureC bs xs ys)) := by
  obtain ⟨r, hr⟩ : ∃ r, r = sureC bs xs ys := ⟨_, rfl⟩
  rw [← hr]
  have L1 := Has.new w #[.bool g, .slice a n c, .slice b m d] 34
  have k1 := L1.cell 1 _ rfl
  obtain ⟨x, hx⟩ : ∃ x, x = mulC bs xs := ⟨_, rfl⟩
  obtain ⟨y, hy⟩ : ∃ y, y = mulC [0, 0, 1] ys := ⟨_, rfl⟩
  have HR := Lib.hid (show r = leC y.1 x.1 by rw [hr, sureC, hx, hy])
  have HX := Lib.hid hx
  have HY := Lib.hid hy
  clear hr hx hy
  go_enter Try.func44, Try.ntmps44
  go_wp2_with fail
  have cc := Mul_any _ (h0.below L1.below) (h1.below L1.below)
  rw [← HX.out] at cc
  refine cc.mono ?_
  rintro e1 w1 ⟨a1, n1, c1, rfl, x1, b1⟩
  clear cc
  have LL := L1.later b1
  have k2 := LL.cell 2 _ rfl
  have q2 := h2.below LL.below
  have r2 := fun w' (hb : Below w1.heap.size w1 w') => q2.below hb
  clear L1 k1 b1
  have M1 := fun w' (hb : Below w1.heap.size w1 w') a9 n9 c9 (x9 : Rd .u32 w' a9 n9 c9 [0, 0, 1]) => Mul_any w' x9 (r2 w' hb)
  simp only [← HY.out] at M1
  go_wp2_with fail
  have hB := (Below.refl w1.heap.size w1).drew
  have lt := LL.lt
  go_region_held3 (fun w' => Below w1.heap.size w1 w' ∧ w'.cell? ⟨w.heap.size, 2, none⟩ = some (.slice b m d))
    (first | (refine ⟨?_, ?_⟩ <;> first | assumption | exact (Below.refl _ _).drew | (simp only [World.cell?_drew]; assumption) | (simp [*]; done)) | exact keep_one ‹_› ‹_› (by omega) | fail "keep")
    (first
      | (go_at_call 40; (with_reducible refine (cmOne_any _).mono ?_); rintro e2 w2 ⟨a9, n9, c9, rfl, x9, hb2⟩; have hB := Below.trans hB (hb2.mono hB.size))
      | (go_at_call 64; (with_reducible refine (M1 _ hB _ _ _ x9).mono ?_); rintro e2 w2 ⟨a8, n8, c8, rfl, x8, hb2⟩; have hB := Below.trans hB (hb2.mono hB.size))
      | fail "arm")
  have x1 := x1.below hB
  have hB := Lib.hid (LL.below.trans (hB.mono LL.below.size))
  clear r2 M1 q2
  go_wp2_with fail
  have cc := cmAtMost_any _ x8 x1
  rw [← HR.out] at cc
  refine cc.mono ?_
  rintro e1 w3 ⟨rfl, b7⟩
  have hB := Lib.hid (hB.out.trans (b7.mono hB.out.size))
  clear cc b7
  go_wp2_with fail
  go_ret
  exact ⟨rfl, hB.out⟩

set_option maxRecDepth 100000 in
set_option maxHeartbeats 4000000 in
theorem cmConfirmed_any (w : World) {q : CV} {a' b' : Option Addr} {n' m' c' d' : Nat} (q1 : Rd .u32 w a' n' c' q.lev) (q2 : Rd .u32 w b' m' d' q.best) (hw : CW q)
    {g : Bool} {a b : Option Addr} {n m c d : Nat} {xs ys : List Nat} (h1 : Rd .u32 w a n c xs) (h2 : Rd .u32 w b m d ys) :
    Calls Try.prog 33 #[cmV q a' n' c' b' m' d', ratV g a n c b m d] w (RetBE w (confCC q ⟨g, xs, ys⟩)) := by
  obtain ⟨r, hr⟩ : ∃ r, r = confCC q ⟨g, xs, ys⟩ := ⟨_, rfl⟩
  rw [← hr]
  obtain ⟨L1, L2⟩ := cm_rat_boxes w (cmC q a' n' c' b' m' d') #[.bool g, .slice a n c, .slice b m d]
  have k0 := L1.cell 0 _ rfl
  have k1 := L1.cell 1 _ rfl
  have k2 := L1.cell 2 _ rfl
  have k3 := L1.cell 3 _ rfl
  have k4 := L1.cell 4 _ rfl
  have k5 := L1.cell 5 _ rfl
  have k6 := L1.cell 6 _ rfl
  have k7 := L1.cell 7 _ rfl
  have k8 := L1.cell 8 _ rfl
  have k9 := L1.cell 9 _ rfl
  by_cases hc : chkC q = 0
  · by_cases hl : limC ⟨g, xs, ys⟩ = 0
    · have e := Lib.hid (show r = (sureC q.best xs ys, 0) by rw [hr]; exact confCC_ok hc hl)
      obtain ⟨s, hs⟩ : ∃ s, s = sureC q.best xs ys := ⟨_, rfl⟩
      have HS := Lib.hid hs
      rw [← hs] at e
      have C1 := Lib.hid hc
      have C2 := Lib.hid hl
      clear hr hc hl hs
      go_enter Try.func33, Try.ntmps33
      go_wp2_with fail
      have cc := cmCheck_any _ (q1.below L1.below) (q2.below L1.below) hw
      rw [C1.out] at cc
      refine cc.mono ?_
      rintro e1 w1 ⟨rfl, hb⟩
      clear cc
      have L1 := L1.later hb
      have L2 := L2.later hb
      have k0 := L2.cell 0 _ rfl
      have k1 := L2.cell 1 _ rfl
      have k2 := L2.cell 2 _ rfl
      clear hb
      go_wp2_with fail
      have cc := checkLimit_any (g := g) _ (h1.below L1.below) (h2.below L1.below)
      rw [C2.out] at cc
      refine cc.mono ?_
      rintro e1 w2 ⟨rfl, hb⟩
      clear cc
      have L1 := L1.later hb
      have L2 := L2.later hb
      have k0 := L2.cell 0 _ rfl
      have k1 := L2.cell 1 _ rfl
      have k2 := L2.cell 2 _ rfl
      have k9 := L1.cell 9 _ rfl
      clear hb
      go_wp2_with fail
      have cc := cmSure_any (g := g) _ (q2.below L1.below) (h1.below L1.below) (h2.below L1.below)
      rw [← HS.out] at cc
      refine cc.mono ?_
      rintro e1 w3 ⟨rfl, hb⟩
      clear cc
      go_wp2_with fail
      go_ret2
      exact ⟨by rw [e.out]; rfl, L1.below.trans (hb.mono L1.below.size)⟩
    · have e := Lib.hid (show r = (false, limC ⟨g, xs, ys⟩) by rw [hr]; exact confCC_lim hc hl)
      obtain ⟨s, hs⟩ : ∃ s, s = limC ⟨g, xs, ys⟩ := ⟨_, rfl⟩
      have HS := Lib.hid hs
      rw [← hs] at e hl
      have d1 : (s != 0) = true := by rw [bne_iff_ne]; exact hl
      have C1 := Lib.hid hc
      clear hr hc hl hs
      go_enter Try.func33, Try.ntmps33
      go_wp2_with fail
      have cc := cmCheck_any _ (q1.below L1.below) (q2.below L1.below) hw
      rw [C1.out] at cc
      refine cc.mono ?_
      rintro e1 w1 ⟨rfl, hb⟩
      clear cc
      have L1 := L1.later hb
      have L2 := L2.later hb
      have k0 := L2.cell 0 _ rfl
      have k1 := L2.cell 1 _ rfl
      have k2 := L2.cell 2 _ rfl
      clear hb
      go_wp2_with fail
      have cc := checkLimit_any (g := g) _ (h1.below L1.below) (h2.below L1.below)
      rw [← HS.out] at cc
      refine cc.mono ?_
      rintro e1 w2 ⟨rfl, hb⟩
      clear cc
      go_wp2_with fail
      go_ret2
      exact ⟨by rw [e.out]; rfl, L1.below.trans (hb.mono L1.below.size)⟩
  · have e := Lib.hid (show r = (false, 8) by rw [hr]; exact confCC_bad hc)
    have C1 := Lib.hid ((chkC_two q).resolve_left hc)
    clear hr hc
    go_enter Try.func33, Try.ntmps33
    go_wp2_with fail
    have cc := cmCheck_any _ (q1.below L1.below) (q2.below L1.below) hw
    rw [C1.out] at cc
    refine cc.mono ?_
    rintro e1 w1 ⟨rfl, hb⟩
    clear cc
    go_wp2_with fail
    go_ret2
    exact ⟨by rw [e.out]; rfl, L1.below.trans (hb.mono L1.below.size)⟩

set_option maxRecDepth 100000 in
set_option maxHeartbeats 4000000 in
theorem refCmConfirmed_any (w : World) {q : CV} {a' b' : Option Addr} {n' m' c' d' : Nat} (q1 : Rd .u32 w a' n' c' q.lev) (q2 : Rd .u32 w b' m' d' q.best) (hw : CW q)
    {g : Bool} {a b : Option Addr} {n m c d : Nat} {xs ys : List Nat} (h1 : Rd .u32 w a n c xs) (h2 : Rd .u32 w b m d ys) :
    Calls Try.prog 34 #[cmV q a' n' c' b' m' d', ratV g a n c b m d] w (RetBE w (confCC q ⟨g, xs, ys⟩)) := by
  obtain ⟨r, hr⟩ : ∃ r, r = confCC q ⟨g, xs, ys⟩ := ⟨_, rfl⟩
  rw [← hr]
  obtain ⟨L1, L2⟩ := cm_rat_boxes w (cmC q a' n' c' b' m' d') #[.bool g, .slice a n c, .slice b m d]
  have k0 := L1.cell 0 _ rfl
  have k1 := L1.cell 1 _ rfl
  have k2 := L1.cell 2 _ rfl
  have k3 := L1.cell 3 _ rfl
  have k4 := L1.cell 4 _ rfl
  have k5 := L1.cell 5 _ rfl
  have k6 := L1.cell 6 _ rfl
  have k7 := L1.cell 7 _ rfl
  have k8 := L1.cell 8 _ rfl
  have k9 := L1.cell 9 _ rfl
  by_cases hc : chkC q = 0
  · by_cases hl : limC ⟨g, xs, ys⟩ = 0
    · have e := Lib.hid (show r = (sureC q.best xs ys, 0) by rw [hr]; exact confCC_ok hc hl)
      obtain ⟨s, hs⟩ : ∃ s, s = sureC q.best xs ys := ⟨_, rfl⟩
      have HS := Lib.hid hs
      rw [← hs] at e
      have C1 := Lib.hid hc
      have C2 := Lib.hid hl
      clear hr hc hl hs
      go_enter Try.func34, Try.ntmps34
      go_wp2_with fail
      have cc := refCmCheck_any _ (q1.below L1.below) (q2.below L1.below) hw
      rw [C1.out] at cc
      refine cc.mono ?_
      rintro e1 w1 ⟨rfl, hb⟩
      clear cc
      have L1 := L1.later hb
      have L2 := L2.later hb
      have k0 := L2.cell 0 _ rfl
      have k1 := L2.cell 1 _ rfl
      have k2 := L2.cell 2 _ rfl
      clear hb
      go_wp2_with fail
      have cc := refCheckLimit_any (g := g) _ (h1.below L1.below) (h2.below L1.below)
      rw [C2.out] at cc
      refine cc.mono ?_
      rintro e1 w2 ⟨rfl, hb⟩
      clear cc
      have L1 := L1.later hb
      have L2 := L2.later hb
      have k0 := L2.cell 0 _ rfl
      have k1 := L2.cell 1 _ rfl
      have k2 := L2.cell 2 _ rfl
      have k9 := L1.cell 9 _ rfl
      clear hb
      go_wp2_with fail
      have cc := reached_any (g := g) _ (q2.below L1.below) (h1.below L1.below) (h2.below L1.below)
      rw [← HS.out] at cc
      refine cc.mono ?_
      rintro e1 w3 ⟨rfl, hb⟩
      clear cc
      go_wp2_with fail
      go_ret2
      exact ⟨by rw [e.out]; rfl, L1.below.trans (hb.mono L1.below.size)⟩
    · have e := Lib.hid (show r = (false, limC ⟨g, xs, ys⟩) by rw [hr]; exact confCC_lim hc hl)
      obtain ⟨s, hs⟩ : ∃ s, s = limC ⟨g, xs, ys⟩ := ⟨_, rfl⟩
      have HS := Lib.hid hs
      rw [← hs] at e hl
      have d1 : (s != 0) = true := by rw [bne_iff_ne]; exact hl
      have C1 := Lib.hid hc
      clear hr hc hl hs
      go_enter Try.func34, Try.ntmps34
      go_wp2_with fail
      have cc := refCmCheck_any _ (q1.below L1.below) (q2.below L1.below) hw
      rw [C1.out] at cc
      refine cc.mono ?_
      rintro e1 w1 ⟨rfl, hb⟩
      clear cc
      have L1 := L1.later hb
      have L2 := L2.later hb
      have k0 := L2.cell 0 _ rfl
      have k1 := L2.cell 1 _ rfl
      have k2 := L2.cell 2 _ rfl
      clear hb
      go_wp2_with fail
      have cc := refCheckLimit_any (g := g) _ (h1.below L1.below) (h2.below L1.below)
      rw [← HS.out] at cc
      refine cc.mono ?_
      rintro e1 w2 ⟨rfl, hb⟩
      clear cc
      go_wp2_with fail
      go_ret2
      exact ⟨by rw [e.out]; rfl, L1.below.trans (hb.mono L1.below.size)⟩
  · have e := Lib.hid (show r = (false, 8) by rw [hr]; exact confCC_bad hc)
    have C1 := Lib.hid ((chkC_two q).resolve_left hc)
    clear hr hc
    go_enter Try.func34, Try.ntmps34
    go_wp2_with fail
    have cc := refCmCheck_any _ (q1.below L1.below) (q2.below L1.below) hw
    rw [C1.out] at cc
    refine cc.mono ?_
    rintro e1 w1 ⟨rfl, hb⟩
    clear cc
    go_wp2_with fail
    go_ret2
    exact ⟨by rw [e.out]; rfl, L1.below.trans (hb.mono L1.below.size)⟩

end Go.Proofs.Ytmkcdlhhbnakiaa
/- Same of comparison audits, and the answer's. -/
namespace Go.Proofs.Ytmkcdlhhbnakiaa
open Go.RowKit Go.Suf
set_option linter.unusedVariables false
set_option linter.unusedSimpArgs false

theorem two_cms (w : World) (x y : Array Value) :
    Has w ((w.alloc (.cells x 25)).alloc (.cells y 25)) w.heap.size x ∧ Has w ((w.alloc (.cells x 25)).alloc (.cells y 25)) (w.heap.size + 1) y := by
  have s1 : (w.alloc (.cells x 25)).heap.size = w.heap.size + 1 := World.size_alloc _ _
  have h1 := Has.new w x 25
  have h2 := Has.new (w.alloc (.cells x 25)) y 25
  have h3 := h1.later h2.below
  rw [s1] at h2
  exact ⟨h3, h3.below, h2.cell, h2.lt⟩

theorem seen_not5 {a b c d e a' b' c' d' e' : Int} (h : ¬ (a = a' ∧ b = b' ∧ c = c' ∧ d = d' ∧ e = e')) : (a == a' && b == b' && c == c' && d == d' && e == e') = false := by
  by_cases h1 : a = a' <;> by_cases h2 : b = b' <;> by_cases h3 : c = c' <;> by_cases h4 : d = d' <;> by_cases h5 : e = e' <;> simp [h1, h2, h3, h4, h5]
  exact absurd ⟨h1, h2, h3, h4, h5⟩ h

theorem eqSeen5 (a b c d e a' b' c' d' e' : Int) (w : World) : (Op.equalIn 10000 22 (.agg #[.int .i64 a, .int .i64 b, .int .i64 c, .int .i64 d, .int .i64 e]) (.agg #[.int .i64 a', .int .i64 b', .int .i64 c', .int .i64 d', .int .i64 e'])).run Try.prog w = .ok (a == a' && b == b' && c == c' && d == d' && e == e') w := by
  have u3 := Try.underlying3
  have a3 := Try.isAgg3
  have z3 := Try.sizeOf3
  rw [show (10000 : Nat) = 9999 + 1 from rfl, Op.equalIn]
  simp only [Sem.run_bind, run_underlying Try.underlying22, Result.andThen_ok]
  simp only [Std.Legacy.Range.forIn_eq_forIn_range', Std.Legacy.Range.size, Nat.sub_zero, Nat.add_sub_cancel, Nat.div_one, List.range'_succ, List.range'_zero, List.forIn_cons, List.forIn_nil]
  go_simp
  by_cases h1 : a = a' <;> by_cases h2 : b = b' <;> by_cases h3 : c = c' <;> by_cases h4 : d = d' <;> by_cases h5 : e = e' <;> simp [h1, h2, h3, h4, h5]

set_option maxRecDepth 100000 in
set_option maxHeartbeats 2000000 in
theorem cmSame_any (w : World) {p q : CV} {a b a' b' : Option Addr} {n m c d n' m' c' d' : Nat}
    (h1 : Rd .u32 w a n c p.lev) (h2 : Rd .u32 w b m d p.best) (h3 : Rd .u32 w a' n' c' q.lev) (h4 : Rd .u32 w b' m' d' q.best) :
    Calls Try.prog 21 #[cmV p a n c b m d, cmV q a' n' c' b' m' d'] w (RetBB w (sameCV p q)) := by
  obtain ⟨r, hr⟩ : ∃ r, r = sameCV p q := ⟨_, rfl⟩
  rw [← hr]
  obtain ⟨L1, L2⟩ := two_cms w (cmC p a n c b m d) (cmC q a' n' c' b' m' d')
  have k0 := L1.cell 0 _ rfl
  have j0 := L2.cell 0 _ rfl
  have k1 := L1.cell 1 _ rfl
  have j1 := L2.cell 1 _ rfl
  have k2 := L1.cell 2 _ rfl
  have j2 := L2.cell 2 _ rfl
  have k3 := L1.cell 3 _ rfl
  have j3 := L2.cell 3 _ rfl
  have k4 := L1.cell 4 _ rfl
  have j4 := L2.cell 4 _ rfl
  have k5 := L1.cell 5 _ rfl
  have j5 := L2.cell 5 _ rfl
  have k6 := L1.cell 6 _ rfl
  have j6 := L2.cell 6 _ rfl
  have k7 := L1.cell 7 _ rfl
  have j7 := L2.cell 7 _ rfl
  have k8 := L1.cell 8 _ rfl
  have j8 := L2.cell 8 _ rfl
  by_cases hb0 : p.bet = q.bet
  case neg =>
    have y0 : (p.bet == q.bet) = false := beq_eq_false_iff_ne.2 hb0
    have e := Lib.hid (show r = false by rw [hr, sameCV]; simp [hb0])
    clear hr hb0 
    go_enter Try.func21, Try.ntmps21
    go_wp2_with fail
    go_ret
    exact ⟨by rw [e.out]; rfl, L1.below⟩
  case pos =>
  have y0 : (p.bet == q.bet) = true := beq_iff_eq.2 hb0
  by_cases hb1 : p.ballots = q.ballots
  case neg =>
    have y1 : (p.ballots == q.ballots) = false := beq_eq_false_iff_ne.2 hb1
    have e := Lib.hid (show r = false by rw [hr, sameCV]; simp [hb1])
    clear hr hb1 hb0
    go_enter Try.func21, Try.ntmps21
    go_wp2_with fail
    go_ret
    exact ⟨by rw [e.out]; rfl, L1.below⟩
  case pos =>
  have y1 : (p.ballots == q.ballots) = true := beq_iff_eq.2 hb1
  by_cases hb2 : p.margin = q.margin
  case neg =>
    have y2 : (p.margin == q.margin) = false := beq_eq_false_iff_ne.2 hb2
    have e := Lib.hid (show r = false by rw [hr, sameCV]; simp [hb2])
    clear hr hb2 hb0 hb1
    go_enter Try.func21, Try.ntmps21
    go_wp2_with fail
    go_ret
    exact ⟨by rw [e.out]; rfl, L1.below⟩
  case pos =>
  have y2 : (p.margin == q.margin) = true := beq_iff_eq.2 hb2
  by_cases hs : p.s0 = q.s0 ∧ p.s1 = q.s1 ∧ p.s2 = q.s2 ∧ p.s3 = q.s3 ∧ p.s4 = q.s4
  case neg =>
    have q2 : ∀ w, (Op.equalIn 10000 22 (.agg #[.int .i64 p.s0, .int .i64 p.s1, .int .i64 p.s2, .int .i64 p.s3, .int .i64 p.s4]) (.agg #[.int .i64 q.s0, .int .i64 q.s1, .int .i64 q.s2, .int .i64 q.s3, .int .i64 q.s4])).run Try.prog w = .ok false w := fun w => by
      rw [eqSeen5, seen_not5 hs]
    have e := Lib.hid (show r = false by rw [hr, sameCV, decide_eq_false hs]; simp)
    clear hr hb0 hb1 hb2 hs
    go_enter Try.func21, Try.ntmps21
    go_wp2_with fail
    go_ret
    exact ⟨by rw [e.out]; rfl, L1.below⟩
  case pos =>
  have q2 : ∀ w, (Op.equalIn 10000 22 (.agg #[.int .i64 p.s0, .int .i64 p.s1, .int .i64 p.s2, .int .i64 p.s3, .int .i64 p.s4]) (.agg #[.int .i64 q.s0, .int .i64 q.s1, .int .i64 q.s2, .int .i64 q.s3, .int .i64 q.s4])).run Try.prog w = .ok true w := fun w => by
    rw [eqSeen5, beq_iff_eq.2 hs.1, beq_iff_eq.2 hs.2.1, beq_iff_eq.2 hs.2.2.1, beq_iff_eq.2 hs.2.2.2.1, beq_iff_eq.2 hs.2.2.2.2]
    rfl
  have hr2 : r = (sameN p.lev q.lev && sameN p.best q.best) := by rw [hr, sameCV, decide_eq_true hs, decide_eq_true hb0, decide_eq_true hb1, decide_eq_true hb2]; rfl
  clear hr hb0 hb1 hb2 hs
  cases hl : sameN p.lev q.lev with
  | false =>
    have e := Lib.hid (show r = false by rw [hr2, hl]; rfl)
    have HS := Lib.hid hl
    clear hr2 hl
    go_enter Try.func21, Try.ntmps21
    go_wp2_with fail
    have cc := Same_any _ (h1.below L1.below) (h3.below L1.below)
    rw [HS.out] at cc
    refine cc.mono ?_
    rintro e1 w4 ⟨rfl, nq, rfl⟩
    clear cc
    go_wp2_with fail
    go_ret
    exact ⟨by rw [e.out]; rfl, below_drewN L1.below nq⟩
  | true =>
    have e := Lib.hid (show r = sameN p.best q.best by rw [hr2, hl]; rfl)
    have HS := Lib.hid hl
    clear hr2 hl
    go_enter Try.func21, Try.ntmps21
    go_wp2_with fail
    have cc := Same_any _ (h1.below L1.below) (h3.below L1.below)
    rw [HS.out] at cc
    refine cc.mono ?_
    rintro e1 w4 ⟨rfl, nq, rfl⟩
    clear cc
    have hd := fun (W : World) => below_drewN (Below.refl W.heap.size W) nq
    have L3 := L1.later (hd _)
    have L4 := L2.later (hd _)
    clear k0 j0 k1 j1 k2 j2 k3 j3 k4 j4 k5 j5 k6 j6 k7 j7 k8 j8
    have k9 := L3.cell 9 _ rfl
    have j9 := L4.cell 9 _ rfl
    go_wp2_with fail
    have cc := Same_any _ (h2.below L3.below) (h4.below L3.below)
    rw [← e.out] at cc
    refine cc.mono ?_
    rintro e1 w4 ⟨rfl, mq, rfl⟩
    clear cc
    go_wp2_with fail
    go_ret
    exact ⟨rfl, below_drewN L1.below _⟩

set_option maxRecDepth 100000 in
set_option maxHeartbeats 2000000 in
theorem refCmSame_any (w : World) {p q : CV} {a b a' b' : Option Addr} {n m c d n' m' c' d' : Nat}
    (h1 : Rd .u32 w a n c p.lev) (h2 : Rd .u32 w b m d p.best) (h3 : Rd .u32 w a' n' c' q.lev) (h4 : Rd .u32 w b' m' d' q.best) :
    Calls Try.prog 30 #[cmV p a n c b m d, cmV q a' n' c' b' m' d'] w (RetBB w (sameCV p q)) := by
  obtain ⟨r, hr⟩ : ∃ r, r = sameCV p q := ⟨_, rfl⟩
  rw [← hr]
  obtain ⟨L1, L2⟩ := two_cms w (cmC p a n c b m d) (cmC q a' n' c' b' m' d')
  have k0 := L1.cell 0 _ rfl
  have j0 := L2.cell 0 _ rfl
  have k1 := L1.cell 1 _ rfl
  have j1 := L2.cell 1 _ rfl
  have k2 := L1.cell 2 _ rfl
  have j2 := L2.cell 2 _ rfl
  have k3 := L1.cell 3 _ rfl
  have j3 := L2.cell 3 _ rfl
  have k4 := L1.cell 4 _ rfl
  have j4 := L2.cell 4 _ rfl
  have k5 := L1.cell 5 _ rfl
  have j5 := L2.cell 5 _ rfl
  have k6 := L1.cell 6 _ rfl
  have j6 := L2.cell 6 _ rfl
  have k7 := L1.cell 7 _ rfl
  have j7 := L2.cell 7 _ rfl
  have k8 := L1.cell 8 _ rfl
  have j8 := L2.cell 8 _ rfl
  by_cases hb0 : p.bet = q.bet
  case neg =>
    have y0 : (p.bet == q.bet) = false := beq_eq_false_iff_ne.2 hb0
    have e := Lib.hid (show r = false by rw [hr, sameCV]; simp [hb0])
    clear hr hb0 
    go_enter Try.func30, Try.ntmps30
    go_wp2_with fail
    go_ret
    exact ⟨by rw [e.out]; rfl, L1.below⟩
  case pos =>
  have y0 : (p.bet == q.bet) = true := beq_iff_eq.2 hb0
  by_cases hb1 : p.ballots = q.ballots
  case neg =>
    have y1 : (p.ballots == q.ballots) = false := beq_eq_false_iff_ne.2 hb1
    have e := Lib.hid (show r = false by rw [hr, sameCV]; simp [hb1])
    clear hr hb1 hb0
    go_enter Try.func30, Try.ntmps30
    go_wp2_with fail
    go_ret
    exact ⟨by rw [e.out]; rfl, L1.below⟩
  case pos =>
  have y1 : (p.ballots == q.ballots) = true := beq_iff_eq.2 hb1
  by_cases hb2 : p.margin = q.margin
  case neg =>
    have y2 : (p.margin == q.margin) = false := beq_eq_false_iff_ne.2 hb2
    have e := Lib.hid (show r = false by rw [hr, sameCV]; simp [hb2])
    clear hr hb2 hb0 hb1
    go_enter Try.func30, Try.ntmps30
    go_wp2_with fail
    go_ret
    exact ⟨by rw [e.out]; rfl, L1.below⟩
  case pos =>
  have y2 : (p.margin == q.margin) = true := beq_iff_eq.2 hb2
  by_cases hs : p.s0 = q.s0 ∧ p.s1 = q.s1 ∧ p.s2 = q.s2 ∧ p.s3 = q.s3 ∧ p.s4 = q.s4
  case neg =>
    have q2 : ∀ w, (Op.equalIn 10000 22 (.agg #[.int .i64 p.s0, .int .i64 p.s1, .int .i64 p.s2, .int .i64 p.s3, .int .i64 p.s4]) (.agg #[.int .i64 q.s0, .int .i64 q.s1, .int .i64 q.s2, .int .i64 q.s3, .int .i64 q.s4])).run Try.prog w = .ok false w := fun w => by
      rw [eqSeen5, seen_not5 hs]
    have e := Lib.hid (show r = false by rw [hr, sameCV, decide_eq_false hs]; simp)
    clear hr hb0 hb1 hb2 hs
    go_enter Try.func30, Try.ntmps30
    go_wp2_with fail
    go_ret
    exact ⟨by rw [e.out]; rfl, L1.below⟩
  case pos =>
  have q2 : ∀ w, (Op.equalIn 10000 22 (.agg #[.int .i64 p.s0, .int .i64 p.s1, .int .i64 p.s2, .int .i64 p.s3, .int .i64 p.s4]) (.agg #[.int .i64 q.s0, .int .i64 q.s1, .int .i64 q.s2, .int .i64 q.s3, .int .i64 q.s4])).run Try.prog w = .ok true w := fun w => by
    rw [eqSeen5, beq_iff_eq.2 hs.1, beq_iff_eq.2 hs.2.1, beq_iff_eq.2 hs.2.2.1, beq_iff_eq.2 hs.2.2.2.1, beq_iff_eq.2 hs.2.2.2.2]
    rfl
  have hr2 : r = (sameN p.lev q.lev && sameN p.best q.best) := by rw [hr, sameCV, decide_eq_true hs, decide_eq_true hb0, decide_eq_true hb1, decide_eq_true hb2]; rfl
  clear hr hb0 hb1 hb2 hs
  cases hl : sameN p.lev q.lev with
  | false =>
    have e := Lib.hid (show r = false by rw [hr2, hl]; rfl)
    have HS := Lib.hid hl
    clear hr2 hl
    go_enter Try.func30, Try.ntmps30
    go_wp2_with fail
    have cc := refSame_any _ (h1.below L1.below) (h3.below L1.below)
    rw [HS.out] at cc
    refine cc.mono ?_
    rintro e1 w4 ⟨rfl, nq, rfl⟩
    clear cc
    go_wp2_with fail
    go_ret
    exact ⟨by rw [e.out]; rfl, below_drewN L1.below nq⟩
  | true =>
    have e := Lib.hid (show r = sameN p.best q.best by rw [hr2, hl]; rfl)
    have HS := Lib.hid hl
    clear hr2 hl
    go_enter Try.func30, Try.ntmps30
    go_wp2_with fail
    have cc := refSame_any _ (h1.below L1.below) (h3.below L1.below)
    rw [HS.out] at cc
    refine cc.mono ?_
    rintro e1 w4 ⟨rfl, nq, rfl⟩
    clear cc
    have hd := fun (W : World) => below_drewN (Below.refl W.heap.size W) nq
    have L3 := L1.later (hd _)
    have L4 := L2.later (hd _)
    clear k0 j0 k1 j1 k2 j2 k3 j3 k4 j4 k5 j5 k6 j6 k7 j7 k8 j8
    have k9 := L3.cell 9 _ rfl
    have j9 := L4.cell 9 _ rfl
    go_wp2_with fail
    have cc := refSame_any _ (h2.below L3.below) (h4.below L3.below)
    rw [← e.out] at cc
    refine cc.mono ?_
    rintro e1 w4 ⟨rfl, mq, rfl⟩
    clear cc
    go_wp2_with fail
    go_ret
    exact ⟨rfl, below_drewN L1.below _⟩

set_option maxHeartbeats 1000000 in
theorem cmGreat_any (w : World) {p : CV} {a b : Option Addr} {n m c d : Nat} (h1 : Rd .u32 w a n c p.lev) (h2 : Rd .u32 w b m d p.best) :
    Calls Try.prog 24 #[cmV p a n c b m d] w (RetBB w (greatC p)) := by
  obtain ⟨r, hr⟩ : ∃ r, r = greatC p := ⟨_, rfl⟩
  rw [← hr]
  have L1 := Has.new w (cmC p a n c b m d) 25
  have k8 := L1.cell 8 _ rfl
  have k9 := L1.cell 9 _ rfl
  have hl := h1.len
  have hm := h2.len
  by_cases g1 : 40 < n
  · have d1 : decide ((40 : Int) < (n : Int)) = true := decide_eq_true (by omega)
    have e := Lib.hid (show r = true by rw [hr, greatC]; exact decide_eq_true (.inl (by omega)))
    clear hr hl hm g1
    go_enter Try.func24, Try.ntmps24
    go_wp2_with fail
    go_ret
    exact ⟨by rw [e.out]; rfl, L1.below⟩
  · have d1 : decide ((40 : Int) < (n : Int)) = false := decide_eq_false (by omega)
    have e := Lib.hid (show r = decide ((40 : Int) < (m : Int)) by
      rw [hr, greatC, decide_eq_decide]
      omega)
    clear hr hl hm g1
    go_enter Try.func24, Try.ntmps24
    go_wp2_with fail
    go_ret
    exact ⟨by rw [e.out]; rfl, L1.below⟩

end Go.Proofs.Ytmkcdlhhbnakiaa
