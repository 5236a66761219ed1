/- times and sure of polling, Times and Reached in its answer. -/
import Derived.Test.YtkomdiblopdfiaaPolA
import Derived.Test.YtkomdiblopdfiaaPolE
namespace Go.Proofs.Ytkomdiblopdfiaa
open Go.RowKit Go.Suf
set_option linter.unusedVariables false
set_option linter.unusedSimpArgs false

theorem times_fit {L n d : Nat} (hL : L ≤ mostN) (hn : n < 18446744073709551616) (hd : 0 < d) (hd' : d < 18446744073709551616) :
    L < pw 96 ∧ n < pw 96 ∧ d < pw 96 ∧ L * n < pw 96 ∧ L * n / d < pw 96 := by
  have p1 : L < pw 96 := Nat.lt_of_le_of_lt hL most_pw
  have p2 : n < pw 96 := Nat.lt_of_lt_of_le (show n < pw 2 by unfold pw; omega) (pw_le (by omega))
  have p3 : d < pw 96 := Nat.lt_of_lt_of_le (show d < pw 2 by unfold pw; omega) (pw_le (by omega))
  have p4 : L * n < pw 96 := Nat.lt_of_lt_of_le (mul_lt_pw (i := 5) (j := 2) (Nat.lt_of_le_of_lt hL (show mostN < pw 5 by decide)) (show n < pw 2 by unfold pw; omega)) (pw_le (by omega))
  exact ⟨p1, p2, p3, p4, Nat.lt_of_le_of_lt (Nat.div_le_self _ _) p4⟩

theorem times_yes {L n d : Nat} (h : L * n / d ≤ mostN) : limbs (timesN L n d) = limbs (L * n / d) := by unfold timesN; rw [Nat.min_eq_left h]
theorem times_no {L n d : Nat} (h : ¬ L * n / d ≤ mostN) : limbs (timesN L n d) = [0, 0, 0, 0, 1] := by unfold timesN; rw [Nat.min_eq_right (by omega), most_limbs]

theorem keep_one {w1 w2 w3 : World} {x i : Nat} {u : Value} (h : Below w1.heap.size w1 w2 ∧ w2.cell? ⟨x, i, none⟩ = some u)
    (hb : Below w2.heap.size w2 w3) (hx : x < w1.heap.size) : Below w1.heap.size w1 w3 ∧ w3.cell? ⟨x, i, none⟩ = some u := by
  obtain ⟨h0, h1⟩ := h
  have := h0.size
  exact ⟨h0.trans (hb.mono h0.size), cell_later hb h1 (by omega)⟩

set_option maxHeartbeats 2000000 in
theorem polTimes_any (w : World) {a : Option Addr} {m c L : Nat} (h : Rd .u32 w a m c (limbs L)) (hL : L ≤ mostN) (n d : Nat) (hn : n < 9223372036854775808) (hd : 0 < d) (hd' : d < 9223372036854775808) :
    Calls Try.prog 38 #[.slice a m c, .int .i64 (n : Nat), .int .i64 (d : Nat)] w (RetL1 w (limbs (timesN L n d))) := by
  obtain ⟨r, hr⟩ : ∃ r, r = limbs (timesN L n d) := ⟨_, rfl⟩
  rw [← hr]
  have F := Lib.hid (times_fit (n := n) (d := d) hL (by omega) hd (by omega))
  have HN := Lib.hid (show n < 18446744073709551616 by omega)
  have HD := Lib.hid (show d < 18446744073709551616 by omega)
  have HZ := Lib.hid hd
  have HR := Lib.hid hr
  have HL := Lib.hid hL
  clear hr hL hd
  go_enter Try.func38, Try.ntmps38
  go_wp2_with fail
  refine (Of_any _ n HN.out).mono ?_
  rintro e1 w1 ⟨a1, n1, c1, rfl, x1, b1⟩
  have B := b1
  have h := h.below b1
  go_wp2_with fail
  have cc := Mul_any _ h x1
  rw [mul_ok F.out.1 F.out.2.1 F.out.2.2.2.1] at cc
  refine cc.mono ?_
  rintro e1 w2 ⟨a2, n2, c2, rfl, x2, b2⟩
  have B := B.trans (b2.mono B.size)
  clear cc h x1 b1
  go_wp2_with fail
  refine (Of_any _ d HD.out).mono ?_
  rintro e1 w3 ⟨a3, n3, c3, rfl, x3, b3⟩
  have B := B.trans (b3.mono B.size)
  have x2 := x2.below b3
  clear b2 b3
  go_wp2_with fail
  have cc := Div_any _ x2 x3
  rw [div_ok F.out.2.2.2.1 F.out.2.2.1 HZ.out] at cc
  refine cc.mono ?_
  rintro e1 w4 ⟨a4, n4, c4, a5, n5, c5, rfl, x4, _, b4⟩
  have B := B.trans (b4.mono B.size)
  clear cc x2 x3 b4
  go_wp2_with fail
  refine (most_any _).mono ?_
  rintro e1 w5 ⟨a6, n6, c6, rfl, x6, b6⟩
  have B := B.trans (b6.mono B.size)
  have x4 := x4.below b6
  clear b6
  go_wp2_with fail
  have cc := atMost_any _ x4 x6
  rw [← most_limbs, leC_ok F.out.2.2.2.2 most_pw] at cc
  by_cases hc : L * n / d ≤ mostN
  · have e := Lib.hid (show r = limbs (L * n / d) by rw [HR.out, times_yes hc])
    rw [decide_eq_true hc] at cc
    clear hc
    refine cc.mono ?_
    rintro e1 w6 ⟨rfl, b7⟩
    have B := Lib.hid (B.trans (b7.mono B.size))
    have x4 := Lib.hid (x4.below b7)
    clear cc x6 b7
    go_wp2_with fail
    go_ret
    exact ⟨_, _, _, rfl, by rw [e.out]; exact x4.out, B.out⟩
  · have e := Lib.hid (show r = [0, 0, 0, 0, 1] by rw [HR.out, times_no hc])
    rw [decide_eq_false hc] at cc
    clear hc
    refine cc.mono ?_
    rintro e1 w6 ⟨rfl, b7⟩
    have B := B.trans (b7.mono B.size)
    clear cc x6 b7 x4
    go_wp2_with fail
    refine (most_any _).mono ?_
    rintro e1 w7 ⟨a8, n8, c8, rfl, x8, b8⟩
    have B := Lib.hid (B.trans (b8.mono B.size))
    clear b8
    go_wp2_with fail
    go_ret
    exact ⟨_, _, _, rfl, by rw [e.out]; exact x8, B.out⟩

set_option maxHeartbeats 2000000 in
theorem refPolTimes_any (w : World) {a : Option Addr} {m c L : Nat} (h : Rd .u32 w a m c (limbs L)) (hL : L ≤ mostN) (n d : Nat) (hn : n < 18446744073709551616) (hd : 0 < d) (hd' : d < 18446744073709551616) :
    Calls Try.prog 51 #[.slice a m c, .int .u64 (n : Nat), .int .u64 (d : Nat)] w (RetL1 w (limbs (timesN L n d))) := by
  obtain ⟨r, hr⟩ : ∃ r, r = limbs (timesN L n d) := ⟨_, rfl⟩
  rw [← hr]
  have F := Lib.hid (times_fit (n := n) (d := d) hL (by omega) hd (by omega))
  have HN := Lib.hid (show n < 18446744073709551616 by omega)
  have HD := Lib.hid (show d < 18446744073709551616 by omega)
  have HZ := Lib.hid hd
  have HR := Lib.hid hr
  have HL := Lib.hid hL
  clear hr hL hd
  go_enter Try.func51, Try.ntmps51
  go_wp2_with fail
  refine (refOf_any _ n HN.out).mono ?_
  rintro e1 w1 ⟨a1, n1, c1, rfl, x1, b1⟩
  have B := b1
  have h := h.below b1
  go_wp2_with fail
  have cc := refMul_any _ h x1
  rw [mul_ok F.out.1 F.out.2.1 F.out.2.2.2.1] at cc
  refine cc.mono ?_
  rintro e1 w2 ⟨a2, n2, c2, rfl, x2, b2⟩
  have B := B.trans (b2.mono B.size)
  clear cc h x1 b1
  go_wp2_with fail
  refine (refOf_any _ d HD.out).mono ?_
  rintro e1 w3 ⟨a3, n3, c3, rfl, x3, b3⟩
  have B := B.trans (b3.mono B.size)
  have x2 := x2.below b3
  clear b2 b3
  go_wp2_with fail
  have cc := refDiv_any _ x2 x3
  rw [div_ok F.out.2.2.2.1 F.out.2.2.1 HZ.out] at cc
  refine cc.mono ?_
  rintro e1 w4 ⟨a4, n4, c4, a5, n5, c5, rfl, x4, _, b4⟩
  have B := B.trans (b4.mono B.size)
  clear cc x2 x3 b4
  go_wp2_with fail
  refine (refMost_any _).mono ?_
  rintro e1 w5 ⟨a6, n6, c6, rfl, x6, b6⟩
  have B := B.trans (b6.mono B.size)
  have x4 := x4.below b6
  clear b6
  go_wp2_with fail
  have cc := refAtMost_any _ x4 x6
  rw [← most_limbs, leC_ok F.out.2.2.2.2 most_pw] at cc
  by_cases hc : L * n / d ≤ mostN
  · have e := Lib.hid (show r = limbs (L * n / d) by rw [HR.out, times_yes hc])
    rw [decide_eq_true hc] at cc
    clear hc
    refine cc.mono ?_
    rintro e1 w6 ⟨rfl, b7⟩
    have B := Lib.hid (B.trans (b7.mono B.size))
    have x4 := Lib.hid (x4.below b7)
    clear cc x6 b7
    go_wp2_with fail
    go_ret
    exact ⟨_, _, _, rfl, by rw [e.out]; exact x4.out, B.out⟩
  · have e := Lib.hid (show r = [0, 0, 0, 0, 1] by rw [HR.out, times_no hc])
    rw [decide_eq_false hc] at cc
    clear hc
    refine cc.mono ?_
    rintro e1 w6 ⟨rfl, b7⟩
    have B := B.trans (b7.mono B.size)
    clear cc x6 b7 x4
    go_wp2_with fail
    refine (refMost_any _).mono ?_
    rintro e1 w7 ⟨a8, n8, c8, rfl, x8, b8⟩
    have B := Lib.hid (B.trans (b8.mono B.size))
    clear b8
    go_wp2_with fail
    go_ret
    exact ⟨_, _, _, rfl, by rw [e.out]; exact x8, B.out⟩

set_option maxRecDepth 100000 in
set_option maxHeartbeats 4000000 in
theorem sure_any (w : World) {g : Bool} {a b e : Option Addr} {n m l c d k : Nat} {bs xs ys : List Nat} (h0 : Rd .u32 w e l k bs) (h1 : Rd .u32 w a n c xs) (h2 : Rd .u32 w b m d ys) :
    Calls Try.prog 41 #[.slice e l k, ratV g a n c b m d] w (RetBB w (sureC bs xs ys)) := by
  obtain ⟨r, hr⟩ : ∃ r, r = sureC bs xs ys := ⟨_, rfl⟩
  rw [← hr]
  have L1 := Has.new w #[.bool g, .slice a n c, .slice b m d] 33
  have k1 := L1.cell 1 _ rfl
  obtain ⟨x, hx⟩ : ∃ x, x = mulC bs xs := ⟨_, rfl⟩
  obtain ⟨y, hy⟩ : ∃ y, y = mulC [0, 0, 1] ys := ⟨_, rfl⟩
  have HR := Lib.hid (show r = leC y.1 x.1 by rw [hr, sureC, hx, hy])
  have HX := Lib.hid hx
  have HY := Lib.hid hy
  clear hr hx hy
  go_enter Try.func41, Try.ntmps41
  go_wp2_with fail
  have cc := Mul_any _ (h0.below L1.below) (h1.below L1.below)
  rw [← HX.out] at cc
  refine cc.mono ?_
  rintro e1 w1 ⟨a1, n1, c1, rfl, x1, b1⟩
  clear cc
  have LL := L1.later b1
  have k2 := LL.cell 2 _ rfl
  have q2 := h2.below LL.below
  have r2 := fun w' (hb : Below w1.heap.size w1 w') => q2.below hb
  clear L1 k1 b1
  have M1 := fun w' (hb : Below w1.heap.size w1 w') a9 n9 c9 (x9 : Rd .u32 w' a9 n9 c9 [0, 0, 1]) => Mul_any w' x9 (r2 w' hb)
  simp only [← HY.out] at M1
  go_wp2_with fail
  have hB := (Below.refl w1.heap.size w1).drew
  have lt := LL.lt
  go_region_held3 (fun w' => Below w1.heap.size w1 w' ∧ w'.cell? ⟨w.heap.size, 2, none⟩ = some (.slice b m d))
    (first | (refine ⟨?_, ?_⟩ <;> first | assumption | exact (Below.refl _ _).drew | (simp only [World.cell?_drew]; assumption) | (simp [*]; done)) | exact keep_one ‹_› ‹_› (by omega) | fail "keep")
    (first
      | (go_at_call 36; (with_reducible refine (one_any _).mono ?_); rintro e2 w2 ⟨a9, n9, c9, rfl, x9, hb2⟩; have hB := Below.trans hB (hb2.mono hB.size))
      | (go_at_call 62; (with_reducible refine (M1 _ hB _ _ _ x9).mono ?_); rintro e2 w2 ⟨a8, n8, c8, rfl, x8, hb2⟩; have hB := Below.trans hB (hb2.mono hB.size))
      | fail "arm")
  have x1 := x1.below hB
  have hB := Lib.hid (LL.below.trans (hB.mono LL.below.size))
  clear r2 M1 q2
  go_wp2_with fail
  have cc := atMost_any _ x8 x1
  rw [← HR.out] at cc
  refine cc.mono ?_
  rintro e1 w3 ⟨rfl, b7⟩
  have hB := Lib.hid (hB.out.trans (b7.mono hB.out.size))
  clear cc b7
  go_wp2_with fail
  go_ret
  exact ⟨rfl, hB.out⟩

set_option maxRecDepth 100000 in
set_option maxHeartbeats 4000000 in
theorem reached_any (w : World) {g : Bool} {a b e : Option Addr} {n m l c d k : Nat} {bs xs ys : List Nat} (h0 : Rd .u32 w e l k bs) (h1 : Rd .u32 w a n c xs) (h2 : Rd .u32 w b m d ys) :
    Calls Try.prog 52 #[.slice e l k, ratV g a n c b m d] w (RetBB w (sureC bs xs ys)) := by
  obtain ⟨r, hr⟩ : ∃ r, r = sureC bs xs ys := ⟨_, rfl⟩
  rw [← hr]
  have L1 := Has.new w #[.bool g, .slice a n c, .slice b m d] 33
  have k1 := L1.cell 1 _ rfl
  obtain ⟨x, hx⟩ : ∃ x, x = mulC bs xs := ⟨_, rfl⟩
  obtain ⟨y, hy⟩ : ∃ y, y = mulC [0, 0, 1] ys := ⟨_, rfl⟩
  have HR := Lib.hid (show r = leC y.1 x.1 by rw [hr, sureC, hx, hy])
  have HX := Lib.hid hx
  have HY := Lib.hid hy
  clear hr hx hy
  go_enter Try.func52, Try.ntmps52
  go_wp2_with fail
  have cc := refMul_any _ (h0.below L1.below) (h1.below L1.below)
  rw [← HX.out] at cc
  refine cc.mono ?_
  rintro e1 w1 ⟨a1, n1, c1, rfl, x1, b1⟩
  clear cc
  have LL := L1.later b1
  have k2 := LL.cell 2 _ rfl
  have q2 := h2.below LL.below
  have r2 := fun w' (hb : Below w1.heap.size w1 w') => q2.below hb
  clear L1 k1 b1
  have M1 := fun w' (hb : Below w1.heap.size w1 w') a9 n9 c9 (x9 : Rd .u32 w' a9 n9 c9 [0, 0, 1]) => refMul_any w' x9 (r2 w' hb)
  simp only [← HY.out] at M1
  go_wp2_with fail
  have hB := (Below.refl w1.heap.size w1).drew
  have lt := LL.lt
  go_region_held3 (fun w' => Below w1.heap.size w1 w' ∧ w'.cell? ⟨w.heap.size, 2, none⟩ = some (.slice b m d))
    (first | (refine ⟨?_, ?_⟩ <;> first | assumption | exact (Below.refl _ _).drew | (simp only [World.cell?_drew]; assumption) | (simp [*]; done)) | exact keep_one ‹_› ‹_› (by omega) | fail "keep")
    (first
      | (go_at_call 50; (with_reducible refine (refOne_any _).mono ?_); rintro e2 w2 ⟨a9, n9, c9, rfl, x9, hb2⟩; have hB := Below.trans hB (hb2.mono hB.size))
      | (go_at_call 31; (with_reducible refine (M1 _ hB _ _ _ x9).mono ?_); rintro e2 w2 ⟨a8, n8, c8, rfl, x8, hb2⟩; have hB := Below.trans hB (hb2.mono hB.size))
      | fail "arm")
  have x1 := x1.below hB
  have hB := Lib.hid (LL.below.trans (hB.mono LL.below.size))
  clear r2 M1 q2
  go_wp2_with fail
  have cc := refAtMost_any _ x8 x1
  rw [← HR.out] at cc
  refine cc.mono ?_
  rintro e1 w3 ⟨rfl, b7⟩
  have hB := Lib.hid (hB.out.trans (b7.mono hB.out.size))
  clear cc b7
  go_wp2_with fail
  go_ret
  exact ⟨rfl, hB.out⟩

end Go.Proofs.Ytkomdiblopdfiaa
/- CheckLimit and Confirmed of polling. -/
namespace Go.Proofs.Ytkomdiblopdfiaa
open Go.RowKit Go.Suf
set_option linter.unusedVariables false
set_option linter.unusedSimpArgs false

theorem limC_bad {x : QV} (h : chkV x ≠ 0) : limC x = 8 := by
  unfold limC
  rw [if_neg h]

theorem limC_arg {x : QV} (h : chkV x = 0) (h2 : ¬ (x.neg = false ∧ x.num.length ≠ 0 ∧ x.num.length ≤ 2 ∧ x.den.length ≤ 2 ∧ leC x.num x.den = true)) : limC x = 2 := by
  unfold limC
  rw [if_pos h, if_neg h2]

theorem limC_ok {x : QV} (h : chkV x = 0) (h2 : x.neg = false ∧ x.num.length ≠ 0 ∧ x.num.length ≤ 2 ∧ x.den.length ≤ 2 ∧ leC x.num x.den = true) : limC x = 0 := by
  unfold limC
  rw [if_pos h, if_pos h2]

theorem limC_three (x : QV) : limC x = 0 ∨ limC x = 8 ∨ limC x = 2 := by
  by_cases h : chkV x = 0
  · by_cases h2 : x.neg = false ∧ x.num.length ≠ 0 ∧ x.num.length ≤ 2 ∧ x.den.length ≤ 2 ∧ leC x.num x.den = true
    · exact .inl (limC_ok h h2)
    · exact .inr (.inr (limC_arg h h2))
  · exact .inr (.inl (limC_bad h))

set_option maxRecDepth 100000 in
set_option maxHeartbeats 4000000 in
theorem checkLimit_any (w : World) {g : Bool} {a b : Option Addr} {n m c d : Nat} {xs ys : List Nat} (h1 : Rd .u32 w a n c xs) (h2 : Rd .u32 w b m d ys) :
    Calls Try.prog 19 #[ratV g a n c b m d] w (RetIB w (limC ⟨g, xs, ys⟩)) := by
  obtain ⟨r, hr⟩ : ∃ r, r = limC ⟨g, xs, ys⟩ := ⟨_, rfl⟩
  rw [← hr]
  have L1 := Has.new w #[.bool g, .slice a n c, .slice b m d] 33
  have k0 := L1.cell 0 _ rfl
  have k1 := L1.cell 1 _ rfl
  have k2 := L1.cell 2 _ rfl
  have hl := h1.len
  have hm := h2.len
  by_cases hc : chkV ⟨g, xs, ys⟩ = 0
  case neg =>
    have e := Lib.hid (show r = 8 by rw [hr]; exact limC_bad hc)
    have C := Lib.hid ((chkV_two _).resolve_left hc)
    clear hr hc hl hm
    go_enter Try.func19, Try.ntmps19
    go_wp2_with fail
    have cc := ratCheck_any (neg := g) _ (h1.below L1.below) (h2.below L1.below)
    rw [C.out] at cc
    refine cc.mono ?_
    rintro e1 w1 ⟨rfl, hb⟩
    clear cc
    go_wp2_with fail
    go_ret
    exact ⟨by rw [e.out]; rfl, L1.below.trans (hb.mono L1.below.size)⟩
  case pos =>
  have C := Lib.hid hc
  have start : ∀ t, (g = true ∨ n = 0 ∨ 2 < n ∨ 2 < m ∨ (g = false ∧ n ≠ 0 ∧ n ≤ 2 ∧ m ≤ 2 ∧ leC xs ys = t)) → True := fun _ _ => trivial
  clear start
  by_cases u0 : g = true
  · have e := Lib.hid (show r = 2 by rw [hr]; exact limC_arg hc (fun h => by rw [u0] at h; simp at h))
    subst u0
    clear hr hc hl hm
    go_enter Try.func19, Try.ntmps19
    go_wp2_with fail
    have cc := ratCheck_any (neg := true) _ (h1.below L1.below) (h2.below L1.below)
    rw [C.out] at cc
    refine cc.mono ?_
    rintro e1 w1 ⟨rfl, hb⟩
    have L2 := L1.later hb
    have k0 := L2.cell 0 _ rfl
    clear cc
    go_wp2_with fail
    go_ret
    exact ⟨by rw [e.out]; rfl, L2.below⟩
  obtain rfl : g = false := by cases g <;> simp_all
  by_cases u1 : n = 0
  · have e := Lib.hid (show r = 2 by rw [hr]; exact limC_arg hc (fun h => h.2.1 (by rw [← u1, ← hl])))
    have d1 : ((n : Int) == 0) = true := by rw [beq_iff_eq]; omega
    subst u1
    clear hr hc hl hm u0
    go_enter Try.func19, Try.ntmps19
    go_wp2_with fail
    have cc := ratCheck_any (neg := false) _ (h1.below L1.below) (h2.below L1.below)
    rw [C.out] at cc
    refine cc.mono ?_
    rintro e1 w1 ⟨rfl, hb⟩
    have L2 := L1.later hb
    have k0 := L2.cell 0 _ rfl
    have k1 := L2.cell 1 _ rfl
    clear cc
    go_wp2_with fail
    go_ret
    exact ⟨by rw [e.out]; rfl, L2.below⟩
  have d1 : ((n : Int) == 0) = false := by rw [beq_eq_false_iff_ne]; omega
  by_cases u2 : 2 < n
  · have e := Lib.hid (show r = 2 by rw [hr]; exact limC_arg hc (fun h => by have := h.2.2.1; simp only at this; omega))
    have d2 : decide ((2 : Int) < (n : Int)) = true := decide_eq_true (by omega)
    clear hr hc hl hm u0 u1
    go_enter Try.func19, Try.ntmps19
    go_wp2_with fail
    have cc := ratCheck_any (neg := false) _ (h1.below L1.below) (h2.below L1.below)
    rw [C.out] at cc
    refine cc.mono ?_
    rintro e1 w1 ⟨rfl, hb⟩
    have L2 := L1.later hb
    have k0 := L2.cell 0 _ rfl
    have k1 := L2.cell 1 _ rfl
    clear cc
    go_wp2_with fail
    go_ret
    exact ⟨by rw [e.out]; rfl, L2.below⟩
  have d2 : decide ((2 : Int) < (n : Int)) = false := decide_eq_false (by omega)
  by_cases u3 : 2 < m
  · have e := Lib.hid (show r = 2 by rw [hr]; exact limC_arg hc (fun h => by have := h.2.2.2.1; simp only at this; omega))
    have d3 : decide ((2 : Int) < (m : Int)) = true := decide_eq_true (by omega)
    clear hr hc hl hm u0 u1
    go_enter Try.func19, Try.ntmps19
    go_wp2_with fail
    have cc := ratCheck_any (neg := false) _ (h1.below L1.below) (h2.below L1.below)
    rw [C.out] at cc
    refine cc.mono ?_
    rintro e1 w1 ⟨rfl, hb⟩
    have L2 := L1.later hb
    have k0 := L2.cell 0 _ rfl
    have k1 := L2.cell 1 _ rfl
    have k2 := L2.cell 2 _ rfl
    clear cc
    go_wp2_with fail
    go_ret
    exact ⟨by rw [e.out]; rfl, L2.below⟩
  have d3 : decide ((2 : Int) < (m : Int)) = false := decide_eq_false (by omega)
  have e : ∀ t, leC xs ys = t → Hid (r = if t = true then 0 else 2) := fun t ht => Lib.hid (by
    cases t
    · rw [hr]; exact limC_arg hc (fun h => by have := h.2.2.2.2; simp only at this; rw [ht] at this; simp at this)
    · rw [hr]; exact limC_ok hc ⟨rfl, by rw [hl]; exact u1, by rw [hl]; omega, by rw [hm]; omega, ht⟩)
  obtain ⟨t, ht⟩ : ∃ t, leC xs ys = t := ⟨_, rfl⟩
  have e := e t ht
  have HT := Lib.hid ht
  clear hr hc hl hm u0 u1 ht
  cases t
  all_goals
    go_enter Try.func19, Try.ntmps19
    go_wp2_with fail
    have cc := ratCheck_any (neg := false) _ (h1.below L1.below) (h2.below L1.below)
    rw [C.out] at cc
    refine cc.mono ?_
    rintro e1 w1 ⟨rfl, hb⟩
    have L2 := L1.later hb
    have k0 := L2.cell 0 _ rfl
    have k1 := L2.cell 1 _ rfl
    have k2 := L2.cell 2 _ rfl
    clear cc
    go_wp2_with fail
    have cc := atMost_any _ (h1.below L2.below) (h2.below L2.below)
    rw [HT.out] at cc
    refine cc.mono ?_
    rintro e1 w2 ⟨rfl, hb2⟩
    clear cc
    go_wp2_with fail
    go_ret
    exact ⟨by rw [e.out]; rfl, L2.below.trans (hb2.mono L2.below.size)⟩

def RetBE (w : World) (r : Bool × Int) : Ending → World → Prop := fun e w' => e = .returned (.tuple #[.bool r.1, .int .i64 r.2]) ∧ Below w.heap.size w w'

/-- A state and a limit, boxed one behind the other. -/
theorem pol_rat_boxes (w : World) (x y : Array Value) :
    Has w ((w.alloc (.cells x 25)).alloc (.cells y 33)) w.heap.size x ∧ Has w ((w.alloc (.cells x 25)).alloc (.cells y 33)) (w.heap.size + 1) y := by
  have s1 : (w.alloc (.cells x 25)).heap.size = w.heap.size + 1 := World.size_alloc _ _
  have h1 := Has.new w x 25
  have h2 := Has.new (w.alloc (.cells x 25)) y 33
  have h3 := h1.later h2.below
  rw [s1] at h2
  exact ⟨h3, h3.below, h2.cell, h2.lt⟩

theorem confC_bad {p : PV} {x : QV} (h : chkP p ≠ 0) : confC p x = (false, 8) := by unfold confC; rw [if_neg h]
theorem confC_lim {p : PV} {x : QV} (h : chkP p = 0) (h2 : limC x ≠ 0) : confC p x = (false, limC x) := by unfold confC; rw [if_pos h, if_neg h2]
theorem confC_ok {p : PV} {x : QV} (h : chkP p = 0) (h2 : limC x = 0) : confC p x = (sureC p.best x.num x.den, 0) := by unfold confC; rw [if_pos h, if_pos h2]

set_option maxRecDepth 100000 in
set_option maxHeartbeats 4000000 in
theorem confirmed_any (w : World) {q : PV} {a' b' : Option Addr} {n' m' c' d' : Nat} (q1 : Rd .u32 w a' n' c' q.lev) (q2 : Rd .u32 w b' m' d' q.best) (hw : PW q)
    {g : Bool} {a b : Option Addr} {n m c d : Nat} {xs ys : List Nat} (h1 : Rd .u32 w a n c xs) (h2 : Rd .u32 w b m d ys) :
    Calls Try.prog 14 #[polV q a' n' c' b' m' d', ratV g a n c b m d] w (RetBE w (confC q ⟨g, xs, ys⟩)) := by
  obtain ⟨r, hr⟩ : ∃ r, r = confC q ⟨g, xs, ys⟩ := ⟨_, rfl⟩
  rw [← hr]
  obtain ⟨L1, L2⟩ := pol_rat_boxes w (polC q a' n' c' b' m' d') #[.bool g, .slice a n c, .slice b m d]
  have k0 := L1.cell 0 _ rfl
  have k1 := L1.cell 1 _ rfl
  have k2 := L1.cell 2 _ rfl
  have k3 := L1.cell 3 _ rfl
  have k4 := L1.cell 4 _ rfl
  have k5 := L1.cell 5 _ rfl
  by_cases hc : chkP q = 0
  · by_cases hl : limC ⟨g, xs, ys⟩ = 0
    · have e := Lib.hid (show r = (sureC q.best xs ys, 0) by rw [hr]; exact confC_ok hc hl)
      obtain ⟨s, hs⟩ : ∃ s, s = sureC q.best xs ys := ⟨_, rfl⟩
      have HS := Lib.hid hs
      rw [← hs] at e
      have C1 := Lib.hid hc
      have C2 := Lib.hid hl
      clear hr hc hl hs
      go_enter Try.func14, Try.ntmps14
      go_wp2_with fail
      have cc := check_any _ (q1.below L1.below) (q2.below L1.below) hw
      rw [C1.out] at cc
      refine cc.mono ?_
      rintro e1 w1 ⟨rfl, hb⟩
      clear cc
      have L1 := L1.later hb
      have L2 := L2.later hb
      have k0 := L2.cell 0 _ rfl
      have k1 := L2.cell 1 _ rfl
      have k2 := L2.cell 2 _ rfl
      clear hb
      go_wp2_with fail
      have cc := checkLimit_any (g := g) _ (h1.below L1.below) (h2.below L1.below)
      rw [C2.out] at cc
      refine cc.mono ?_
      rintro e1 w2 ⟨rfl, hb⟩
      clear cc
      have L1 := L1.later hb
      have L2 := L2.later hb
      have k0 := L2.cell 0 _ rfl
      have k1 := L2.cell 1 _ rfl
      have k2 := L2.cell 2 _ rfl
      have k5 := L1.cell 5 _ rfl
      clear hb
      go_wp2_with fail
      have cc := sure_any (g := g) _ (q2.below L1.below) (h1.below L1.below) (h2.below L1.below)
      rw [← HS.out] at cc
      refine cc.mono ?_
      rintro e1 w3 ⟨rfl, hb⟩
      clear cc
      go_wp2_with fail
      go_ret2
      exact ⟨by rw [e.out]; rfl, L1.below.trans (hb.mono L1.below.size)⟩
    · have e := Lib.hid (show r = (false, limC ⟨g, xs, ys⟩) by rw [hr]; exact confC_lim hc hl)
      obtain ⟨s, hs⟩ : ∃ s, s = limC ⟨g, xs, ys⟩ := ⟨_, rfl⟩
      have HS := Lib.hid hs
      rw [← hs] at e hl
      have d1 : (s != 0) = true := by rw [bne_iff_ne]; exact hl
      have C1 := Lib.hid hc
      clear hr hc hl hs
      go_enter Try.func14, Try.ntmps14
      go_wp2_with fail
      have cc := check_any _ (q1.below L1.below) (q2.below L1.below) hw
      rw [C1.out] at cc
      refine cc.mono ?_
      rintro e1 w1 ⟨rfl, hb⟩
      clear cc
      have L1 := L1.later hb
      have L2 := L2.later hb
      have k0 := L2.cell 0 _ rfl
      have k1 := L2.cell 1 _ rfl
      have k2 := L2.cell 2 _ rfl
      clear hb
      go_wp2_with fail
      have cc := checkLimit_any (g := g) _ (h1.below L1.below) (h2.below L1.below)
      rw [← HS.out] at cc
      refine cc.mono ?_
      rintro e1 w2 ⟨rfl, hb⟩
      clear cc
      go_wp2_with fail
      go_ret2
      exact ⟨by rw [e.out]; rfl, L1.below.trans (hb.mono L1.below.size)⟩
  · have e := Lib.hid (show r = (false, 8) by rw [hr]; exact confC_bad hc)
    have C1 := Lib.hid ((chkP_two q).resolve_left hc)
    clear hr hc
    go_enter Try.func14, Try.ntmps14
    go_wp2_with fail
    have cc := check_any _ (q1.below L1.below) (q2.below L1.below) hw
    rw [C1.out] at cc
    refine cc.mono ?_
    rintro e1 w1 ⟨rfl, hb⟩
    clear cc
    go_wp2_with fail
    go_ret2
    exact ⟨by rw [e.out]; rfl, L1.below.trans (hb.mono L1.below.size)⟩

end Go.Proofs.Ytkomdiblopdfiaa
/- Observing: the state in a block of the call's own, one value after another. No program's walk here. -/
namespace Go.Proofs.Ytkomdiblopdfiaa
open Go.RowKit Go.Suf
set_option linter.unusedVariables false
set_option linter.unusedSimpArgs false

theorem PRow.set {t : TypeId} {w w1 : World} {k : Nat} {cs : Array Value} (h : PRow t w w1 k cs) (i : Nat) (v : Value) : PRow t w (w1.setCell ⟨k, i, none⟩ v) k (cs.setIfInBounds i v) :=
  ⟨h.below.setCell h.lo v, heap_setCell_same w1 k i cs t v h.row, h.lo, by have := h.lt; simpa [World.setCell] using this⟩

theorem PRow.other {t : TypeId} {w w1 : World} {k : Nat} {cs : Array Value} (h : PRow t w w1 k cs) {p : Addr} (hp : k ≠ p.block) (hl : w.heap.size ≤ p.block) (v : Value) : PRow t w (w1.setCell p v) k cs :=
  ⟨h.below.setCell hl v, by rw [Below.heap_setCell _ _ _ _ hp]; exact h.row, h.lo, by have := h.lt; simpa [World.setCell] using this⟩

theorem PRow.free {t : TypeId} {w w1 : World} {k : Nat} {cs : Array Value} (h : PRow t w w1 k cs) (i : Nat) : w1.frozen? ⟨k, i, none⟩ = false := frozen_of_row w1 k i _ t h.row

/-- What reads as numbers reads on where a cell of a state is stored. -/
theorem rd_setcell {w : World} {a : Option Addr} {n c k i : Nat} {xs : List Nat} (h : Rd .u32 w a n c xs) {cs : Array Value} {t : TypeId} {f : Nat × Nat} (hr : w.heap[k]? = some (.cells cs t f)) (hno : ∀ (i : Nat) (z : Int), cs[i]? ≠ some (.int .u32 z)) (v : Value) :
    Rd .u32 (w.setCell ⟨k, i, none⟩ v) a n c xs := by
  refine ⟨h.len, ⟨h.sl.le, h.sl.max, h.sl.nil, fun j u hv => ?_, h.sl.one⟩, h.bd⟩
  obtain ⟨b, off, e, hw⟩ := h.sl.cell j u hv
  refine ⟨b, off, e, ?_⟩
  by_cases hk : b = k
  · exfalso
    subst hk
    have hi : j < n := by
      have := h.len
      have h2 : j < (nums .u32 xs).length := by
        rcases Nat.lt_or_ge j (nums .u32 xs).length with h3 | h3
        · exact h3
        · rw [List.getElem?_eq_none h3] at hv
          simp at hv
      simp [nums] at h2
      omega
    obtain ⟨b', off', e', hw', _⟩ := h.cell j hi
    rw [e] at e'
    obtain ⟨rfl, rfl⟩ : b = b' ∧ off = off' := by
      injection e' with e'
      injection e' with e1 e2
      exact ⟨e1, e2⟩
    simp only [World.cell?, hr] at hw'
    exact hno _ _ hw'
  · rw [← hw]
    simp only [World.cell?, Below.heap_setCell _ _ _ _ (show b ≠ (⟨k, i, none⟩ : Addr).block from hk)]

theorem obsN_snoc {p q : PV} {vs : List Int} {k : Nat} (h : obsN p (vs.take k) = some q) (hk : k < vs.length) : obsN p (vs.take (k + 1)) = obs1 q (ith vs k) := by
  rw [List.take_add_one, List.getElem?_eq_getElem hk, obsN_append, h]
  show (obs1 q vs[k]).bind some = _
  rw [ith, List.getD, List.getElem?_eq_getElem hk]
  show (obs1 q vs[k]).bind some = obs1 q vs[k]
  cases obs1 q vs[k] <;> rfl

theorem obsN_fail {p : PV} {vs : List Int} {k : Nat} (h : obsN p (vs.take k) = none) : obsN p vs = none := by
  rw [← List.take_append_drop k vs, obsN_append, h]
  rfl

theorem obsC_bad {p : PV} {vs : List Int} (h : chkP p ≠ 0) : obsC p vs = (zeroP, 8) := by unfold obsC; rw [if_neg h]
theorem obsC_none {p : PV} {vs : List Int} (h : chkP p = 0) (h2 : obsN p vs = none) : obsC p vs = (zeroP, 2) := by unfold obsC; rw [if_pos h, h2]
theorem obsC_some {p q : PV} {vs : List Int} (h : chkP p = 0) (h2 : obsN p vs = some q) : obsC p vs = (q, 0) := by unfold obsC; rw [if_pos h, h2]

theorem obs1_out {q : PV} {v : Int} (h : v < 0 ∨ 2 < v ∨ 1000000 ≤ seenAt q v) : obs1 q v = none := by unfold obs1; rw [if_pos h]
theorem obs1_in {q : PV} {v : Int} (h : ¬ (v < 0 ∨ 2 < v ∨ 1000000 ≤ seenAt q v)) : obs1 q v = some (step q v) := by unfold obs1; rw [if_neg h]

/-- What holds in front of the k-th value: the state lies in block g0, the result's block g1 is still zero. -/
def ObI (w wr : World) (g0 g1 : Nat) (p : PV) (vs : List Int) (k : Nat) : Prop :=
  ∃ q L B a n c b m d, PRow 25 w wr g0 (polC q a n c b m d) ∧ PRow 25 w wr g1 zc ∧ Rd .u32 wr a n c (limbs L) ∧ Rd .u32 wr b m d (limbs B) ∧ obsN p (vs.take k) = some q ∧ Vld q L B

/-- The new level of a state. -/
def newL (q : PV) (v : Int) (L : Nat) : Nat := timesN L (factN q.bet v) 1000

theorem newL_le (q : PV) (v : Int) (L : Nat) : newL q v L ≤ mostN := Nat.min_le_right _ _

theorem step_up {q : PV} {L B : Nat} {v : Int} (h : Vld q L B) (hb : B ≤ newL q v L) : step q v = ⟨(bump q v).bet, (bump q v).s0, (bump q v).s1, (bump q v).s2, limbs (newL q v L), limbs (newL q v L)⟩ := by
  unfold step bump newL at *
  simp only [h.lev, h.best, val_limbs, Nat.max_eq_right hb]

theorem step_keep {q : PV} {L B : Nat} {v : Int} (h : Vld q L B) (hb : newL q v L ≤ B) : step q v = ⟨(bump q v).bet, (bump q v).s0, (bump q v).s1, (bump q v).s2, limbs (newL q v L), limbs B⟩ := by
  unfold step bump newL at *
  simp only [h.lev, h.best, val_limbs, Nat.max_eq_left hb]

end Go.Proofs.Ytkomdiblopdfiaa
