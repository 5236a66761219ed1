/- times and sure of polling, Times and Reached in its answer. -/
import Derived.Test.YtmkcdlhhbnakiaaPolPlain
import Derived.Test.YtmkcdlhhbnakiaaRatJ
namespace Go.Proofs.Ytmkcdlhhbnakiaa
open Go.RowKit Go.Suf
set_option linter.unusedVariables false
set_option linter.unusedSimpArgs false

theorem times_fit {L n d : Nat} (hL : L ≤ mostN) (hn : n < 18446744073709551616) (hd : 0 < d) (hd' : d < 18446744073709551616) :
    L < pw 96 ∧ n < pw 96 ∧ d < pw 96 ∧ L * n < pw 96 ∧ L * n / d < pw 96 := by
  have p1 : L < pw 96 := Nat.lt_of_le_of_lt hL most_pw
  have p2 : n < pw 96 := Nat.lt_of_lt_of_le (show n < pw 2 by unfold pw; omega) (pw_le (by omega))
  have p3 : d < pw 96 := Nat.lt_of_lt_of_le (show d < pw 2 by unfold pw; omega) (pw_le (by omega))
  have p4 : L * n < pw 96 := Nat.lt_of_lt_of_le (mul_lt_pw (i := 5) (j := 2) (Nat.lt_of_le_of_lt hL (show mostN < pw 5 by decide)) (show n < pw 2 by unfold pw; omega)) (pw_le (by omega))
  exact ⟨p1, p2, p3, p4, Nat.lt_of_le_of_lt (Nat.div_le_self _ _) p4⟩

theorem times_yes {L n d : Nat} (h : L * n / d ≤ mostN) : limbs (timesN L n d) = limbs (L * n / d) := by unfold timesN; rw [Nat.min_eq_left h]
theorem times_no {L n d : Nat} (h : ¬ L * n / d ≤ mostN) : limbs (timesN L n d) = [0, 0, 0, 0, 1] := by unfold timesN; rw [Nat.min_eq_right (by omega), most_limbs]

theorem keep_one {w1 w2 w3 : World} {x i : Nat} {u : Value} (h : Below w1.heap.size w1 w2 ∧ w2.cell? ⟨x, i, none⟩ = some u)
    (hb : Below w2.heap.size w2 w3) (hx : x < w1.heap.size) : Below w1.heap.size w1 w3 ∧ w3.cell? ⟨x, i, none⟩ = some u := by
  obtain ⟨h0, h1⟩ := h
  have := h0.size
  exact ⟨h0.trans (hb.mono h0.size), cell_later hb h1 (by omega)⟩

set_option maxHeartbeats 2000000 in
theorem refPolTimes_any (w : World) {a : Option Addr} {m c L : Nat} (h : Rd .u32 w a m c (limbs L)) (hL : L ≤ mostN) (n d : Nat) (hn : n < 18446744073709551616) (hd : 0 < d) (hd' : d < 18446744073709551616) :
    Calls Try.prog 16 #[.slice a m c, .int .u64 (n : Nat), .int .u64 (d : Nat)] w (RetL1 w (limbs (timesN L n d))) := by
  obtain ⟨r, hr⟩ : ∃ r, r = limbs (timesN L n d) := ⟨_, rfl⟩
  rw [← hr]
  have F := Lib.hid (times_fit (n := n) (d := d) hL (by omega) hd (by omega))
  have HN := Lib.hid (show n < 18446744073709551616 by omega)
  have HD := Lib.hid (show d < 18446744073709551616 by omega)
  have HZ := Lib.hid hd
  have HR := Lib.hid hr
  have HL := Lib.hid hL
  clear hr hL hd
  go_enter Try.func16, Try.ntmps16
  go_wp2_with fail
  refine (refOf_any _ n HN.out).mono ?_
  rintro e1 w1 ⟨a1, n1, c1, rfl, x1, b1⟩
  have B := b1
  have h := h.below b1
  go_wp2_with fail
  have cc := refMul_any _ h x1
  rw [mul_ok F.out.1 F.out.2.1 F.out.2.2.2.1] at cc
  refine cc.mono ?_
  rintro e1 w2 ⟨a2, n2, c2, rfl, x2, b2⟩
  have B := B.trans (b2.mono B.size)
  clear cc h x1 b1
  go_wp2_with fail
  refine (refOf_any _ d HD.out).mono ?_
  rintro e1 w3 ⟨a3, n3, c3, rfl, x3, b3⟩
  have B := B.trans (b3.mono B.size)
  have x2 := x2.below b3
  clear b2 b3
  go_wp2_with fail
  have cc := refDiv_any _ x2 x3
  rw [div_ok F.out.2.2.2.1 F.out.2.2.1 HZ.out] at cc
  refine cc.mono ?_
  rintro e1 w4 ⟨a4, n4, c4, a5, n5, c5, rfl, x4, _, b4⟩
  have B := B.trans (b4.mono B.size)
  clear cc x2 x3 b4
  go_wp2_with fail
  refine (refMost_any _).mono ?_
  rintro e1 w5 ⟨a6, n6, c6, rfl, x6, b6⟩
  have B := B.trans (b6.mono B.size)
  have x4 := x4.below b6
  clear b6
  go_wp2_with fail
  have cc := refAtMost_any _ x4 x6
  rw [← most_limbs, leC_ok F.out.2.2.2.2 most_pw] at cc
  by_cases hc : L * n / d ≤ mostN
  · have e := Lib.hid (show r = limbs (L * n / d) by rw [HR.out, times_yes hc])
    rw [decide_eq_true hc] at cc
    clear hc
    refine cc.mono ?_
    rintro e1 w6 ⟨rfl, b7⟩
    have B := Lib.hid (B.trans (b7.mono B.size))
    have x4 := Lib.hid (x4.below b7)
    clear cc x6 b7
    go_wp2_with fail
    go_ret
    exact ⟨_, _, _, rfl, by rw [e.out]; exact x4.out, B.out⟩
  · have e := Lib.hid (show r = [0, 0, 0, 0, 1] by rw [HR.out, times_no hc])
    rw [decide_eq_false hc] at cc
    clear hc
    refine cc.mono ?_
    rintro e1 w6 ⟨rfl, b7⟩
    have B := B.trans (b7.mono B.size)
    clear cc x6 b7 x4
    go_wp2_with fail
    refine (refMost_any _).mono ?_
    rintro e1 w7 ⟨a8, n8, c8, rfl, x8, b8⟩
    have B := Lib.hid (B.trans (b8.mono B.size))
    clear b8
    go_wp2_with fail
    go_ret
    exact ⟨_, _, _, rfl, by rw [e.out]; exact x8, B.out⟩

set_option maxRecDepth 100000 in
set_option maxHeartbeats 4000000 in
theorem reached_any (w : World) {g : Bool} {a b e : Option Addr} {n m l c d k : Nat} {bs xs ys : List Nat} (h0 : Rd .u32 w e l k bs) (h1 : Rd .u32 w a n c xs) (h2 : Rd .u32 w b m d ys) :
    Calls Try.prog 56 #[.slice e l k, ratV g a n c b m d] w (RetBB w (sureC bs xs ys)) := by
  obtain ⟨r, hr⟩ : ∃ r, r = sureC bs xs ys := ⟨_, rfl⟩
  rw [← hr]
  have L1 := Has.new w #[.bool g, .slice a n c, .slice b m d] 34
  have k1 := L1.cell 1 _ rfl
  obtain ⟨x, hx⟩ : ∃ x, x = mulC bs xs := ⟨_, rfl⟩
  obtain ⟨y, hy⟩ : ∃ y, y = mulC [0, 0, 1] ys := ⟨_, rfl⟩
  have HR := Lib.hid (show r = leC y.1 x.1 by rw [hr, sureC, hx, hy])
  have HX := Lib.hid hx
  have HY := Lib.hid hy
  clear hr hx hy
  go_enter Try.func56, Try.ntmps56
  go_wp2_with fail
  have cc := refMul_any _ (h0.below L1.below) (h1.below L1.below)
  rw [← HX.out] at cc
  refine cc.mono ?_
  rintro e1 w1 ⟨a1, n1, c1, rfl, x1, b1⟩
  clear cc
  have LL := L1.later b1
  have k2 := LL.cell 2 _ rfl
  have q2 := h2.below LL.below
  have r2 := fun w' (hb : Below w1.heap.size w1 w') => q2.below hb
  clear L1 k1 b1
  have M1 := fun w' (hb : Below w1.heap.size w1 w') a9 n9 c9 (x9 : Rd .u32 w' a9 n9 c9 [0, 0, 1]) => refMul_any w' x9 (r2 w' hb)
  simp only [← HY.out] at M1
  go_wp2_with fail
  have hB := (Below.refl w1.heap.size w1).drew
  have lt := LL.lt
  go_region_held3 (fun w' => Below w1.heap.size w1 w' ∧ w'.cell? ⟨w.heap.size, 2, none⟩ = some (.slice b m d))
    (first | (refine ⟨?_, ?_⟩ <;> first | assumption | exact (Below.refl _ _).drew | (simp only [World.cell?_drew]; assumption) | (simp [*]; done)) | exact keep_one ‹_› ‹_› (by omega) | fail "keep")
    (first
      | (go_at_call 17; (with_reducible refine (refOne_any _).mono ?_); rintro e2 w2 ⟨a9, n9, c9, rfl, x9, hb2⟩; have hB := Below.trans hB (hb2.mono hB.size))
      | (go_at_call 26; (with_reducible refine (M1 _ hB _ _ _ x9).mono ?_); rintro e2 w2 ⟨a8, n8, c8, rfl, x8, hb2⟩; have hB := Below.trans hB (hb2.mono hB.size))
      | fail "arm")
  have x1 := x1.below hB
  have hB := Lib.hid (LL.below.trans (hB.mono LL.below.size))
  clear r2 M1 q2
  go_wp2_with fail
  have cc := refAtMost_any _ x8 x1
  rw [← HR.out] at cc
  refine cc.mono ?_
  rintro e1 w3 ⟨rfl, b7⟩
  have hB := Lib.hid (hB.out.trans (b7.mono hB.out.size))
  clear cc b7
  go_wp2_with fail
  go_ret
  exact ⟨rfl, hB.out⟩

end Go.Proofs.Ytmkcdlhhbnakiaa
/- CheckLimit and Confirmed of polling. -/
namespace Go.Proofs.Ytmkcdlhhbnakiaa
open Go.RowKit Go.Suf
set_option linter.unusedVariables false
set_option linter.unusedSimpArgs false

theorem limC_bad {x : QV} (h : chkV x ≠ 0) : limC x = 8 := by
  unfold limC
  rw [if_neg h]

theorem limC_arg {x : QV} (h : chkV x = 0) (h2 : ¬ (x.neg = false ∧ x.num.length ≠ 0 ∧ x.num.length ≤ 2 ∧ x.den.length ≤ 2 ∧ leC x.num x.den = true)) : limC x = 2 := by
  unfold limC
  rw [if_pos h, if_neg h2]

theorem limC_ok {x : QV} (h : chkV x = 0) (h2 : x.neg = false ∧ x.num.length ≠ 0 ∧ x.num.length ≤ 2 ∧ x.den.length ≤ 2 ∧ leC x.num x.den = true) : limC x = 0 := by
  unfold limC
  rw [if_pos h, if_pos h2]

theorem limC_three (x : QV) : limC x = 0 ∨ limC x = 8 ∨ limC x = 2 := by
  by_cases h : chkV x = 0
  · by_cases h2 : x.neg = false ∧ x.num.length ≠ 0 ∧ x.num.length ≤ 2 ∧ x.den.length ≤ 2 ∧ leC x.num x.den = true
    · exact .inl (limC_ok h h2)
    · exact .inr (.inr (limC_arg h h2))
  · exact .inr (.inl (limC_bad h))

set_option maxRecDepth 100000 in
set_option maxHeartbeats 4000000 in
theorem checkLimit_any (w : World) {g : Bool} {a b : Option Addr} {n m c d : Nat} {xs ys : List Nat} (h1 : Rd .u32 w a n c xs) (h2 : Rd .u32 w b m d ys) :
    Calls Try.prog 43 #[ratV g a n c b m d] w (RetIB w (limC ⟨g, xs, ys⟩)) := by
  obtain ⟨r, hr⟩ : ∃ r, r = limC ⟨g, xs, ys⟩ := ⟨_, rfl⟩
  rw [← hr]
  have L1 := Has.new w #[.bool g, .slice a n c, .slice b m d] 34
  have k0 := L1.cell 0 _ rfl
  have k1 := L1.cell 1 _ rfl
  have k2 := L1.cell 2 _ rfl
  have hl := h1.len
  have hm := h2.len
  by_cases hc : chkV ⟨g, xs, ys⟩ = 0
  case neg =>
    have e := Lib.hid (show r = 8 by rw [hr]; exact limC_bad hc)
    have C := Lib.hid ((chkV_two _).resolve_left hc)
    clear hr hc hl hm
    go_enter Try.func43, Try.ntmps43
    go_wp2_with fail
    have cc := ratCheck_any (neg := g) _ (h1.below L1.below) (h2.below L1.below)
    rw [C.out] at cc
    refine cc.mono ?_
    rintro e1 w1 ⟨rfl, hb⟩
    clear cc
    go_wp2_with fail
    go_ret
    exact ⟨by rw [e.out]; rfl, L1.below.trans (hb.mono L1.below.size)⟩
  case pos =>
  have C := Lib.hid hc
  have start : ∀ t, (g = true ∨ n = 0 ∨ 2 < n ∨ 2 < m ∨ (g = false ∧ n ≠ 0 ∧ n ≤ 2 ∧ m ≤ 2 ∧ leC xs ys = t)) → True := fun _ _ => trivial
  clear start
  by_cases u0 : g = true
  · have e := Lib.hid (show r = 2 by rw [hr]; exact limC_arg hc (fun h => by rw [u0] at h; simp at h))
    subst u0
    clear hr hc hl hm
    go_enter Try.func43, Try.ntmps43
    go_wp2_with fail
    have cc := ratCheck_any (neg := true) _ (h1.below L1.below) (h2.below L1.below)
    rw [C.out] at cc
    refine cc.mono ?_
    rintro e1 w1 ⟨rfl, hb⟩
    have L2 := L1.later hb
    have k0 := L2.cell 0 _ rfl
    clear cc
    go_wp2_with fail
    go_ret
    exact ⟨by rw [e.out]; rfl, L2.below⟩
  obtain rfl : g = false := by cases g <;> simp_all
  by_cases u1 : n = 0
  · have e := Lib.hid (show r = 2 by rw [hr]; exact limC_arg hc (fun h => h.2.1 (by rw [← u1, ← hl])))
    have d1 : ((n : Int) == 0) = true := by rw [beq_iff_eq]; omega
    subst u1
    clear hr hc hl hm u0
    go_enter Try.func43, Try.ntmps43
    go_wp2_with fail
    have cc := ratCheck_any (neg := false) _ (h1.below L1.below) (h2.below L1.below)
    rw [C.out] at cc
    refine cc.mono ?_
    rintro e1 w1 ⟨rfl, hb⟩
    have L2 := L1.later hb
    have k0 := L2.cell 0 _ rfl
    have k1 := L2.cell 1 _ rfl
    clear cc
    go_wp2_with fail
    go_ret
    exact ⟨by rw [e.out]; rfl, L2.below⟩
  have d1 : ((n : Int) == 0) = false := by rw [beq_eq_false_iff_ne]; omega
  by_cases u2 : 2 < n
  · have e := Lib.hid (show r = 2 by rw [hr]; exact limC_arg hc (fun h => by have := h.2.2.1; simp only at this; omega))
    have d2 : decide ((2 : Int) < (n : Int)) = true := decide_eq_true (by omega)
    clear hr hc hl hm u0 u1
    go_enter Try.func43, Try.ntmps43
    go_wp2_with fail
    have cc := ratCheck_any (neg := false) _ (h1.below L1.below) (h2.below L1.below)
    rw [C.out] at cc
    refine cc.mono ?_
    rintro e1 w1 ⟨rfl, hb⟩
    have L2 := L1.later hb
    have k0 := L2.cell 0 _ rfl
    have k1 := L2.cell 1 _ rfl
    clear cc
    go_wp2_with fail
    go_ret
    exact ⟨by rw [e.out]; rfl, L2.below⟩
  have d2 : decide ((2 : Int) < (n : Int)) = false := decide_eq_false (by omega)
  by_cases u3 : 2 < m
  · have e := Lib.hid (show r = 2 by rw [hr]; exact limC_arg hc (fun h => by have := h.2.2.2.1; simp only at this; omega))
    have d3 : decide ((2 : Int) < (m : Int)) = true := decide_eq_true (by omega)
    clear hr hc hl hm u0 u1
    go_enter Try.func43, Try.ntmps43
    go_wp2_with fail
    have cc := ratCheck_any (neg := false) _ (h1.below L1.below) (h2.below L1.below)
    rw [C.out] at cc
    refine cc.mono ?_
    rintro e1 w1 ⟨rfl, hb⟩
    have L2 := L1.later hb
    have k0 := L2.cell 0 _ rfl
    have k1 := L2.cell 1 _ rfl
    have k2 := L2.cell 2 _ rfl
    clear cc
    go_wp2_with fail
    go_ret
    exact ⟨by rw [e.out]; rfl, L2.below⟩
  have d3 : decide ((2 : Int) < (m : Int)) = false := decide_eq_false (by omega)
  have e : ∀ t, leC xs ys = t → Hid (r = if t = true then 0 else 2) := fun t ht => Lib.hid (by
    cases t
    · rw [hr]; exact limC_arg hc (fun h => by have := h.2.2.2.2; simp only at this; rw [ht] at this; simp at this)
    · rw [hr]; exact limC_ok hc ⟨rfl, by rw [hl]; exact u1, by rw [hl]; omega, by rw [hm]; omega, ht⟩)
  obtain ⟨t, ht⟩ : ∃ t, leC xs ys = t := ⟨_, rfl⟩
  have e := e t ht
  have HT := Lib.hid ht
  clear hr hc hl hm u0 u1 ht
  cases t
  all_goals
    go_enter Try.func43, Try.ntmps43
    go_wp2_with fail
    have cc := ratCheck_any (neg := false) _ (h1.below L1.below) (h2.below L1.below)
    rw [C.out] at cc
    refine cc.mono ?_
    rintro e1 w1 ⟨rfl, hb⟩
    have L2 := L1.later hb
    have k0 := L2.cell 0 _ rfl
    have k1 := L2.cell 1 _ rfl
    have k2 := L2.cell 2 _ rfl
    clear cc
    go_wp2_with fail
    have cc := atMost_any _ (h1.below L2.below) (h2.below L2.below)
    rw [HT.out] at cc
    refine cc.mono ?_
    rintro e1 w2 ⟨rfl, hb2⟩
    clear cc
    go_wp2_with fail
    go_ret
    exact ⟨by rw [e.out]; rfl, L2.below.trans (hb2.mono L2.below.size)⟩

def RetBE (w : World) (r : Bool × Int) : Ending → World → Prop := fun e w' => e = .returned (.tuple #[.bool r.1, .int .i64 r.2]) ∧ Below w.heap.size w w'

theorem confC_bad {p : PV} {x : QV} (h : chkP p ≠ 0) : confC p x = (false, 8) := by unfold confC; rw [if_neg h]
theorem confC_lim {p : PV} {x : QV} (h : chkP p = 0) (h2 : limC x ≠ 0) : confC p x = (false, limC x) := by unfold confC; rw [if_pos h, if_neg h2]
theorem confC_ok {p : PV} {x : QV} (h : chkP p = 0) (h2 : limC x = 0) : confC p x = (sureC p.best x.num x.den, 0) := by unfold confC; rw [if_pos h, if_pos h2]

end Go.Proofs.Ytmkcdlhhbnakiaa
/- CheckLimit and Confirmed in the document's answer. -/
namespace Go.Proofs.Ytmkcdlhhbnakiaa
open Go.RowKit Go.Suf
set_option linter.unusedVariables false
set_option linter.unusedSimpArgs false

theorem ofC_zero : (ofC 0 1).1 = ofQ 0 := by
  rw [ofC, if_neg (by decide)]
  show ofQ _ = ofQ _
  rw [show (((0 : Int) : Rat)) = 0 from rfl, Rat.div_def, Rat.zero_mul]

theorem ofC_one : (ofC 1 1).1 = ofQ 1 := by
  rw [ofC, if_neg (by decide)]
  show ofQ _ = ofQ _
  rw [show (((1 : Int) : Rat)) = 1 from rfl, Rat.div_def, Rat.mul_inv_cancel 1 (by decide)]

theorem fit_zero : fitQ 0 := ⟨pw_pos 96, Nat.lt_of_lt_of_le (by decide) (pw_le (show 1 ≤ 96 by decide))⟩
theorem fit_one : fitQ 1 := ⟨Nat.lt_of_lt_of_le (by decide) (pw_le (show 1 ≤ 96 by decide)), Nat.lt_of_lt_of_le (by decide) (pw_le (show 1 ≤ 96 by decide))⟩

theorem side_zero : sideQ 0 = 0 := rfl
theorem side_one : sideQ 1 = 1 := rfl

theorem cmp_zero {p : Rat} (h : fitQ p) : cmpV (ofQ p) (ofQ 0) = (sideQ p, 0) := by
  rw [cmpV, if_pos ⟨chkV_ofQ h, chkV_ofQ fit_zero⟩, toQ_ofQ, toQ_ofQ, cmpQ, if_neg (by rw [side_zero]; intro h; exact h.2.1 h.1), cmpR_side (by rw [side_zero]; exact (Decidable.em _).symm), side_zero]
  rcases sideQ_three p with h | h | h <;> rw [h] <;> rfl

theorem cmp_one' {p : Rat} (h : fitQ p) : cmpV (ofQ p) (ofQ 1) = (cmpR p 1, 0) := by
  rw [cmpV, if_pos ⟨chkV_ofQ h, chkV_ofQ fit_one⟩, toQ_ofQ, toQ_ofQ, cmpQ, if_neg]
  rintro ⟨_, _, h3⟩
  refine h3 ⟨?_, ?_⟩
  · show p.num.natAbs * 1 < _
    rw [Nat.mul_one]
    exact h.1
  · show 1 * p.den < _
    rw [Nat.one_mul]
    exact h.2

/-- The limit's check as the document's answer makes it. -/
theorem limC_cmp {p : Rat} (hf : fitQ p) : limC (ofQ p) = if 2 < (limbs p.num.natAbs).length ∨ 2 < (limbs p.den).length then 2 else if sideQ p ≤ 0 ∨ 0 < cmpR p 1 then 2 else 0 := by
  have hc := chkV_ofQ hf
  by_cases hl : 2 < (limbs p.num.natAbs).length ∨ 2 < (limbs p.den).length
  · rw [if_pos hl]
    refine limC_arg hc (fun h => ?_)
    have h3 : (limbs p.num.natAbs).length ≤ 2 := h.2.2.1
    have h4 : (limbs p.den).length ≤ 2 := h.2.2.2.1
    omega
  · rw [if_neg hl]
    rcases num_cases p with ⟨s, z⟩ | ⟨s, z, z'⟩ | ⟨s, z, z'⟩
    · rw [if_pos (.inl (by rw [s]; decide))]
      refine limC_arg hc (fun h => h.2.1 ?_)
      show (limbs p.num.natAbs).length = 0
      exact limbs_len_zero.2 (by rw [z]; rfl)
    · rw [if_pos (.inl (by rw [s]; decide))]
      refine limC_arg hc (fun h => ?_)
      have : decide (p.num < 0) = false := h.1
      rw [decide_eq_true z] at this
      simp at this
    · have hcm : cmpR p 1 = cmpN p.num.natAbs p.den := by
        rw [cmpR_cross (by rw [s]; rfl), s, Int.one_mul]
        show cmpN (p.num.natAbs * 1) (1 * p.den) = _
        rw [Nat.mul_one, Nat.one_mul]
      have hn0 : (limbs p.num.natAbs).length ≠ 0 := fun h => by
        have := limbs_len_zero.1 h
        omega
      have hle : leC (limbs p.num.natAbs) (limbs p.den) = decide (p.num.natAbs ≤ p.den) := leC_ok hf.1 hf.2
      by_cases hd : p.num.natAbs ≤ p.den
      · rw [if_neg]
        · refine limC_ok hc ⟨decide_eq_false (by omega), hn0, ?_, ?_, ?_⟩
          · show (limbs p.num.natAbs).length ≤ 2
            omega
          · show (limbs p.den).length ≤ 2
            omega
          · show leC (limbs p.num.natAbs) (limbs p.den) = true
            rw [hle]
            exact decide_eq_true hd
        · rw [s, hcm]
          unfold cmpN
          intro h
          rcases h with h | h
          · exact absurd h (by decide)
          · split at h
            · exact absurd h (by decide)
            · rw [if_neg (by omega)] at h
              exact absurd h (by decide)
      · rw [if_pos]
        · refine limC_arg hc (fun h => ?_)
          have h5 : leC (limbs p.num.natAbs) (limbs p.den) = true := h.2.2.2.2
          rw [hle] at h5
          exact hd (of_decide_eq_true h5)
        · right
          rw [hcm]
          unfold cmpN
          rw [if_neg (by omega), if_pos (by omega)]
          decide

set_option maxRecDepth 100000 in
set_option maxHeartbeats 4000000 in
theorem refCheckLimit_any (w : World) {g : Bool} {a b : Option Addr} {n m c d : Nat} {xs ys : List Nat} (h1 : Rd .u32 w a n c xs) (h2 : Rd .u32 w b m d ys) :
    Calls Try.prog 38 #[ratV g a n c b m d] w (RetIB w (limC ⟨g, xs, ys⟩)) := by
  obtain ⟨r, hr⟩ : ∃ r, r = limC ⟨g, xs, ys⟩ := ⟨_, rfl⟩
  rw [← hr]
  have L1 := Has.new w #[.bool g, .slice a n c, .slice b m d] 34
  have k0 := L1.cell 0 _ rfl
  have k1 := L1.cell 1 _ rfl
  have k2 := L1.cell 2 _ rfl
  have hl := h1.len
  have hm := h2.len
  by_cases hc : chkV ⟨g, xs, ys⟩ = 0
  case neg =>
    have e := Lib.hid (show r = 8 by rw [hr]; exact limC_bad hc)
    have C := Lib.hid ((chkV_two _).resolve_left hc)
    clear hr hc hl hm
    go_enter Try.func38, Try.ntmps38
    go_wp2_with fail
    have cc := refRatCheck_any (neg := g) _ (h1.below L1.below) (h2.below L1.below)
    rw [C.out] at cc
    refine cc.mono ?_
    rintro e1 w1 ⟨rfl, hb⟩
    clear cc
    go_wp2_with fail
    go_ret
    exact ⟨by rw [e.out]; rfl, L1.below.trans (hb.mono L1.below.size)⟩
  case pos =>
  have C := Lib.hid hc
  obtain ⟨p, e1, f1⟩ := chkV_get (x := ⟨g, xs, ys⟩) h1.bd h2.bd hc
  obtain ⟨s, hs⟩ : ∃ s, s = sideQ p := ⟨_, rfl⟩
  obtain ⟨v, hv⟩ : ∃ v, v = cmpR p 1 := ⟨_, rfl⟩
  have hr2 : r = if 2 < n ∨ 2 < m then 2 else if s ≤ 0 ∨ 0 < v then 2 else 0 := by
    rw [hr, e1, limC_cmp f1, hs, hv, ← hl, ← hm]
    unfold ofQ at e1
    injection e1 with e1 e3 e4
    rw [e3, e4]
  have Z0 := Lib.hid (show cmpV ⟨g, xs, ys⟩ (ofC 0 1).1 = (s, 0) by rw [e1, ofC_zero, hs]; exact cmp_zero f1)
  have Z1 := Lib.hid (show cmpV ⟨g, xs, ys⟩ (ofC 1 1).1 = (v, 0) by rw [e1, ofC_one, hv]; exact cmp_one' f1)
  obtain ⟨z, hz⟩ : ∃ z, z = (ofC 0 1).1 := ⟨_, rfl⟩
  obtain ⟨y, hy⟩ : ∃ y, y = (ofC 1 1).1 := ⟨_, rfl⟩
  have HZ := Lib.hid hz
  have HY := Lib.hid hy
  have HR := Lib.hid hr2
  clear hr hr2 e1 f1 hs hv hz hy hc hl hm
  have lens : (2 < n) ∨ (n ≤ 2 ∧ 2 < m) ∨ (n ≤ 2 ∧ m ≤ 2 ∧ s ≤ 0) ∨ (n ≤ 2 ∧ m ≤ 2 ∧ 0 < s ∧ 0 < v) ∨ (n ≤ 2 ∧ m ≤ 2 ∧ 0 < s ∧ v ≤ 0) := by omega
  have LE := Lib.hid lens
  clear lens
  go_enter Try.func38, Try.ntmps38
  go_wp2_with fail
  have cc := refRatCheck_any (neg := g) _ (h1.below L1.below) (h2.below L1.below)
  rw [C.out] at cc
  refine cc.mono ?_
  rintro e1 w1 ⟨rfl, hb⟩
  clear cc
  have L1 := L1.later hb
  clear hb k0 k1 k2
  go_wp2_with fail
  have cc := refWhole_any w1 0 (by decide) (by decide)
  rw [← HZ.out] at cc
  refine cc.mono ?_
  rintro e1 w2 ⟨a1, n1, c1, b1, m1, d1, rfl, x1, x2, hb⟩
  clear cc
  have L1 := L1.later hb
  have hA := below_al w2 (.cells #[.bool z.neg, .slice a1 n1 c1, .slice b1 m1 d1] 34)
  have L2 := Has.new w2 #[.bool z.neg, .slice a1 n1 c1, .slice b1 m1 d1] 34
  have L1 := L1.later hA
  have x1 := x1.below hA
  have x2 := x2.below hA
  clear hb hA
  go_wp2_with first | refine wpList_store_new rfl 34 _ _ rfl atRat _ _ _ rfl rfl rfl rfl (rat_one _ _ _ _ _ _ _) ?_
  have cc := refWhole_any (w2.alloc (.cells #[.bool z.neg, .slice a1 n1 c1, .slice b1 m1 d1] 34)) 1 (by decide) (by decide)
  rw [← HY.out] at cc
  refine cc.mono ?_
  rintro e1 w3 ⟨a3, n3, c3, b3, m3, d3, rfl, y1, y2, hb⟩
  clear cc
  have hA := below_al w3 (.cells #[.bool y.neg, .slice a3 n3 c3, .slice b3 m3 d3] 34)
  have L3 := Has.new w3 #[.bool y.neg, .slice a3 n3 c3, .slice b3 m3 d3] 34
  have L1 := (L1.later hb).later hA
  have L2 := (L2.later hb).later hA
  have x1 := (x1.below hb).below hA
  have x2 := (x2.below hb).below hA
  have y1 := y1.below hA
  have y2 := y2.below hA
  have k0 := L1.cell 0 _ rfl
  have k1 := L1.cell 1 _ rfl
  have k2 := L1.cell 2 _ rfl
  have k3 := L2.cell 0 _ rfl
  have k4 := L2.cell 1 _ rfl
  have k5 := L2.cell 2 _ rfl
  clear hb hA
  rcases LE.out with hh | hh | hh
  · have e := Lib.hid (show r = 2 by rw [HR.out, if_pos (by omega)])
    have d1 : decide ((2 : Int) < (n : Int)) = true := decide_eq_true (by omega)
    clear hh
    go_wp2_with first | refine wpList_store_new rfl 34 _ _ rfl atRat _ _ _ rfl rfl rfl rfl (rat_one _ _ _ _ _ _ _) ?_
    go_ret
    exact ⟨by rw [e.out]; rfl, L1.below⟩
  · have e := Lib.hid (show r = 2 by rw [HR.out, if_pos (by omega)])
    have d1 : decide ((2 : Int) < (n : Int)) = false := decide_eq_false (by omega)
    have d2 : decide ((2 : Int) < (m : Int)) = true := decide_eq_true (by omega)
    clear hh
    go_wp2_with first | refine wpList_store_new rfl 34 _ _ rfl atRat _ _ _ rfl rfl rfl rfl (rat_one _ _ _ _ _ _ _) ?_
    go_ret
    exact ⟨by rw [e.out]; rfl, L1.below⟩
  have d1 : decide ((2 : Int) < (n : Int)) = false := decide_eq_false (by omega)
  have d2 : decide ((2 : Int) < (m : Int)) = false := decide_eq_false (by omega)
  have HH := Lib.hid hh
  clear hh
  go_wp2_with first | refine wpList_store_new rfl 34 _ _ rfl atRat _ _ _ rfl rfl rfl rfl (rat_one _ _ _ _ _ _ _) ?_
  have cc := refRatCmp_any (g1 := g) (g2 := z.neg) _ (h1.below L1.below) (h2.below L1.below) x1 x2
  rw [show (⟨z.neg, z.num, z.den⟩ : QV) = z from rfl, HZ.out, Z0.out] at cc
  rw [← HZ.out] at cc
  refine cc.mono ?_
  rintro e1 w4 ⟨rfl, hb⟩
  clear cc
  have L1 := L1.later hb
  have L3 := L3.later hb
  have y1 := y1.below hb
  have y2 := y2.below hb
  clear k0 k1 k2 k3 k4 k5 hb
  have k0 := L1.cell 0 _ rfl
  have k1 := L1.cell 1 _ rfl
  have k2 := L1.cell 2 _ rfl
  have k3 := L3.cell 0 _ rfl
  have k4 := L3.cell 1 _ rfl
  have k5 := L3.cell 2 _ rfl
  go_wp2_with fail
  have cc := refRatCmp_any (g1 := g) (g2 := y.neg) _ (h1.below L1.below) (h2.below L1.below) y1 y2
  rw [show (⟨y.neg, y.num, y.den⟩ : QV) = y from rfl, HY.out, Z1.out] at cc
  rw [← HY.out] at cc
  refine cc.mono ?_
  rintro e1 w5 ⟨rfl, hb⟩
  clear cc
  have L1 := L1.later hb
  rcases HH.out with hh | hh | hh
  · have e := Lib.hid (show r = 2 by rw [HR.out, if_neg (by omega), if_pos (by omega)])
    have d3 : decide (s ≤ 0) = true := decide_eq_true (by omega)
    clear hh
    go_wp2_with fail
    go_ret
    exact ⟨by rw [e.out]; rfl, L1.below⟩
  · have e := Lib.hid (show r = 2 by rw [HR.out, if_neg (by omega), if_pos (by omega)])
    have d3 : decide (s ≤ 0) = false := decide_eq_false (by omega)
    have d4 : decide (0 < v) = true := decide_eq_true (by omega)
    clear hh
    go_wp2_with fail
    go_ret
    exact ⟨by rw [e.out]; rfl, L1.below⟩
  · have e := Lib.hid (show r = 0 by rw [HR.out, if_neg (by omega), if_neg (by omega)])
    have d3 : decide (s ≤ 0) = false := decide_eq_false (by omega)
    have d4 : decide (0 < v) = false := decide_eq_false (by omega)
    clear hh
    go_wp2_with fail
    go_ret
    exact ⟨by rw [e.out]; rfl, L1.below⟩

end Go.Proofs.Ytmkcdlhhbnakiaa
