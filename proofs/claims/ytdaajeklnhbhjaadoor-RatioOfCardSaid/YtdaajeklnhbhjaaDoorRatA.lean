/- A rational number in the program: what it reads as; Check, one, Lowest. No condition but that the slices read. -/
import Derived.Test.YtdaajeklnhbhjaaDoorNatV
namespace Go.Proofs.YtdaajeklnhbhjaaDoor
open Go.RowKit Go.Suf
set_option linter.unusedVariables false
set_option linter.unusedSimpArgs false

/-- The value of a rational number. -/
abbrev ratV (neg : Bool) (a : Option Addr) (n c : Nat) (b : Option Addr) (m d : Nat) : Value := .agg #[.bool neg, .slice a n c, .slice b m d]

theorem rat_one (neg : Bool) (a : Option Addr) (n c : Nat) (b : Option Addr) (m d : Nat) : ∀ u ∈ (#[.bool neg, .slice a n c, .slice b m d] : Array Value).toList, u.oneCell' = true := by
  intro u hu
  simp only [List.mem_cons, List.not_mem_nil, or_false] at hu
  rcases hu with rfl | rfl | rfl <;> rfl

theorem atRat : AT Tryd.prog 24 3 := ⟨⟨_, Tryd.underlying24, rfl⟩, by kernel_rfl⟩

theorem rat_cell (w : World) (cs : Array Value) (t : TypeId) (i : Nat) (v : Value) (h : cs[i]? = some v) : (w.alloc (.cells cs t)).cell? ⟨w.heap.size, i, none⟩ = some v := by
  simp only [World.cell?, heap_alloc_new, h]
  rfl

/-- The cells of a block that was laid, in a later world. -/
theorem cell_later {B i : Nat} {w w' : World} {k : Nat} {v : Value} (hb : Below B w w') (h : w.cell? ⟨k, i, none⟩ = some v) (hk : k < B) : w'.cell? ⟨k, i, none⟩ = some v := by
  rw [← h]
  simp only [World.cell?, hb.block k hk]

def RetIB (w : World) (c : Int) : Ending → World → Prop := fun e w' => e = .returned (.int .i64 c) ∧ Below w.heap.size w w'

theorem ratOne_any (w : World) : Calls Tryd.prog 29 #[] w fun e w' => e = .returned (.slice (some ⟨w.heap.size, 0, none⟩) 1 1) ∧ w' = w.alloc (.cells #[.int .u32 1] 47) := by
  go_enter Tryd.func29, Tryd.ntmps29
  go_wp2
  go_ret
  exact ⟨rfl, rfl⟩

theorem both_split {xs ys : List Nat} : bothC xs ys = 0 ↔ chk xs = 0 ∧ chk ys = 0 := by
  unfold bothC
  constructor
  · intro h
    split at h
    · exact ⟨by assumption, h⟩
    · rename_i h'
      exact absurd h h'
  · rintro ⟨h1, h2⟩
    rw [if_pos h1, h2]

theorem chk_cases (xs : List Nat) : chk xs = 0 ∨ ((chk xs == 0) = false) := by
  by_cases h : chk xs = 0
  · exact .inl h
  · exact .inr (by rw [beq_eq_false_iff_ne]; exact h)

/-- What holds in the world in which a rational number was boxed. -/
structure Box (w w1 : World) (neg : Bool) (a : Option Addr) (n c : Nat) (b : Option Addr) (m d : Nat) (k : Nat) : Prop where
  below : Below w.heap.size w w1
  at0 : w1.cell? ⟨k, 0, none⟩ = some (.bool neg)
  at1 : w1.cell? ⟨k, 1, none⟩ = some (.slice a n c)
  at2 : w1.cell? ⟨k, 2, none⟩ = some (.slice b m d)
  lt : k < w1.heap.size

theorem Box.new (w : World) (neg : Bool) (a : Option Addr) (n c : Nat) (b : Option Addr) (m d : Nat) :
    Box w (w.alloc (.cells #[.bool neg, .slice a n c, .slice b m d] 24)) neg a n c b m d w.heap.size :=
  ⟨(Below.refl _ _).alloc (Nat.le_refl _) _, rat_cell w _ _ 0 _ rfl, rat_cell w _ _ 1 _ rfl, rat_cell w _ _ 2 _ rfl, by rw [World.size_alloc]; omega⟩

theorem Box.later {w w1 w2 : World} {neg : Bool} {a : Option Addr} {n c : Nat} {b : Option Addr} {m d k : Nat} (h : Box w w1 neg a n c b m d k) (hb : Below w1.heap.size w1 w2) : Box w w2 neg a n c b m d k :=
  ⟨h.below.trans (hb.mono h.below.size), cell_later hb h.at0 h.lt, cell_later hb h.at1 h.lt, cell_later hb h.at2 h.lt, Nat.lt_of_lt_of_le h.lt hb.size⟩

theorem chkV_no {x : QV} (h : ¬ (bothC x.num x.den = 0 ∧ x.den.length ≠ 0 ∧ ¬ (x.neg = true ∧ x.num.length = 0) ∧ Nat.gcd (val x.num) (val x.den) = 1)) : chkV x = 8 := by
  unfold chkV
  rw [if_neg h]

theorem chkV_yes {x : QV} (h : bothC x.num x.den = 0 ∧ x.den.length ≠ 0 ∧ ¬ (x.neg = true ∧ x.num.length = 0) ∧ Nat.gcd (val x.num) (val x.den) = 1) : chkV x = 0 := by
  unfold chkV
  rw [if_pos h]

theorem limbs_one : limbs 1 = [1] := by
  rw [limbs_pos (by decide)]
  simp [limbs_zero]

theorem lit_one (w : World) : Rd .u32 (w.alloc (.cells #[.int .u32 1] 47)) (some ⟨w.heap.size, 0, none⟩) 1 1 (limbs 1) := by
  rw [limbs_one]
  exact rd_lit .u32 w [1] 47 1 rfl (by decide) (by intro y hy; simp at hy; subst hy; decide)

set_option maxHeartbeats 1000000 in
theorem ratCheck_any (w : World) {neg : Bool} {a b : Option Addr} {n m c d : Nat} {xs ys : List Nat} (h : Rd .u32 w a n c xs) (h' : Rd .u32 w b m d ys) :
    Calls Tryd.prog 8 #[ratV neg a n c b m d] w (RetIB w (chkV ⟨neg, xs, ys⟩)) := by
  have B0 := Box.new w neg a n c b m d
  have hn := h.len
  have hm := h'.len
  obtain ⟨r, hr⟩ : ∃ r, r = chkV ⟨neg, xs, ys⟩ := ⟨_, rfl⟩
  rw [← hr]
  have HR := Lib.hid hr
  have r1 := h.below B0.below
  have r2 := h'.below B0.below
  obtain ⟨w1, hw1⟩ : ∃ w1, w1 = w.alloc (.cells #[.bool neg, .slice a n c, .slice b m d] 24) := ⟨_, rfl⟩
  have c0 := B0.at0
  have c1 := B0.at1
  have c2 := B0.at2
  by_cases h1 : chk xs = 0
  case neg =>
    have hk : (chk xs != 0) = true := by rw [bne_iff_ne]; exact h1
    have e := Lib.hid (show r = 8 by rw [hr]; exact chkV_no (fun hh => h1 (both_split.1 hh.1).1))
    obtain ⟨k, hkk⟩ : ∃ k, k = chk xs := ⟨_, rfl⟩
    rw [← hkk] at hk
    clear h1 hr
    go_enter Tryd.func8, Tryd.ntmps8
    go_wp2_with fail
    have cc := Check_any _ r1
    rw [← hkk] at cc
    refine cc.mono ?_
    rintro e1 w2 ⟨rfl, rfl⟩
    clear cc hkk
    go_wp2_with fail
    go_ret
    exact ⟨by rw [e.out]; rfl, B0.below⟩
  case pos =>
  by_cases h2 : chk ys = 0
  case neg =>
    have hk : (chk ys != 0) = true := by rw [bne_iff_ne]; exact h2
    have e := Lib.hid (show r = 8 by rw [hr]; exact chkV_no (fun hh => h2 (both_split.1 hh.1).2))
    obtain ⟨k, hkk⟩ : ∃ k, k = chk ys := ⟨_, rfl⟩
    rw [← hkk] at hk
    have H1 := Lib.hid h1
    clear h1 h2 hr
    go_enter Tryd.func8, Tryd.ntmps8
    go_wp2_with fail
    have cc := Check_any _ r1
    rw [H1.out] at cc
    refine cc.mono ?_
    rintro e1 w2 ⟨rfl, rfl⟩
    clear cc
    go_wp2_with fail
    have cc := Check_any _ r2
    rw [← hkk] at cc
    refine cc.mono ?_
    rintro e1 w2 ⟨rfl, rfl⟩
    clear cc hkk
    go_wp2_with fail
    go_ret
    exact ⟨by rw [e.out]; rfl, B0.below⟩
  case pos =>
  have H1 := Lib.hid h1
  have H2 := Lib.hid h2
  have hbad : (m = 0 ∨ (neg = true ∧ n = 0)) ∨ (m ≠ 0 ∧ ¬ (neg = true ∧ n = 0)) := by
    by_cases e1 : m = 0
    · exact .inl (.inl e1)
    · by_cases e2 : neg = true ∧ n = 0
      · exact .inl (.inr e2)
      · exact .inr ⟨e1, e2⟩
  rcases hbad with hbad | ⟨g1, g2⟩
  · have e := Lib.hid (show r = 8 by
      rw [hr]
      refine chkV_no (fun hh => ?_)
      rcases hbad with e1 | e1
      · exact hh.2.1 (hm.trans e1)
      · exact hh.2.2.1 ⟨e1.1, hn.trans e1.2⟩)
    clear h1 h2 hr
    have hcase : m = 0 ∨ (m ≠ 0 ∧ neg = true ∧ n = 0) := by
      by_cases e1 : m = 0
      · exact .inl e1
      · rcases hbad with e2 | e2
        · exact absurd e2 e1
        · exact .inr ⟨e1, e2⟩
    clear hbad
    rcases hcase with rfl | ⟨e1, rfl, rfl⟩
    · go_enter Tryd.func8, Tryd.ntmps8
      go_wp2_with fail
      have cc := Check_any _ r1
      rw [H1.out] at cc
      refine cc.mono ?_
      rintro e1 w2 ⟨rfl, rfl⟩
      clear cc
      go_wp2_with fail
      have cc := Check_any _ r2
      rw [H2.out] at cc
      refine cc.mono ?_
      rintro e1 w2 ⟨rfl, rfl⟩
      clear cc
      go_wp2_with fail
      go_ret
      exact ⟨by rw [e.out]; rfl, B0.below⟩
    · have hm0 : ((m : Int) == 0) = false := by rw [beq_eq_false_iff_ne]; omega
      go_enter Tryd.func8, Tryd.ntmps8
      go_wp2_with fail
      have cc := Check_any _ r1
      rw [H1.out] at cc
      refine cc.mono ?_
      rintro e1 w2 ⟨rfl, rfl⟩
      clear cc
      go_wp2_with fail
      have cc := Check_any _ r2
      rw [H2.out] at cc
      refine cc.mono ?_
      rintro e1 w2 ⟨rfl, rfl⟩
      clear cc
      go_wp2_with fail
      go_ret
      exact ⟨by rw [e.out]; rfl, B0.below⟩
  · have hb := Lib.hid (both_split.2 ⟨h1, h2⟩)
    have hm0 : ((m : Int) == 0) = false := by rw [beq_eq_false_iff_ne]; omega
    obtain ⟨g, hg⟩ : ∃ g, g = Nat.gcd (val xs) (val ys) := ⟨_, rfl⟩
    have HG := Lib.hid hg
    have hres := Lib.hid (show r = if g = 1 then 0 else 8 by
      rw [hr]
      by_cases e1 : g = 1
      · rw [if_pos e1]
        exact chkV_yes ⟨both_split.2 ⟨h1, h2⟩, by rw [hm]; exact g1, by rw [hn]; exact g2, by rw [← hg]; exact e1⟩
      · rw [if_neg e1]
        exact chkV_no (fun hh => e1 (by rw [hg]; exact hh.2.2.2)))
    have g3 : neg = false ∨ (neg = true ∧ ((n : Int) == 0) = false) := by
      cases neg
      · exact .inl rfl
      · right
        refine ⟨rfl, ?_⟩
        rw [beq_eq_false_iff_ne]
        intro e
        exact g2 ⟨rfl, by omega⟩
    clear h1 h2 hr hg g1 g2
    rcases g3 with rfl | ⟨rfl, hn0⟩
    all_goals
      go_enter Tryd.func8, Tryd.ntmps8
      go_wp2_with fail
      have cc := Check_any _ r1
      rw [H1.out] at cc
      refine cc.mono ?_
      rintro e1 w2 ⟨rfl, rfl⟩
      clear cc
      go_wp2_with fail
      have cc := Check_any _ r2
      rw [H2.out] at cc
      refine cc.mono ?_
      rintro e1 w2 ⟨rfl, rfl⟩
      clear cc
      go_wp2_with fail
      have cc := Gcd_any _ r1 r2
      rw [gcdC, if_pos hb.out, ← HG.out] at cc
      refine cc.mono ?_
      rintro e1 w2 ⟨ag, ng, cg, rfl, hg, hbg⟩
      clear cc
      have B2 := B0.later hbg
      go_wp2_with fail
      refine (ratOne_any _).mono ?_
      rintro e1 w3 ⟨rfl, rfl⟩
      have hbo : Below w2.heap.size w2 (w2.alloc (.cells #[.int .u32 1] 47)) := (Below.refl _ _).alloc (Nat.le_refl _) _
      have B3 := B2.later hbo
      have hg3 := hg.below hbo
      have ho3 := lit_one w2
      by_cases e1 : g = 1
      · have hs := Lib.hid (show r = 0 by rw [hres.out, if_pos e1])
        have hs2 := Lib.hid (show sameN (limbs g) (limbs 1) = true by rw [e1, same_self])
        clear e1
        go_wp2_with fail
        have cc := Same_any _ hg3 ho3
        rw [hs2.out] at cc
        refine cc.mono ?_
        rintro e1 w4 ⟨rfl, nq, rfl⟩
        clear cc
        go_wp2_with fail
        go_ret
        exact ⟨by rw [hs.out]; rfl, B3.below.trans ((below_drewN (Below.refl _ _) nq).mono B3.below.size)⟩
      · have hs := Lib.hid (show r = 8 by rw [hres.out, if_neg e1])
        have hs2 := Lib.hid (show sameN (limbs g) (limbs 1) = false by rw [same_ok]; exact decide_eq_false e1)
        clear e1
        go_wp2_with fail
        have cc := Same_any _ hg3 ho3
        rw [hs2.out] at cc
        refine cc.mono ?_
        rintro e1 w4 ⟨rfl, nq, rfl⟩
        clear cc
        go_wp2_with fail
        go_ret
        exact ⟨by rw [hs.out]; rfl, B3.below.trans ((below_drewN (Below.refl _ _) nq).mono B3.below.size)⟩

end Go.Proofs.YtdaajeklnhbhjaaDoor
/- Lowest terms in the program and in its answer; a result that lies in a block of its own. -/
namespace Go.Proofs.YtdaajeklnhbhjaaDoor
open Go.RowKit Go.Suf
set_option linter.unusedVariables false
set_option linter.unusedSimpArgs false

/-- The block k, laid since w, holds the cells cs. -/
structure Row (w w1 : World) (k : Nat) (cs : Array Value) : Prop where
  below : Below w.heap.size w w1
  row : w1.heap[k]? = some (.cells cs 24 (0, 0))
  lo : w.heap.size ≤ k
  lt : k < w1.heap.size

theorem Row.new (w : World) (cs : Array Value) : Row w (w.alloc (.cells cs 24)) w.heap.size cs :=
  ⟨(Below.refl _ _).alloc (Nat.le_refl _) _, heap_alloc_new w _, Nat.le_refl _, by rw [World.size_alloc]; omega⟩

theorem Row.later {w w1 w2 : World} {k : Nat} {cs : Array Value} (h : Row w w1 k cs) (hb : Below w1.heap.size w1 w2) : Row w w2 k cs :=
  ⟨h.below.trans (hb.mono h.below.size), by rw [hb.block k h.lt]; exact h.row, h.lo, Nat.lt_of_lt_of_le h.lt hb.size⟩

theorem below_row {B g : Nat} {w0 w : World} (hb : Below B w0 w) (hBg : B ≤ g) (cs : Array Value) : Below B w0 (w.setRow g cs) :=
  ⟨hb.os, hb.tape, hb.output, by rw [setRow_size]; exact hb.size, fun k hk => by rw [setRow_other _ _ _ _ (by omega)]; exact hb.block k hk⟩

/-- What reads as numbers lies in no block of a rational number. -/
theorem rd_rowset {w : World} {a : Option Addr} {n c k : Nat} {xs : List Nat} (h : Rd .u32 w a n c xs) {cs : Array Value} {t : TypeId} {f : Nat × Nat} (hr : w.heap[k]? = some (.cells cs t f)) (hno : ∀ (i : Nat) (z : Int), cs[i]? ≠ some (.int .u32 z)) (cs' : Array Value) :
    Rd .u32 (w.setRow k cs') a n c xs := by
  refine ⟨h.len, ⟨h.sl.le, h.sl.max, h.sl.nil, fun i v hv => ?_, h.sl.one⟩, h.bd⟩
  obtain ⟨b, off, e, hw⟩ := h.sl.cell i v hv
  refine ⟨b, off, e, ?_⟩
  by_cases hk : b = k
  · exfalso
    subst hk
    have hi : i < n := by
      have := h.len
      have h2 : i < (nums .u32 xs).length := by
        rcases Nat.lt_or_ge i (nums .u32 xs).length with h3 | h3
        · exact h3
        · rw [List.getElem?_eq_none h3] at hv
          simp at hv
      simp [nums] at h2
      omega
    obtain ⟨b', off', e', hw', _⟩ := h.cell i hi
    rw [e] at e'
    obtain ⟨rfl, rfl⟩ : b = b' ∧ off = off' := by
      injection e' with e'
      injection e' with e1 e2
      exact ⟨e1, e2⟩
    simp only [World.cell?, hr] at hw'
    exact hno _ _ hw'
  · rw [← hw]
    simp only [World.cell?, setRow_other _ _ _ _ hk]

theorem rat_noint (g : Bool) (a : Option Addr) (n c : Nat) (b : Option Addr) (m d : Nat) : ∀ (i : Nat) (z : Int), (#[.bool g, .slice a n c, .slice b m d] : Array Value)[i]? ≠ some (.int .u32 z) := by
  intro i z
  rcases i with _ | _ | _ | i <;> simp

/-- A rational number that is returned, and one with an error. -/
def RetQ (w : World) (x : QV) : Ending → World → Prop := fun e w' =>
  ∃ a n c b m d, e = .returned (ratV x.neg a n c b m d) ∧ Rd .u32 w' a n c x.num ∧ Rd .u32 w' b m d x.den ∧ Below w.heap.size w w'

def RetQE (w : World) (r : QV × Int) : Ending → World → Prop := fun e w' =>
  ∃ a n c b m d, e = .returned (.tuple #[ratV r.1.neg a n c b m d, .int .i64 r.2]) ∧ Rd .u32 w' a n c r.1.num ∧ Rd .u32 w' b m d r.1.den ∧ Below w.heap.size w w'

theorem gcd_lt {A B i : Nat} (hA : A < pw i) (hB : B < pw i) (h : B ≠ 0) : Nat.gcd A B < pw i := Nat.lt_of_le_of_lt (Nat.gcd_le_right A (by omega)) hB

set_option maxHeartbeats 1000000 in
theorem lowest_any (w : World) (neg : Bool) {a b : Option Addr} {n m c d : Nat} {N D : Nat} (h : Rd .u32 w a n c (limbs N)) (h' : Rd .u32 w b m d (limbs D)) (hN : N < pw 96) (hD : D < pw 96) (hz : D ≠ 0) :
    Calls Tryd.prog 9 #[.bool neg, .slice a n c, .slice b m d] w (RetQ w (lowV neg N D)) := by
  obtain ⟨g, hg⟩ : ∃ g, g = N.gcd D := ⟨_, rfl⟩
  have hgp : 0 < g := by rw [hg]; exact Nat.gcd_pos_of_pos_right _ (by omega)
  have hgl : g < pw 96 := by rw [hg]; exact gcd_lt hN hD hz
  obtain ⟨r, hr⟩ : ∃ r, r = lowV neg N D := ⟨_, rfl⟩
  rw [← hr]
  have HR := Lib.hid (show r = ⟨neg && decide (0 < N / g), limbs (N / g), limbs (D / g)⟩ by rw [hr, hg]; rfl)
  have HG := Lib.hid hg
  have R0 := Row.new w #[.bool false, .slice none 0 0, .slice none 0 0]
  have r1 := h.below R0.below
  have r2 := h'.below R0.below
  have HZ := Lib.hid hz
  clear hr hg hz
  go_enter Tryd.func9, Tryd.ntmps9
  go_wp2_with fail
  have cc := Gcd_any _ r1 r2
  rw [gcd_ok hN hD, ← HG.out] at cc
  refine cc.mono ?_
  rintro e1 w1 ⟨ag, ng, cg, rfl, hg, hb⟩
  clear cc
  have R1 := R0.later hb
  have r1 := r1.below hb
  have r2 := r2.below hb
  go_wp2_with fail
  have cc := Div_any _ r1 hg
  rw [div_ok hN hgl hgp] at cc
  refine cc.mono ?_
  rintro e1 w2 ⟨a1, n1, c1, a2, n2, c2, rfl, hq, _, hb⟩
  clear cc
  have R2 := R1.later hb
  have r2 := r2.below hb
  have hg := hg.below hb
  go_wp2_with fail
  have cc := Div_any _ r2 hg
  rw [div_ok hD hgl hgp] at cc
  refine cc.mono ?_
  rintro e1 w3 ⟨a3, n3, c3, a4, n4, c4, rfl, hp, _, hb⟩
  clear cc
  have R3 := R2.later hb
  have hq := hq.below hb
  have hlen := hq.len
  have hn1 : decide ((0 : Int) < (n1 : Int)) = decide (0 < N / g) := by
    rw [decide_eq_decide, ← hlen]
    generalize N / g = q
    have := @limbs_len_zero q
    omega
  obtain ⟨x, hx⟩ : ∃ x, x = (neg && decide (0 < N / g)) := ⟨_, rfl⟩
  have hx1 : (neg && decide ((0 : Int) < (n1 : Int))) = x := by rw [hn1, hx]
  have hx2 : neg = false → x = false := by rintro rfl; rw [hx]; rfl
  have hx3 : neg = true → decide ((0 : Int) < (n1 : Int)) = x := by rintro rfl; rw [hn1, hx]; rfl
  have HX := Lib.hid hx
  have HN := Lib.hid (show decide (0 < n1) = decide (0 < N / g) by rw [← hn1, decide_eq_decide]; omega)
  clear hx hn1 hlen
  have HB := Lib.hid (fun cs => below_row R3.below R3.lo cs)
  have row := R3.row
  have fin := Lib.hid (fun cs => (⟨rd_rowset hq row (rat_noint _ _ _ _ _ _ _) cs, rd_rowset hp row (rat_noint _ _ _ _ _ _ _) cs⟩ : _ ∧ _))
  cases neg
  · obtain rfl := hx2 rfl
    clear hx1 hx2 hx3
    go_wp2_with (refine wpList_store_whole rfl 24 _ _ rfl atRat _ _ _ row rfl rfl rfl rfl (rat_one _ _ _ _ _ _ _) ?_)
    refine bodyPost_ret (results_cell_row rfl _ _ _ _ _ _ _ rfl (setRow_heap _ _ _ _ _ _ row) Tryd.underlying24 rfl (by kernel_rfl)) rfl ?_
    refine ⟨a1, n1, c1, a3, n3, c3, by rw [HR.out]; rfl, ?_, ?_, HB.out _⟩
    · rw [HR.out]; exact (fin.out _).1
    · rw [HR.out]; exact (fin.out _).2
  · have hx3 := hx3 rfl
    clear hx1 hx2
    go_wp2_with (refine wpList_store_whole rfl 24 _ _ rfl atRat _ _ _ row rfl rfl rfl rfl (rat_one _ _ _ _ _ _ _) ?_)
    refine bodyPost_ret (results_cell_row rfl _ _ _ _ _ _ _ rfl (setRow_heap _ _ _ _ _ _ row) Tryd.underlying24 rfl (by kernel_rfl)) rfl ?_
    refine ⟨a1, n1, c1, a3, n3, c3, by
      rw [HR.out]
      show Ending.returned (.agg #[.bool (decide (0 < n1)), _, _]) = .returned (.agg #[.bool (true && decide (0 < N / g)), _, _])
      rw [HN.out, Bool.true_and], ?_, ?_, HB.out _⟩
    · rw [HR.out]; exact (fin.out _).1
    · rw [HR.out]; exact (fin.out _).2

end Go.Proofs.YtdaajeklnhbhjaaDoor
/- Rational numbers in the document's answer: Check, Lowest, far, Of, Whole, Same, side, both, Long. -/
namespace Go.Proofs.YtdaajeklnhbhjaaDoor
open Go.RowKit Go.Suf
set_option linter.unusedVariables false
set_option linter.unusedSimpArgs false

end Go.Proofs.YtdaajeklnhbhjaaDoor
/- Product and quotient in the program. -/
namespace Go.Proofs.YtdaajeklnhbhjaaDoor
open Go.RowKit Go.Suf
set_option linter.unusedVariables false
set_option linter.unusedSimpArgs false

/-- A block that holds cells, in a later world. -/
structure Has (w w1 : World) (k : Nat) (cs : Array Value) : Prop where
  below : Below w.heap.size w w1
  cell : ∀ i v, cs[i]? = some v → w1.cell? ⟨k, i, none⟩ = some v
  lt : k < w1.heap.size

theorem Has.new (w : World) (cs : Array Value) (t : TypeId) : Has w (w.alloc (.cells cs t)) w.heap.size cs :=
  ⟨(Below.refl _ _).alloc (Nat.le_refl _) _, fun i v h => rat_cell w cs t i v h, by rw [World.size_alloc]; omega⟩

theorem Has.later {w w1 w2 : World} {k : Nat} {cs : Array Value} (h : Has w w1 k cs) (hb : Below w1.heap.size w1 w2) : Has w w2 k cs :=
  ⟨h.below.trans (hb.mono h.below.size), fun i v hv => cell_later hb (h.cell i v hv) h.lt, Nat.lt_of_lt_of_le h.lt hb.size⟩

theorem Row.cell {w w1 : World} {k : Nat} {cs : Array Value} (h : Row w w1 k cs) (i : Nat) (v : Value) (hv : cs[i]? = some v) : w1.cell? ⟨k, i, none⟩ = some v := by
  simp only [World.cell?, h.row, hv]
  rfl

theorem results_cell_two {P : Program} {fn : Func} {p u : Tmp} {ty : TypeId} (h : fn.results = #[.cell p ty, .tmp u]) (tmps : Array Value) (w : World) (g : Nat) (t : TypeId) (cs : Array Value) (fr : Nat × Nat) (d : TypeDesc)
    (hp : tmps.getD p undef = .pointer (some ⟨g, 0, none⟩)) (hg : w.heap[g]? = some (.cells cs t fr))
    (hu : P.underlying ty = some d) (hd : (match d with | .struct _ | .array _ _ => true | _ => false) = true) (hi : (P.info? ty).map (·.size) = some cs.size) (v : Value) (hv : tmps.getD u undef = v) :
    (results fn tmps).run P w = .ok (.tuple #[.agg cs, v]) w := by
  have hp' : tmps[p]?.getD undef = .pointer (some ⟨g, 0, none⟩) := by simpa using hp
  have hv' : tmps[u]?.getD undef = v := by simpa using hv
  simp [results, h, hp', hv', asAddr, run_loadVar_row w g t ty cs fr d hg hu hd hi, Sem.run_bind, Result.andThen]

/-- A block for a rational number, laid behind another block. -/
theorem Row.second (w : World) (o : Obj) (cs : Array Value) : Row (w.alloc o) ((w.alloc o).alloc (.cells cs 24)) (w.heap.size + 1) cs := by
  have := Row.new (w.alloc o) cs
  rwa [World.size_alloc] at this

theorem below_al (w : World) (o : Obj) : Below w.heap.size w (w.alloc o) := (Below.refl _ _).alloc (Nat.le_refl _) _

/-- The product of two pairs of numbers. -/
def prodV (g1 g2 : Bool) (N1 D1 N2 D2 : Nat) : QV × Int := if N1 * N2 < pw 96 ∧ D1 * D2 < pw 96 then (lowV (g1 != g2) (N1 * N2) (D1 * D2), 0) else (zeroV, 30)

abbrev pairV (g1 : Bool) (a : Option Addr) (n c : Nat) (b : Option Addr) (m d : Nat) (g2 : Bool) (a' : Option Addr) (n' c' : Nat) (b' : Option Addr) (m' d' : Nat) : Value :=
  .agg #[.bool g1, .slice a n c, .slice b m d, .bool g2, .slice a' n' c', .slice b' m' d']

set_option maxHeartbeats 1000000 in
theorem product_any (w : World) (g1 g2 : Bool) {a b a' b' : Option Addr} {n m c d n' m' c' d' : Nat} {N1 D1 N2 D2 : Nat}
    (h1 : Rd .u32 w a n c (limbs N1)) (h2 : Rd .u32 w b m d (limbs D1)) (h3 : Rd .u32 w a' n' c' (limbs N2)) (h4 : Rd .u32 w b' m' d' (limbs D2))
    (l1 : N1 < pw 96) (l2 : D1 < pw 96) (l3 : N2 < pw 96) (l4 : D2 < pw 96) (z1 : D1 ≠ 0) (z2 : D2 ≠ 0) :
    Calls Tryd.prog 24 #[pairV g1 a n c b m d g2 a' n' c' b' m' d'] w (RetQE w (prodV g1 g2 N1 D1 N2 D2)) := by
  obtain ⟨r, hr⟩ : ∃ r, r = prodV g1 g2 N1 D1 N2 D2 := ⟨_, rfl⟩
  rw [← hr]
  have H0 := Has.new w #[.bool g1, .slice a n c, .slice b m d, .bool g2, .slice a' n' c', .slice b' m' d'] 49
  have R0 := Row.second w (.cells #[.bool g1, .slice a n c, .slice b m d, .bool g2, .slice a' n' c', .slice b' m' d'] 49) #[.bool false, .slice none 0 0, .slice none 0 0]
  have H1 := H0.later R0.below
  have r1 := h1.below H1.below
  have r2 := h2.below H1.below
  have r3 := h3.below H1.below
  have r4 := h4.below H1.below
  have k1 := H1.cell 1 _ rfl
  have k4 := H1.cell 4 _ rfl
  by_cases e1 : N1 * N2 < pw 96
  · by_cases e2 : D1 * D2 < pw 96
    · obtain ⟨x, hx⟩ : ∃ x, x = lowV (g1 != g2) (N1 * N2) (D1 * D2) := ⟨_, rfl⟩
      have hres := Lib.hid (show r = (x, 0) by rw [hr, prodV, if_pos ⟨e1, e2⟩, hx])
      have HX := Lib.hid hx
      have E1 := Lib.hid e1
      have E2 := Lib.hid e2
      have hz := Lib.hid (Nat.mul_ne_zero z1 z2)
      clear hr e1 e2 z1 z2 hx
      go_enter Tryd.func24, Tryd.ntmps24
      go_wp2_with fail
      have cc := Mul_any _ r1 r3
      rw [mul_limbs l1 l3, fit_limbs E1.out] at cc
      refine cc.mono ?_
      rintro e2 w1 ⟨ax, nx, cx, rfl, hx, hb⟩
      clear cc
      have R1 := R0.later hb
      have H2 := H1.later hb
      have r2 := r2.below hb
      have r4 := r4.below hb
      have k2 := H2.cell 2 _ rfl
      have k5 := H2.cell 5 _ rfl
      clear k1 k4 hb r1 r3
      go_wp2_with fail
      have cc := Mul_any _ r2 r4
      rw [mul_limbs l2 l4, fit_limbs E2.out] at cc
      refine cc.mono ?_
      rintro e2 w2 ⟨ay, ny, cy, rfl, hy, hb⟩
      clear cc
      have R2 := R1.later hb
      have H3 := H2.later hb
      have hx := hx.below hb
      have k0 := H3.cell 0 _ rfl
      have k3 := H3.cell 3 _ rfl
      clear k2 k5 hb r2 r4
      go_wp2_with fail
      have cc := lowest_any _ (g1 != g2) hx hy E1.out E2.out hz.out
      rw [← HX.out] at cc
      refine cc.mono ?_
      rintro e2 w3 ⟨ap, np, cp, aq, nq, cq, rfl, hp, hq, hb⟩
      clear cc
      have R3 := R2.later hb
      have row := R3.row
      have HB := Lib.hid (fun cs => H0.below.trans ((below_row R3.below R3.lo cs).mono (by rw [World.size_alloc]; omega)))
      have fin := Lib.hid (fun cs => (⟨rd_rowset hp row (rat_noint _ _ _ _ _ _ _) cs, rd_rowset hq row (rat_noint _ _ _ _ _ _ _) cs⟩ : _ ∧ _))
      clear k0 k3 hb hx hy
      go_wp2_with (refine wpList_store_whole rfl 24 _ _ rfl atRat _ _ _ row rfl rfl rfl rfl (rat_one _ _ _ _ _ _ _) ?_)
      refine bodyPost_ret (results_cell_two rfl _ _ _ _ _ _ _ rfl (setRow_heap _ _ _ _ _ _ row) Tryd.underlying24 rfl (by kernel_rfl) _ rfl) rfl ?_
      refine ⟨ap, np, cp, aq, nq, cq, by rw [hres.out]; rfl, ?_, ?_, HB.out _⟩
      · rw [hres.out]; exact (fin.out _).1
      · rw [hres.out]; exact (fin.out _).2
    · have hres := Lib.hid (show r = (zeroV, 30) by rw [hr, prodV, if_neg (fun hh => e2 hh.2)])
      have E1 := Lib.hid e1
      have E2 := Lib.hid e2
      clear hr e1 e2
      go_enter Tryd.func24, Tryd.ntmps24
      go_wp2_with fail
      have cc := Mul_any _ r1 r3
      rw [mul_limbs l1 l3, fit_limbs E1.out] at cc
      refine cc.mono ?_
      rintro e2 w1 ⟨ax, nx, cx, rfl, hx, hb⟩
      clear cc
      have R1 := R0.later hb
      have H2 := H1.later hb
      have r2 := r2.below hb
      have r4 := r4.below hb
      have k2 := H2.cell 2 _ rfl
      have k5 := H2.cell 5 _ rfl
      clear k1 k4 hb r1 r3
      go_wp2_with fail
      have cc := Mul_any _ r2 r4
      rw [mul_limbs l2 l4, fit_great E2.out] at cc
      refine cc.mono ?_
      rintro e2 w2 ⟨ay, ny, cy, rfl, hy, hb⟩
      clear cc
      have R2 := R1.later hb
      have row := R2.row
      have x0 := R2.cell 0 _ rfl
      have x1 := R2.cell 1 _ rfl
      have x2 := R2.cell 2 _ rfl
      clear k2 k5 hb
      go_wp2_with first | refine wpList_store_whole rfl 24 _ _ rfl atRat _ _ _ row rfl rfl rfl rfl (rat_one _ _ _ _ _ _ _) ?_
      refine bodyPost_ret (results_cell_two rfl _ _ _ _ _ _ _ rfl (setRow_heap _ _ _ _ _ _ row) Tryd.underlying24 rfl (by kernel_rfl) _ rfl) rfl ?_
      refine ⟨none, 0, 0, none, 0, 0, by rw [hres.out]; rfl, ?_, ?_, H0.below.trans ((below_row R2.below R2.lo _).mono (by rw [World.size_alloc]; omega))⟩
      · rw [hres.out]; exact Rd.nil _ _
      · rw [hres.out]; exact Rd.nil _ _
  · have hres := Lib.hid (show r = (zeroV, 30) by rw [hr, prodV, if_neg (fun hh => e1 hh.1)])
    have E1 := Lib.hid e1
    clear hr e1
    go_enter Tryd.func24, Tryd.ntmps24
    go_wp2_with fail
    have cc := Mul_any _ r1 r3
    rw [mul_limbs l1 l3, fit_great E1.out] at cc
    refine cc.mono ?_
    rintro e2 w1 ⟨ax, nx, cx, rfl, hx, hb⟩
    clear cc
    have R1 := R0.later hb
    have row := R1.row
    have x0 := R1.cell 0 _ rfl
    have x1 := R1.cell 1 _ rfl
    have x2 := R1.cell 2 _ rfl
    go_wp2_with first | refine wpList_store_whole rfl 24 _ _ rfl atRat _ _ _ row rfl rfl rfl rfl (rat_one _ _ _ _ _ _ _) ?_
    refine bodyPost_ret (results_cell_two rfl _ _ _ _ _ _ _ rfl (setRow_heap _ _ _ _ _ _ row) Tryd.underlying24 rfl (by kernel_rfl) _ rfl) rfl ?_
    refine ⟨none, 0, 0, none, 0, 0, by rw [hres.out]; rfl, ?_, ?_, H0.below.trans ((below_row R1.below R1.lo _).mono (by rw [World.size_alloc]; omega))⟩
    · rw [hres.out]; exact Rd.nil _ _
    · rw [hres.out]; exact Rd.nil _ _

end Go.Proofs.YtdaajeklnhbhjaaDoor
