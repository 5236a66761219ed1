/- A rational number in the program: what it reads as; Check, one, Lowest. No condition but that the slices read. -/
import Derived.Test.YtfcejgeckcoefaaRatLaw
namespace Go.Proofs.Ytfcejgeckcoefaa
open Go.RowKit Go.Suf
set_option linter.unusedVariables false
set_option linter.unusedSimpArgs false

/-- The value of a rational number. -/
abbrev ratV (neg : Bool) (a : Option Addr) (n c : Nat) (b : Option Addr) (m d : Nat) : Value := .agg #[.bool neg, .slice a n c, .slice b m d]

theorem rat_one (neg : Bool) (a : Option Addr) (n c : Nat) (b : Option Addr) (m d : Nat) : ∀ u ∈ (#[.bool neg, .slice a n c, .slice b m d] : Array Value).toList, u.oneCell' = true := by
  intro u hu
  simp only [List.mem_cons, List.not_mem_nil, or_false] at hu
  rcases hu with rfl | rfl | rfl <;> rfl

theorem atRat : AT Try.prog 27 3 := ⟨⟨_, Try.underlying27, rfl⟩, by kernel_rfl⟩

theorem rat_cell (w : World) (cs : Array Value) (t : TypeId) (i : Nat) (v : Value) (h : cs[i]? = some v) : (w.alloc (.cells cs t)).cell? ⟨w.heap.size, i, none⟩ = some v := by
  simp only [World.cell?, heap_alloc_new, h]
  rfl

/-- The cells of a block that was laid, in a later world. -/
theorem cell_later {B i : Nat} {w w' : World} {k : Nat} {v : Value} (hb : Below B w w') (h : w.cell? ⟨k, i, none⟩ = some v) (hk : k < B) : w'.cell? ⟨k, i, none⟩ = some v := by
  rw [← h]
  simp only [World.cell?, hb.block k hk]

def RetIB (w : World) (c : Int) : Ending → World → Prop := fun e w' => e = .returned (.int .i64 c) ∧ Below w.heap.size w w'

theorem ratOne_any (w : World) : Calls Try.prog 59 #[] w fun e w' => e = .returned (.slice (some ⟨w.heap.size, 0, none⟩) 1 1) ∧ w' = w.alloc (.cells #[.int .u32 1] 56) := by
  go_enter Try.func59, Try.ntmps59
  go_wp2
  go_ret
  exact ⟨rfl, rfl⟩

theorem both_split {xs ys : List Nat} : bothC xs ys = 0 ↔ chk xs = 0 ∧ chk ys = 0 := by
  unfold bothC
  constructor
  · intro h
    split at h
    · exact ⟨by assumption, h⟩
    · rename_i h'
      exact absurd h h'
  · rintro ⟨h1, h2⟩
    rw [if_pos h1, h2]

theorem chk_cases (xs : List Nat) : chk xs = 0 ∨ ((chk xs == 0) = false) := by
  by_cases h : chk xs = 0
  · exact .inl h
  · exact .inr (by rw [beq_eq_false_iff_ne]; exact h)

/-- What holds in the world in which a rational number was boxed. -/
structure Box (w w1 : World) (neg : Bool) (a : Option Addr) (n c : Nat) (b : Option Addr) (m d : Nat) (k : Nat) : Prop where
  below : Below w.heap.size w w1
  at0 : w1.cell? ⟨k, 0, none⟩ = some (.bool neg)
  at1 : w1.cell? ⟨k, 1, none⟩ = some (.slice a n c)
  at2 : w1.cell? ⟨k, 2, none⟩ = some (.slice b m d)
  lt : k < w1.heap.size

theorem Box.new (w : World) (neg : Bool) (a : Option Addr) (n c : Nat) (b : Option Addr) (m d : Nat) :
    Box w (w.alloc (.cells #[.bool neg, .slice a n c, .slice b m d] 27)) neg a n c b m d w.heap.size :=
  ⟨(Below.refl _ _).alloc (Nat.le_refl _) _, rat_cell w _ _ 0 _ rfl, rat_cell w _ _ 1 _ rfl, rat_cell w _ _ 2 _ rfl, by rw [World.size_alloc]; omega⟩

theorem Box.later {w w1 w2 : World} {neg : Bool} {a : Option Addr} {n c : Nat} {b : Option Addr} {m d k : Nat} (h : Box w w1 neg a n c b m d k) (hb : Below w1.heap.size w1 w2) : Box w w2 neg a n c b m d k :=
  ⟨h.below.trans (hb.mono h.below.size), cell_later hb h.at0 h.lt, cell_later hb h.at1 h.lt, cell_later hb h.at2 h.lt, Nat.lt_of_lt_of_le h.lt hb.size⟩

theorem chkV_no {x : QV} (h : ¬ (bothC x.num x.den = 0 ∧ x.den.length ≠ 0 ∧ ¬ (x.neg = true ∧ x.num.length = 0) ∧ Nat.gcd (val x.num) (val x.den) = 1)) : chkV x = 8 := by
  unfold chkV
  rw [if_neg h]

theorem chkV_yes {x : QV} (h : bothC x.num x.den = 0 ∧ x.den.length ≠ 0 ∧ ¬ (x.neg = true ∧ x.num.length = 0) ∧ Nat.gcd (val x.num) (val x.den) = 1) : chkV x = 0 := by
  unfold chkV
  rw [if_pos h]

theorem limbs_one : limbs 1 = [1] := by
  rw [limbs_pos (by decide)]
  simp [limbs_zero]

theorem lit_one (w : World) : Rd .u32 (w.alloc (.cells #[.int .u32 1] 56)) (some ⟨w.heap.size, 0, none⟩) 1 1 (limbs 1) := by
  rw [limbs_one]
  exact rd_lit .u32 w [1] 56 1 rfl (by decide) (by intro y hy; simp at hy; subst hy; decide)

set_option maxHeartbeats 1000000 in
theorem ratCheck_any (w : World) {neg : Bool} {a b : Option Addr} {n m c d : Nat} {xs ys : List Nat} (h : Rd .u32 w a n c xs) (h' : Rd .u32 w b m d ys) :
    Calls Try.prog 46 #[ratV neg a n c b m d] w (RetIB w (chkV ⟨neg, xs, ys⟩)) := by
  have B0 := Box.new w neg a n c b m d
  have hn := h.len
  have hm := h'.len
  obtain ⟨r, hr⟩ : ∃ r, r = chkV ⟨neg, xs, ys⟩ := ⟨_, rfl⟩
  rw [← hr]
  have HR := Lib.hid hr
  have r1 := h.below B0.below
  have r2 := h'.below B0.below
  obtain ⟨w1, hw1⟩ : ∃ w1, w1 = w.alloc (.cells #[.bool neg, .slice a n c, .slice b m d] 27) := ⟨_, rfl⟩
  have c0 := B0.at0
  have c1 := B0.at1
  have c2 := B0.at2
  by_cases h1 : chk xs = 0
  case neg =>
    have hk : (chk xs != 0) = true := by rw [bne_iff_ne]; exact h1
    have e := Lib.hid (show r = 8 by rw [hr]; exact chkV_no (fun hh => h1 (both_split.1 hh.1).1))
    obtain ⟨k, hkk⟩ : ∃ k, k = chk xs := ⟨_, rfl⟩
    rw [← hkk] at hk
    clear h1 hr
    go_enter Try.func46, Try.ntmps46
    go_wp2_with fail
    have cc := Check_any _ r1
    rw [← hkk] at cc
    refine cc.mono ?_
    rintro e1 w2 ⟨rfl, rfl⟩
    clear cc hkk
    go_wp2_with fail
    go_ret
    exact ⟨by rw [e.out]; rfl, B0.below⟩
  case pos =>
  by_cases h2 : chk ys = 0
  case neg =>
    have hk : (chk ys != 0) = true := by rw [bne_iff_ne]; exact h2
    have e := Lib.hid (show r = 8 by rw [hr]; exact chkV_no (fun hh => h2 (both_split.1 hh.1).2))
    obtain ⟨k, hkk⟩ : ∃ k, k = chk ys := ⟨_, rfl⟩
    rw [← hkk] at hk
    have H1 := Lib.hid h1
    clear h1 h2 hr
    go_enter Try.func46, Try.ntmps46
    go_wp2_with fail
    have cc := Check_any _ r1
    rw [H1.out] at cc
    refine cc.mono ?_
    rintro e1 w2 ⟨rfl, rfl⟩
    clear cc
    go_wp2_with fail
    have cc := Check_any _ r2
    rw [← hkk] at cc
    refine cc.mono ?_
    rintro e1 w2 ⟨rfl, rfl⟩
    clear cc hkk
    go_wp2_with fail
    go_ret
    exact ⟨by rw [e.out]; rfl, B0.below⟩
  case pos =>
  have H1 := Lib.hid h1
  have H2 := Lib.hid h2
  have hbad : (m = 0 ∨ (neg = true ∧ n = 0)) ∨ (m ≠ 0 ∧ ¬ (neg = true ∧ n = 0)) := by
    by_cases e1 : m = 0
    · exact .inl (.inl e1)
    · by_cases e2 : neg = true ∧ n = 0
      · exact .inl (.inr e2)
      · exact .inr ⟨e1, e2⟩
  rcases hbad with hbad | ⟨g1, g2⟩
  · have e := Lib.hid (show r = 8 by
      rw [hr]
      refine chkV_no (fun hh => ?_)
      rcases hbad with e1 | e1
      · exact hh.2.1 (hm.trans e1)
      · exact hh.2.2.1 ⟨e1.1, hn.trans e1.2⟩)
    clear h1 h2 hr
    have hcase : m = 0 ∨ (m ≠ 0 ∧ neg = true ∧ n = 0) := by
      by_cases e1 : m = 0
      · exact .inl e1
      · rcases hbad with e2 | e2
        · exact absurd e2 e1
        · exact .inr ⟨e1, e2⟩
    clear hbad
    rcases hcase with rfl | ⟨e1, rfl, rfl⟩
    · go_enter Try.func46, Try.ntmps46
      go_wp2_with fail
      have cc := Check_any _ r1
      rw [H1.out] at cc
      refine cc.mono ?_
      rintro e1 w2 ⟨rfl, rfl⟩
      clear cc
      go_wp2_with fail
      have cc := Check_any _ r2
      rw [H2.out] at cc
      refine cc.mono ?_
      rintro e1 w2 ⟨rfl, rfl⟩
      clear cc
      go_wp2_with fail
      go_ret
      exact ⟨by rw [e.out]; rfl, B0.below⟩
    · have hm0 : ((m : Int) == 0) = false := by rw [beq_eq_false_iff_ne]; omega
      go_enter Try.func46, Try.ntmps46
      go_wp2_with fail
      have cc := Check_any _ r1
      rw [H1.out] at cc
      refine cc.mono ?_
      rintro e1 w2 ⟨rfl, rfl⟩
      clear cc
      go_wp2_with fail
      have cc := Check_any _ r2
      rw [H2.out] at cc
      refine cc.mono ?_
      rintro e1 w2 ⟨rfl, rfl⟩
      clear cc
      go_wp2_with fail
      go_ret
      exact ⟨by rw [e.out]; rfl, B0.below⟩
  · have hb := Lib.hid (both_split.2 ⟨h1, h2⟩)
    have hm0 : ((m : Int) == 0) = false := by rw [beq_eq_false_iff_ne]; omega
    obtain ⟨g, hg⟩ : ∃ g, g = Nat.gcd (val xs) (val ys) := ⟨_, rfl⟩
    have HG := Lib.hid hg
    have hres := Lib.hid (show r = if g = 1 then 0 else 8 by
      rw [hr]
      by_cases e1 : g = 1
      · rw [if_pos e1]
        exact chkV_yes ⟨both_split.2 ⟨h1, h2⟩, by rw [hm]; exact g1, by rw [hn]; exact g2, by rw [← hg]; exact e1⟩
      · rw [if_neg e1]
        exact chkV_no (fun hh => e1 (by rw [hg]; exact hh.2.2.2)))
    have g3 : neg = false ∨ (neg = true ∧ ((n : Int) == 0) = false) := by
      cases neg
      · exact .inl rfl
      · right
        refine ⟨rfl, ?_⟩
        rw [beq_eq_false_iff_ne]
        intro e
        exact g2 ⟨rfl, by omega⟩
    clear h1 h2 hr hg g1 g2
    rcases g3 with rfl | ⟨rfl, hn0⟩
    all_goals
      go_enter Try.func46, Try.ntmps46
      go_wp2_with fail
      have cc := Check_any _ r1
      rw [H1.out] at cc
      refine cc.mono ?_
      rintro e1 w2 ⟨rfl, rfl⟩
      clear cc
      go_wp2_with fail
      have cc := Check_any _ r2
      rw [H2.out] at cc
      refine cc.mono ?_
      rintro e1 w2 ⟨rfl, rfl⟩
      clear cc
      go_wp2_with fail
      have cc := Gcd_any _ r1 r2
      rw [gcdC, if_pos hb.out, ← HG.out] at cc
      refine cc.mono ?_
      rintro e1 w2 ⟨ag, ng, cg, rfl, hg, hbg⟩
      clear cc
      have B2 := B0.later hbg
      go_wp2_with fail
      refine (ratOne_any _).mono ?_
      rintro e1 w3 ⟨rfl, rfl⟩
      have hbo : Below w2.heap.size w2 (w2.alloc (.cells #[.int .u32 1] 56)) := (Below.refl _ _).alloc (Nat.le_refl _) _
      have B3 := B2.later hbo
      have hg3 := hg.below hbo
      have ho3 := lit_one w2
      by_cases e1 : g = 1
      · have hs := Lib.hid (show r = 0 by rw [hres.out, if_pos e1])
        have hs2 := Lib.hid (show sameN (limbs g) (limbs 1) = true by rw [e1, same_self])
        clear e1
        go_wp2_with fail
        have cc := Same_any _ hg3 ho3
        rw [hs2.out] at cc
        refine cc.mono ?_
        rintro e1 w4 ⟨rfl, nq, rfl⟩
        clear cc
        go_wp2_with fail
        go_ret
        exact ⟨by rw [hs.out]; rfl, B3.below.trans ((below_drewN (Below.refl _ _) nq).mono B3.below.size)⟩
      · have hs := Lib.hid (show r = 8 by rw [hres.out, if_neg e1])
        have hs2 := Lib.hid (show sameN (limbs g) (limbs 1) = false by rw [same_ok]; exact decide_eq_false e1)
        clear e1
        go_wp2_with fail
        have cc := Same_any _ hg3 ho3
        rw [hs2.out] at cc
        refine cc.mono ?_
        rintro e1 w4 ⟨rfl, nq, rfl⟩
        clear cc
        go_wp2_with fail
        go_ret
        exact ⟨by rw [hs.out]; rfl, B3.below.trans ((below_drewN (Below.refl _ _) nq).mono B3.below.size)⟩

end Go.Proofs.Ytfcejgeckcoefaa
