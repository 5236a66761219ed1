/- Rational numbers in the document's answer: Whole, side, both, Same. -/
import Derived.Test.YtfcejgeckcoefaaRatG
namespace Go.Proofs.Ytfcejgeckcoefaa
open Go.RowKit Go.Suf
set_option linter.unusedVariables false
set_option linter.unusedSimpArgs false

def RetBB (w : World) (r : Bool) : Ending → World → Prop := fun e w' => e = .returned (.bool r) ∧ Below w.heap.size w w'

def sameV (x y : QV) : Bool := (x.neg == y.neg) && sameN x.num y.num && sameN x.den y.den

theorem two_boxes (w : World) (x y : Array Value) :
    Has w ((w.alloc (.cells x 27)).alloc (.cells y 27)) w.heap.size x ∧ Has w ((w.alloc (.cells x 27)).alloc (.cells y 27)) (w.heap.size + 1) y := by
  have s1 : (w.alloc (.cells x 27)).heap.size = w.heap.size + 1 := World.size_alloc _ _
  have h1 := Has.new w x 27
  have h2 := Has.new (w.alloc (.cells x 27)) y 27
  have h3 := h1.later h2.below
  rw [s1] at h2
  exact ⟨h3, h3.below, h2.cell, h2.lt⟩

set_option maxHeartbeats 1000000 in
theorem refRatSame_any (w : World) {g1 g2 : Bool} {a b a' b' : Option Addr} {n m c d n' m' c' d' : Nat} {xs ys xs' ys' : List Nat}
    (h1 : Rd .u32 w a n c xs) (h2 : Rd .u32 w b m d ys) (h3 : Rd .u32 w a' n' c' xs') (h4 : Rd .u32 w b' m' d' ys') :
    Calls Try.prog 16 #[ratV g1 a n c b m d, ratV g2 a' n' c' b' m' d'] w (RetBB w (sameV ⟨g1, xs, ys⟩ ⟨g2, xs', ys'⟩)) := by
  obtain ⟨r, hr⟩ : ∃ r, r = sameV ⟨g1, xs, ys⟩ ⟨g2, xs', ys'⟩ := ⟨_, rfl⟩
  rw [← hr]
  obtain ⟨L1, L2⟩ := two_boxes w #[.bool g1, .slice a n c, .slice b m d] #[.bool g2, .slice a' n' c', .slice b' m' d']
  have k0 := L1.cell 0 _ rfl
  have k1 := L1.cell 1 _ rfl
  have k3 := L2.cell 0 _ rfl
  have k4 := L2.cell 1 _ rfl
  by_cases hg : g1 = g2
  · subst hg
    have q1 : (g1 == g1) = true := by simp
    cases hs : sameN xs xs' with
    | false =>
      have e := Lib.hid (show r = false by rw [hr, sameV]; simp [hs])
      have HS := Lib.hid hs
      clear hr hs
      go_enter Try.func16, Try.ntmps16
      go_wp2_with fail
      have cc := refSame_any _ (h1.below L1.below) (h3.below L1.below)
      rw [HS.out] at cc
      refine cc.mono ?_
      rintro e1 w4 ⟨rfl, nq, rfl⟩
      clear cc
      go_wp2_with fail
      go_ret
      exact ⟨by rw [e.out]; rfl, below_drewN L1.below nq⟩
    | true =>
      have e := Lib.hid (show r = sameN ys ys' by rw [hr, sameV]; simp [hs])
      have HS := Lib.hid hs
      clear hr hs
      go_enter Try.func16, Try.ntmps16
      go_wp2_with fail
      have cc := refSame_any _ (h1.below L1.below) (h3.below L1.below)
      rw [HS.out] at cc
      refine cc.mono ?_
      rintro e1 w4 ⟨rfl, nq, rfl⟩
      clear cc
      have hd := fun (W : World) => below_drewN (Below.refl W.heap.size W) nq
      have L3 := L1.later (hd _)
      have L4 := L2.later (hd _)
      have k2 := L3.cell 2 _ rfl
      have k5 := L4.cell 2 _ rfl
      clear k0 k1 k3 k4
      go_wp2_with fail
      have cc := refSame_any _ (h2.below L3.below) (h4.below L3.below)
      rw [← e.out] at cc
      refine cc.mono ?_
      rintro e1 w4 ⟨rfl, mq, rfl⟩
      clear cc
      go_wp2_with fail
      go_ret
      exact ⟨rfl, below_drewN L1.below _⟩
  · have q1 : (g1 == g2) = false := by rw [beq_eq_false_iff_ne]; exact hg
    have e := Lib.hid (show r = false by rw [hr, sameV]; simp [q1])
    clear hr hg
    go_enter Try.func16, Try.ntmps16
    go_wp2_with fail
    go_ret
    exact ⟨by rw [e.out]; rfl, L1.below⟩

end Go.Proofs.Ytfcejgeckcoefaa
