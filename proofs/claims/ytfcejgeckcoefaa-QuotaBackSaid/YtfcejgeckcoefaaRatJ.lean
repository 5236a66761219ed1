/- Cmp in the document's answer. -/
import Derived.Test.YtfcejgeckcoefaaRatI
import Derived.Deep.RegionHeld3
namespace Go.Proofs.Ytfcejgeckcoefaa
open Go.RowKit Go.Suf
set_option linter.unusedVariables false
set_option linter.unusedSimpArgs false

def RetIEB (w : World) (r : Int × Int) : Ending → World → Prop := fun e w' => e = .returned (.tuple #[.int .i64 r.1, .int .i64 r.2]) ∧ Below w.heap.size w w'

theorem keep_two {w1 w2 w3 : World} {x y : Nat} {u0 u1 u2 v0 v1 v2 : Value} (h : Below w1.heap.size w1 w2 ∧ w2.cell? ⟨x, 0, none⟩ = some u0 ∧ w2.cell? ⟨x, 1, none⟩ = some u1 ∧ w2.cell? ⟨x, 2, none⟩ = some u2 ∧ w2.cell? ⟨y, 0, none⟩ = some v0 ∧ w2.cell? ⟨y, 1, none⟩ = some v1 ∧ w2.cell? ⟨y, 2, none⟩ = some v2)
    (hb : Below w2.heap.size w2 w3) (hx : x < w1.heap.size) (hy : y < w1.heap.size) : Below w1.heap.size w1 w3 ∧ w3.cell? ⟨x, 0, none⟩ = some u0 ∧ w3.cell? ⟨x, 1, none⟩ = some u1 ∧ w3.cell? ⟨x, 2, none⟩ = some u2 ∧ w3.cell? ⟨y, 0, none⟩ = some v0 ∧ w3.cell? ⟨y, 1, none⟩ = some v1 ∧ w3.cell? ⟨y, 2, none⟩ = some v2 := by
  obtain ⟨h0, h1, h2, h3, h4, h5, h6⟩ := h
  have := h0.size
  exact ⟨h0.trans (hb.mono h0.size), cell_later hb h1 (by omega), cell_later hb h2 (by omega), cell_later hb h3 (by omega), cell_later hb h4 (by omega), cell_later hb h5 (by omega), cell_later hb h6 (by omega)⟩

theorem two_drew {w1 w2 : World} {x y : Nat} {u0 u1 u2 v0 v1 v2 : Value} (h : Below w1.heap.size w1 w2 ∧ w2.cell? ⟨x, 0, none⟩ = some u0 ∧ w2.cell? ⟨x, 1, none⟩ = some u1 ∧ w2.cell? ⟨x, 2, none⟩ = some u2 ∧ w2.cell? ⟨y, 0, none⟩ = some v0 ∧ w2.cell? ⟨y, 1, none⟩ = some v1 ∧ w2.cell? ⟨y, 2, none⟩ = some v2) :
    Below w1.heap.size w1 w2.drew ∧ w2.drew.cell? ⟨x, 0, none⟩ = some u0 ∧ w2.drew.cell? ⟨x, 1, none⟩ = some u1 ∧ w2.drew.cell? ⟨x, 2, none⟩ = some u2 ∧ w2.drew.cell? ⟨y, 0, none⟩ = some v0 ∧ w2.drew.cell? ⟨y, 1, none⟩ = some v1 ∧ w2.drew.cell? ⟨y, 2, none⟩ = some v2 := by
  obtain ⟨h0, h1, h2, h3, h4, h5, h6⟩ := h
  simp only [World.cell?_drew]
  exact ⟨h0.drew, h1, h2, h3, h4, h5, h6⟩

/-- The four ways of a comparison of valid numbers. -/
theorem cmp_ways (p q : Rat) : (sideQ p < sideQ q ∧ cmpQ p q = (-1, 0)) ∨ (sideQ q < sideQ p ∧ cmpQ p q = (1, 0)) ∨ (sideQ p = 0 ∧ sideQ q = 0 ∧ cmpQ p q = (0, 0)) ∨ (sideQ p = sideQ q ∧ sideQ p ≠ 0) := by
  rcases sideQ_three p with hp | hp | hp <;> rcases sideQ_three q with hq | hq | hq
  · exact .inr (.inr (.inr ⟨by rw [hp, hq], by rw [hp]; decide⟩))
  · refine .inl ⟨by rw [hp, hq]; decide, ?_⟩
    rw [cmpQ, if_neg (by rw [hp, hq]; simp), cmpR_side (.inl (by rw [hp, hq]; decide)), hp, hq]; rfl
  · refine .inl ⟨by rw [hp, hq]; decide, ?_⟩
    rw [cmpQ, if_neg (by rw [hp, hq]; simp), cmpR_side (.inl (by rw [hp, hq]; decide)), hp, hq]; rfl
  · refine .inr (.inl ⟨by rw [hp, hq]; decide, ?_⟩)
    rw [cmpQ, if_neg (by rw [hp, hq]; simp), cmpR_side (.inl (by rw [hp, hq]; decide)), hp, hq]; rfl
  · refine .inr (.inr (.inl ⟨hp, hq, ?_⟩))
    rw [cmpQ, if_neg (by rw [hp]; simp), cmpR_side (.inr hp), hp, hq]; rfl
  · refine .inl ⟨by rw [hp, hq]; decide, ?_⟩
    rw [cmpQ, if_neg (by rw [hp, hq]; simp), cmpR_side (.inl (by rw [hp, hq]; decide)), hp, hq]; rfl
  · refine .inr (.inl ⟨by rw [hp, hq]; decide, ?_⟩)
    rw [cmpQ, if_neg (by rw [hp, hq]; simp), cmpR_side (.inl (by rw [hp, hq]; decide)), hp, hq]; rfl
  · refine .inr (.inl ⟨by rw [hp, hq]; decide, ?_⟩)
    rw [cmpQ, if_neg (by rw [hp, hq]; simp), cmpR_side (.inl (by rw [hp, hq]; decide)), hp, hq]; rfl
  · exact .inr (.inr (.inr ⟨by rw [hp, hq], by rw [hp]; decide⟩))

theorem cmp_far {p q : Rat} (h : sideQ p = sideQ q ∧ sideQ p ≠ 0) (hf : ¬ (p.num.natAbs * q.den < pw 96 ∧ q.num.natAbs * p.den < pw 96)) : cmpQ p q = (0, 30) := by
  rw [cmpQ, if_pos ⟨h.1, h.2, hf⟩]

theorem cmp_near {p q : Rat} (h : sideQ p = sideQ q) (hf : p.num.natAbs * q.den < pw 96 ∧ q.num.natAbs * p.den < pw 96) : cmpQ p q = (sideQ p * cmpN (p.num.natAbs * q.den) (q.num.natAbs * p.den), 0) := by
  rw [cmpQ, if_neg (fun h => h.2.2 hf), cmpR_cross h]

theorem side_wrap {s c : Int} (h : s = -1 ∨ s = 0 ∨ s = 1) (h2 : c = -1 ∨ c = 0 ∨ c = 1) : wrap64 (s * c) = s * c := by
  rcases h with rfl | rfl | rfl <;> rcases h2 with rfl | rfl | rfl <;> simp [wrap64]

theorem cmpN_three (a b : Nat) : cmpN a b = -1 ∨ cmpN a b = 0 ∨ cmpN a b = 1 := by
  unfold cmpN
  split
  · simp
  · split <;> simp

end Go.Proofs.Ytfcejgeckcoefaa
