/- Natural numbers as lists of limbs, as plain data. No condition. -/
import Derived.Test.YtdaajeklnhbhjaaDoorBase
namespace Go.Suf
open Go.RowKit
set_option linter.unusedVariables false
set_option linter.unusedSimpArgs false

/-- The number that limbs stand for, least significant first. -/
def val : List Nat → Nat
  | [] => 0
  | x :: xs => x + 4294967296 * val xs

/-- The limbs of a number, without leading zeros. -/
def limbs (n : Nat) : List Nat :=
  if h : n = 0 then [] else n % 4294967296 :: limbs (n / 4294967296)
termination_by n
decreasing_by omega

theorem limbs_zero : limbs 0 = [] := by rw [limbs]; simp

theorem limbs_pos {n : Nat} (h : n ≠ 0) : limbs n = n % 4294967296 :: limbs (n / 4294967296) := by
  rw [limbs]
  simp [h]

/-- Leading zero limbs (those at the end) dropped. -/
def trimL : List Nat → List Nat
  | [] => []
  | x :: xs => match trimL xs with
    | [] => if x = 0 then [] else [x]
    | y :: ys => x :: y :: ys

def small32 (xs : List Nat) : Prop := ∀ x ∈ xs, x < 4294967296

theorem small32.tail {x : Nat} {xs : List Nat} (h : small32 (x :: xs)) : small32 xs := fun y hy => h y (by simp [hy])
theorem small32.head {x : Nat} {xs : List Nat} (h : small32 (x :: xs)) : x < 4294967296 := h x (by simp)

theorem val_limbs : ∀ n, val (limbs n) = n := by
  intro n
  induction n using Nat.strongRecOn with
  | ind n ih =>
    by_cases h : n = 0
    · subst h; rw [limbs_zero]; rfl
    · rw [limbs_pos h, val, ih _ (by omega)]
      omega

theorem limbs_small : ∀ n, small32 (limbs n) := by
  intro n
  induction n using Nat.strongRecOn with
  | ind n ih =>
    by_cases h : n = 0
    · subst h; rw [limbs_zero]; intro x hx; simp at hx
    · rw [limbs_pos h]
      intro x hx
      simp only [List.mem_cons] at hx
      rcases hx with rfl | hx
      · omega
      · exact ih _ (by omega) x hx

theorem trimL_eq : ∀ xs, small32 xs → trimL xs = limbs (val xs)
  | [], _ => limbs_zero.symm
  | x :: xs, h => by
    have hx := h.head
    have ih := trimL_eq xs h.tail
    rw [trimL, ih, val]
    by_cases hv : val xs = 0
    · rw [hv, limbs_zero]
      by_cases h0 : x = 0
      · simp [h0, limbs_zero]
      · simp only [h0, if_false]
        rw [limbs_pos (by omega), show (x + 4294967296 * 0) / 4294967296 = 0 by omega, limbs_zero]
        congr 1
        omega
    · rw [limbs_pos (n := x + 4294967296 * val xs) (by omega), show (x + 4294967296 * val xs) % 4294967296 = x by omega, show (x + 4294967296 * val xs) / 4294967296 = val xs by omega]
      generalize hl : limbs (val xs) = l
      cases l with
      | nil => rw [limbs_pos hv] at hl; simp at hl
      | cons y ys => rfl

theorem val_append (xs ys : List Nat) : val (xs ++ ys) = val xs + 4294967296 ^ xs.length * val ys := by
  induction xs with
  | nil => simp [val]
  | cons x xs ih =>
    simp only [List.cons_append, val, ih, List.length_cons, Nat.pow_succ]
    generalize 4294967296 ^ xs.length = p
    rw [Nat.mul_add, ← Nat.mul_assoc, Nat.mul_comm 4294967296 p, Nat.add_assoc]

theorem val_lt : ∀ xs, small32 xs → val xs < 4294967296 ^ xs.length
  | [], _ => by simp [val]
  | x :: xs, h => by
    have ih := val_lt xs h.tail
    have hx := h.head
    simp only [val, List.length_cons, Nat.pow_succ]
    generalize 4294967296 ^ xs.length = p at *
    omega

/-- Whether the last limb is not zero. -/
def canon (xs : List Nat) : Prop := xs.getLast? ≠ some 0

theorem trimL_canon : ∀ xs : List Nat, canon xs → trimL xs = xs
  | [], _ => rfl
  | [x], h => by
    have : x ≠ 0 := fun e => h (by simp [e])
    simp [trimL, this]
  | x :: y :: ys, h => by
    have ih := trimL_canon (y :: ys) (by simpa [canon] using h)
    rw [trimL, ih]

theorem limbs_val {xs : List Nat} (h : small32 xs) (hc : canon xs) : limbs (val xs) = xs := by
  rw [← trimL_eq xs h, trimL_canon xs hc]

theorem limbs_canon : ∀ n, canon (limbs n) := by
  intro n
  induction n using Nat.strongRecOn with
  | ind n ih =>
    by_cases h : n = 0
    · subst h; rw [limbs_zero]; simp [canon]
    · rw [limbs_pos h]
      have i2 := ih (n / 4294967296) (by omega)
      generalize hl : limbs (n / 4294967296) = l at i2
      cases l with
      | nil =>
        have : n / 4294967296 = 0 := by
          by_cases h0 : n / 4294967296 = 0
          · exact h0
          · rw [limbs_pos h0] at hl; simp at hl
        simp [canon]
        omega
      | cons y ys => simpa [canon] using i2

theorem limbs_inj {n m : Nat} (h : limbs n = limbs m) : n = m := by
  rw [← val_limbs n, h, val_limbs]

/-- What Check answers. -/
def chk (xs : List Nat) : Int := if 96 < xs.length then 4 else if xs.getLast? = some 0 then 8 else 0

theorem chk_ok {xs : List Nat} : chk xs = 0 ↔ xs.length ≤ 96 ∧ canon xs := by
  unfold chk canon
  by_cases h1 : 96 < xs.length
  · simp [h1]
    omega
  · rw [if_neg h1]
    by_cases h2 : xs.getLast? = some 0
    · simp [h2]
    · simp [h2]
      omega

theorem val_zero : ∀ {xs : List Nat}, (∀ x ∈ xs, x = 0) → val xs = 0
  | [], _ => rfl
  | x :: xs, h => by
    rw [val, h x (by simp), val_zero (fun y hy => h y (by simp [hy]))]

theorem nth_drop (xs : List Nat) (k j : Nat) : nth (xs.drop k) j = nth xs (k + j) := by
  simp [nth, List.getD]

theorem nth_take (xs : List Nat) {k j : Nat} (h : j < k) : nth (xs.take k) j = nth xs j := by
  simp [nth, List.getD, List.getElem?_take, h]

/-- What trim leaves. -/
theorem take_limbs {xs : List Nat} (hs : small32 xs) {k : Nat} (hk : k ≤ xs.length) (hz : ∀ j, k ≤ j → j < xs.length → nth xs j = 0) (hl : k = 0 ∨ nth xs (k - 1) ≠ 0) : limbs (val xs) = xs.take k := by
  have hd : val (xs.drop k) = 0 := val_zero fun x hx => by
    obtain ⟨j, hj, rfl⟩ := List.getElem_of_mem hx
    have := hz (k + j) (by omega) (by simp at hj; omega)
    rwa [← nth_drop, nth_eq hj] at this
  have hv : val xs = val (xs.take k) := by
    have := val_append (xs.take k) (xs.drop k)
    rw [List.take_append_drop, hd] at this
    simpa using this
  rw [hv]
  refine limbs_val (fun x hx => hs x (List.mem_of_mem_take hx)) ?_
  unfold canon
  rcases hl with rfl | hl
  · simp
  · by_cases h0 : k = 0
    · subst h0; simp
    · rw [List.getLast?_eq_getElem?, List.length_take, Nat.min_eq_left hk, List.getElem?_take]
      simp only [show k - 1 < k by omega, if_true]
      rw [getElem?_pos xs (k - 1) (by omega), ← nth_eq (by omega)]
      simpa using hl

end Go.Suf
