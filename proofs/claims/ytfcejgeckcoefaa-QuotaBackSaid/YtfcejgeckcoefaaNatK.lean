/- slices.Reverse of bytes, Text. No condition. -/
import Derived.Test.YtfcejgeckcoefaaNatJ
import Derived.Test.YtfcejgeckcoefaaNatDec
namespace Go.Proofs.Ytfcejgeckcoefaa
open Go.RowKit Go.Suf
set_option linter.unusedVariables false
set_option linter.unusedSimpArgs false

/-- t exchanges are done. -/
structure Rev (xs ys : List Nat) (n t : Nat) : Prop where
  len : ys.length = xs.length
  done : ∀ i, i < n → (i < t ∨ n - 1 - t < i) → nth ys i = nth xs (n - 1 - i)
  mid : ∀ i, t ≤ i → i ≤ n - 1 - t → nth ys i = nth xs i
  out : ∀ i, n ≤ i → nth ys i = nth xs i

theorem Rev.start (xs : List Nat) (n : Nat) : Rev xs xs n 0 := ⟨rfl, fun i h1 h2 => by omega, fun i _ _ => rfl, fun i _ => rfl⟩

theorem Rev.step {xs ys : List Nat} {n t : Nat} (h : Rev xs ys n t) (ht : t < n - 1 - t) (hn : n ≤ xs.length) : Rev xs ((ys.set t (nth ys (n - 1 - t))).set (n - 1 - t) (nth ys t)) n (t + 1) := by
  have hl := h.len
  have a := h.mid t (Nat.le_refl _) (by omega)
  have b := h.mid (n - 1 - t) (by omega) (Nat.le_refl _)
  refine ⟨by simp [hl], fun i h1 h2 => ?_, fun i h1 h2 => ?_, fun i h1 => ?_⟩
  · by_cases e1 : n - 1 - t = i
    · subst e1
      rw [nth_set_same (by simp; omega), a]
      congr 1
      omega
    · rw [nth_set_ne e1]
      by_cases e2 : t = i
      · subst e2
        rw [nth_set_same (by omega), b]
      · rw [nth_set_ne e2]
        exact h.done i h1 (by omega)
  · rw [nth_set_ne (by omega), nth_set_ne (by omega)]
    exact h.mid i (by omega) (by omega)
  · rw [nth_set_ne (by omega), nth_set_ne (by omega)]
    exact h.out i h1

theorem nth_ext {xs ys : List Nat} (h : xs.length = ys.length) (he : ∀ i, i < xs.length → nth xs i = nth ys i) : xs = ys := by
  apply List.ext_getElem h
  intro i h1 h2
  rw [← nth_eq h1, ← nth_eq h2]
  exact he i h1

theorem Rev.fin {xs ys : List Nat} {n t : Nat} (h : Rev xs ys n t) (ht : ¬ t < n - 1 - t) (hn : n ≤ xs.length) (hn0 : 0 < n) : ys = (xs.take n).reverse ++ xs.drop n := by
  refine nth_ext (by simp [h.len]; omega) fun i hi => ?_
  rw [h.len] at hi
  by_cases h1 : i < n
  · have e : nth ((xs.take n).reverse ++ xs.drop n) i = nth xs (n - 1 - i) := by
      rw [nth_eq (by simp; omega), List.getElem_append_left (by simp; omega), List.getElem_reverse, nth_eq (by omega)]
      simp only [List.getElem_take, List.length_take]
      congr 1
      omega
    rw [e]
    by_cases h2 : i < t ∨ n - 1 - t < i
    · exact h.done i h1 h2
    · rw [h.mid i (by omega) (by omega)]
      congr 1
      omega
  · have e : nth ((xs.take n).reverse ++ xs.drop n) i = nth xs i := by
      rw [nth_eq (by simp; omega), List.getElem_append_right (by simp; omega), nth_eq (by omega)]
      simp only [List.getElem_drop, List.length_reverse, List.length_take]
      congr 1
      omega
    rw [e]
    exact h.out i (by omega)

def textC (xs : List Nat) : List Nat × Int := if chk xs = 0 then (textN (val xs), 0) else ([], chk xs)

/-- A string and an error. -/
def RetSE (w : World) (r : List Nat × Int) : Ending → World → Prop := fun e w' => e = .returned (.tuple #[.string (strB r.1), .int .i64 r.2]) ∧ Below w.heap.size w w'

def chars (ds : List Nat) : List Nat := ds.map (· + 48)

theorem chars_append (a b : List Nat) : chars (a ++ b) = chars a ++ chars b := by simp [chars]
theorem chars_nth {ds : List Nat} {i : Nat} (h : i < ds.length) : nth (chars ds) i = nth ds i + 48 := by simp [nth, chars, h]
theorem chars_length (ds : List Nat) : (chars ds).length = ds.length := by simp [chars]
theorem chars_bd {ds : List Nat} (h : dig10 ds) : ∀ x ∈ chars ds, x < 256 := by
  intro x hx
  simp only [chars, List.mem_map] at hx
  obtain ⟨a, ha, rfl⟩ := hx
  have := h a ha
  omega

theorem dec_len {ds : List Nat} {A N : Nat} (h : dval ds + 10 ^ ds.length * A = N) (hA : 0 < A) (hN : N < pw 96) : ds.length < 960 := by
  have a := pw_ten 96
  have b := Nat.le_mul_of_pos_right (10 ^ ds.length) hA
  have c : 10 ^ ds.length < 10 ^ (10 * 96) := by omega
  rcases Nat.lt_or_ge ds.length 960 with h' | h'
  · exact h'
  · have := Nat.pow_le_pow_right (show 0 < 10 by decide) h'
    omega

end Go.Proofs.Ytfcejgeckcoefaa
