/- Arithmetic of numbers as limbs, as plain data: comparing, sums, differences, products, division by one limb, shifting. No condition. -/
import Derived.Test.YtdaajeklnhbhjaaDoorNatPlain
namespace Go.Suf
open Go.RowKit
set_option linter.unusedVariables false
set_option linter.unusedSimpArgs false

/-- The power of the base, behind a name. -/
def pw (i : Nat) : Nat := 4294967296 ^ i
theorem pw_zero : pw 0 = 1 := rfl
theorem pw_succ (i : Nat) : pw (i + 1) = 4294967296 * pw i := by simp [pw, Nat.pow_succ, Nat.mul_comm]
theorem pw_pos (i : Nat) : 0 < pw i := Nat.pow_pos (by decide)
theorem pw_add (i j : Nat) : pw (i + j) = pw i * pw j := Nat.pow_add _ _ _
theorem pw_le {i j : Nat} (h : i ≤ j) : pw i ≤ pw j := Nat.pow_le_pow_right (by decide) h
theorem pw_lt {i j : Nat} (h : pw i < pw j) : i < j := by
  rcases Nat.lt_or_ge i j with h' | h'
  · exact h'
  · have := pw_le h'; omega

theorem val_lt' {xs : List Nat} (h : small32 xs) : val xs < pw xs.length := val_lt xs h

theorem val_app (xs ys : List Nat) : val (xs ++ ys) = val xs + pw xs.length * val ys := val_append xs ys

theorem small32_nth {xs : List Nat} (h : small32 xs) (i : Nat) : nth xs i < 4294967296 := by
  by_cases hi : i < xs.length
  · rw [nth_eq hi]; exact h _ (List.getElem_mem _)
  · simp [nth, List.getD, show xs.length ≤ i by omega]

theorem nth_out {xs : List Nat} {i : Nat} (h : xs.length ≤ i) : nth xs i = 0 := by simp [nth, List.getD, h]

theorem small32_take {xs : List Nat} (h : small32 xs) (i : Nat) : small32 (xs.take i) := fun x hx => h x (List.mem_of_mem_take hx)
theorem small32_drop {xs : List Nat} (h : small32 xs) (i : Nat) : small32 (xs.drop i) := fun x hx => h x (List.mem_of_mem_drop hx)
theorem small32_set {xs : List Nat} (h : small32 xs) (i v : Nat) (hv : v < 4294967296) : small32 (xs.set i v) := fun x hx => by
  rcases List.mem_or_eq_of_mem_set hx with h' | h'
  · exact h x h'
  · omega

theorem take_succ_nth {xs : List Nat} {i : Nat} (h : i < xs.length) : xs.take (i + 1) = xs.take i ++ [nth xs i] := by
  rw [List.take_succ_eq_append_getElem h, nth_eq h]

theorem drop_nth {xs : List Nat} {i : Nat} (h : i < xs.length) : xs.drop i = nth xs i :: xs.drop (i + 1) := by
  rw [List.drop_eq_getElem_cons h, nth_eq h]

/-- One limb more, from below. -/
theorem val_take_succ (xs : List Nat) (i : Nat) : val (xs.take (i + 1)) = val (xs.take i) + pw i * nth xs i := by
  by_cases h : i < xs.length
  · rw [take_succ_nth h, val_app, List.length_take, Nat.min_eq_left (by omega)]
    simp [val]
  · rw [List.take_of_length_le (by omega), List.take_of_length_le (by omega), nth_out (by omega)]
    simp

theorem set_take (xs : List Nat) (i v : Nat) : (xs.set i v).take i = xs.take i := by
  rw [List.take_set, List.set_eq_of_length_le (by simp; omega)]

theorem nth_set_same {xs : List Nat} {i : Nat} (h : i < xs.length) (v : Nat) : nth (xs.set i v) i = v := by simp [nth, h]
theorem nth_set_ne {xs : List Nat} {i j : Nat} (h : i ≠ j) (v : Nat) : nth (xs.set i v) j = nth xs j := by simp [nth, List.getElem?_set_ne h]

theorem val_take_set {xs : List Nat} {i : Nat} (h : i < xs.length) (v : Nat) : val ((xs.set i v).take (i + 1)) = val (xs.take i) + pw i * v := by
  rw [val_take_succ, set_take, nth_set_same h]

theorem set_drop {xs : List Nat} {i : Nat} (h : i < xs.length) (v : Nat) : (xs.set i v).drop i = v :: xs.drop (i + 1) := by
  rw [drop_nth (by simpa using h), nth_set_same h]
  congr 1
  rw [List.drop_set]
  simp

theorem set_drop_gt (xs : List Nat) {i j : Nat} (h : i < j) (v : Nat) : (xs.set i v).drop j = xs.drop j := by
  rw [List.drop_set]
  simp [h]

theorem val_split (xs : List Nat) (i : Nat) (h : i ≤ xs.length) : val xs = val (xs.take i) + pw i * val (xs.drop i) := by
  have := val_app (xs.take i) (xs.drop i)
  rwa [List.take_append_drop, List.length_take, Nat.min_eq_left h] at this

theorem val_zs (n : Nat) : val (zs n) = 0 := val_zero fun x hx => List.eq_of_mem_replicate hx

/-! ### Chains of carries -/

theorem carry_step {p B s c c' a b o x y : Nat} (h : o + p * c = x + y) (hs : s + B * c' = a + b + c) : o + p * s + (B * p) * c' = (x + p * a) + (y + p * b) := by
  have h2 : p * (s + B * c') = p * (a + b + c) := by rw [hs]
  simp only [Nat.mul_add] at h2
  have e : (B * p) * c' = p * (B * c') := by rw [Nat.mul_comm B p, Nat.mul_assoc]
  omega

/-- The sum's limb and carry. -/
theorem add_limb (n : Nat) : n % 4294967296 + 4294967296 * (n / 4294967296) = n := by omega

/-- Invariant of a sum: i limbs are done. -/
structure Sum (xs ys out : List Nat) (i c : Nat) : Prop where
  eq : val (out.take i) + pw i * c = val (xs.take i) + val (ys.take i)
  small : small32 out
  le : c ≤ 1

theorem Sum.start (xs ys out : List Nat) (h : small32 out) : Sum xs ys out 0 0 := ⟨by simp [val], h, by omega⟩

theorem Sum.step {xs ys out : List Nat} {i c : Nat} (h : Sum xs ys out i c) (hx : small32 xs) (hy : small32 ys) (hi : i < out.length) :
    Sum xs ys (out.set i ((nth xs i + nth ys i + c) % 4294967296)) (i + 1) ((nth xs i + nth ys i + c) / 4294967296) := by
  have a := small32_nth hx i
  have b := small32_nth hy i
  have l := h.le
  refine ⟨?_, small32_set h.small _ _ (by omega), by omega⟩
  rw [val_take_set hi, val_take_succ xs, val_take_succ ys, pw_succ]
  exact carry_step h.eq (by omega)

theorem Sum.done {xs ys out : List Nat} {c m : Nat} (h : Sum xs ys out m c) (hx : small32 xs) (hy : small32 ys) (hm : out.length = m) (h1 : xs.length < m) (h2 : ys.length < m) : val out = val xs + val ys := by
  have e := h.eq
  rw [List.take_of_length_le (by omega), List.take_of_length_le (by omega), List.take_of_length_le (by omega)] at e
  obtain ⟨k, rfl⟩ : ∃ k, m = k + 1 := ⟨m - 1, by omega⟩
  have a := Nat.lt_of_lt_of_le (val_lt' hx) (pw_le (show xs.length ≤ k by omega))
  have b := Nat.lt_of_lt_of_le (val_lt' hy) (pw_le (show ys.length ≤ k by omega))
  have l := h.le
  rw [pw_succ] at e
  have hc : c = 0 := by
    rcases Nat.lt_or_ge 0 c with h' | h'
    · obtain rfl : c = 1 := by omega
      omega
    · omega
  subst hc
  omega

/-- Invariant of a difference: i limbs are done. -/
structure Dif (xs ys out : List Nat) (i c : Nat) : Prop where
  eq : val (out.take i) + val (ys.take i) = val (xs.take i) + pw i * c
  small : small32 out
  le : c ≤ 1

theorem Dif.start (xs ys out : List Nat) (h : small32 out) : Dif xs ys out 0 0 := ⟨by simp [val], h, by omega⟩

theorem borrow_step {p B s c c' a b o x y : Nat} (h : o + y = x + p * c) (hs : s + b + c = a + B * c') : (o + p * s) + (y + p * b) = (x + p * a) + (B * p) * c' := by
  have h2 : p * (s + b + c) = p * (a + B * c') := by rw [hs]
  simp only [Nat.mul_add] at h2
  have e : (B * p) * c' = p * (B * c') := by rw [Nat.mul_comm B p, Nat.mul_assoc]
  omega

/-- The limb of a difference, and the borrow. -/
def subL (x y c : Nat) : Nat := (x + 4294967296 - y - c) % 4294967296
def subB (x y c : Nat) : Nat := if x < y + c then 1 else 0

theorem subL_lt (x y c : Nat) : subL x y c < 4294967296 := Nat.mod_lt _ (by decide)
theorem subB_le (x y c : Nat) : subB x y c ≤ 1 := by unfold subB; split <;> omega
theorem sub_limb {x y c : Nat} (hx : x < 4294967296) (hy : y < 4294967296) (hc : c ≤ 1) : subL x y c + y + c = x + 4294967296 * subB x y c := by
  unfold subL subB
  split <;> omega

theorem Dif.step {xs ys out : List Nat} {i c : Nat} (h : Dif xs ys out i c) (hx : small32 xs) (hy : small32 ys) (hi : i < out.length) :
    Dif xs ys (out.set i (subL (nth xs i) (nth ys i) c)) (i + 1) (subB (nth xs i) (nth ys i) c) := by
  refine ⟨?_, small32_set h.small _ _ (subL_lt _ _ _), subB_le _ _ _⟩
  rw [val_take_set hi, val_take_succ xs, val_take_succ ys, pw_succ]
  exact borrow_step h.eq (sub_limb (small32_nth hx i) (small32_nth hy i) h.le)

theorem Dif.done {xs ys out : List Nat} {c m : Nat} (h : Dif xs ys out m c) (hm : out.length = m) (h1 : xs.length = m) (h2 : ys.length ≤ m) (hle : val ys ≤ val xs) : val out = val xs - val ys := by
  have e := h.eq
  rw [List.take_of_length_le (by omega), List.take_of_length_le (by omega), List.take_of_length_le (by omega)] at e
  have a := val_lt' h.small
  rw [hm] at a
  have l := h.le
  have hc : c = 0 := by
    rcases Nat.lt_or_ge 0 c with h' | h'
    · obtain rfl : c = 1 := by omega
      omega
    · omega
  subst hc
  omega

/-! ### The same, the limbs appended one by one -/

structure SumA (xs ys out : List Nat) (i c : Nat) : Prop where
  len : out.length = i
  eq : val out + pw i * c = val (xs.take i) + val (ys.take i)
  small : small32 out
  le : c ≤ 1

theorem SumA.start (xs ys : List Nat) : SumA xs ys [] 0 0 := ⟨rfl, by simp [val], fun x hx => by simp at hx, by omega⟩

theorem small32_snoc {xs : List Nat} (h : small32 xs) {v : Nat} (hv : v < 4294967296) : small32 (xs ++ [v]) := fun x hx => by
  rw [List.mem_append] at hx
  rcases hx with hx | hx
  · exact h x hx
  · simp at hx; omega

theorem val_snoc (xs : List Nat) (v : Nat) : val (xs ++ [v]) = val xs + pw xs.length * v := by
  rw [val_app]
  simp [val]

theorem SumA.step {xs ys out : List Nat} {i c : Nat} (h : SumA xs ys out i c) (hx : small32 xs) (hy : small32 ys) :
    SumA xs ys (out ++ [(nth xs i + nth ys i + c) % 4294967296]) (i + 1) ((nth xs i + nth ys i + c) / 4294967296) := by
  have a := small32_nth hx i
  have b := small32_nth hy i
  have l := h.le
  refine ⟨by simp [h.len], ?_, small32_snoc h.small (by omega), by omega⟩
  rw [val_snoc, h.len, val_take_succ xs, val_take_succ ys, pw_succ]
  exact carry_step h.eq (by omega)

theorem SumA.done {xs ys out : List Nat} {i : Nat} (h : SumA xs ys out i 0) (h1 : xs.length ≤ i) (h2 : ys.length ≤ i) : val out = val xs + val ys := by
  have e := h.eq
  rw [List.take_of_length_le h1, List.take_of_length_le h2] at e
  omega

structure DifA (xs ys out : List Nat) (i c : Nat) : Prop where
  len : out.length = i
  eq : val out + val (ys.take i) = val (xs.take i) + pw i * c
  small : small32 out
  le : c ≤ 1

theorem DifA.start (xs ys : List Nat) : DifA xs ys [] 0 0 := ⟨rfl, by simp [val], fun x hx => by simp at hx, by omega⟩

theorem DifA.step {xs ys out : List Nat} {i c : Nat} (h : DifA xs ys out i c) (hx : small32 xs) (hy : small32 ys) :
    DifA xs ys (out ++ [subL (nth xs i) (nth ys i) c]) (i + 1) (subB (nth xs i) (nth ys i) c) := by
  refine ⟨by simp [h.len], ?_, small32_snoc h.small (subL_lt _ _ _), subB_le _ _ _⟩
  rw [val_snoc, h.len, val_take_succ xs, val_take_succ ys, pw_succ]
  exact borrow_step h.eq (sub_limb (small32_nth hx i) (small32_nth hy i) h.le)

theorem DifA.done {xs ys out : List Nat} {c m : Nat} (h : DifA xs ys out m c) (h1 : xs.length = m) (h2 : ys.length ≤ m) (hle : val ys ≤ val xs) : val out = val xs - val ys := by
  have e := h.eq
  rw [List.take_of_length_le h2, List.take_of_length_le (by omega)] at e
  have a := val_lt' h.small
  rw [h.len] at a
  have l := h.le
  have hc : c = 0 := by
    rcases Nat.lt_or_ge 0 c with h' | h'
    · obtain rfl : c = 1 := by omega
      omega
    · omega
  subst hc
  omega

structure Row (xs out : List Nat) (off n i c : Nat) : Prop where
  len : out.length = off + i
  eq : val out + pw (off + i) * c = pw off * (val (xs.take i) * n)
  small : small32 out
  lt : c < 4294967296

theorem Row.start (xs : List Nat) (off n : Nat) : Row xs (zs off) off n 0 0 := ⟨zs_length off, by rw [val_zs]; simp [val], fun x hx => by
  have : x = 0 := List.eq_of_mem_replicate hx
  omega, by decide⟩

theorem Row.step {xs out : List Nat} {off n i c : Nat} (h : Row xs out off n i c) (hx : small32 xs) (hn : n < 4294967296) :
    Row xs (out ++ [(nth xs i * n + c) % 4294967296]) off n (i + 1) ((nth xs i * n + c) / 4294967296) := by
  have a : nth xs i * n ≤ 18446744065119617025 := by
    have := Nat.mul_le_mul (show nth xs i ≤ 4294967295 by have := small32_nth hx i; omega) (show n ≤ 4294967295 by omega)
    simpa using this
  have l := h.lt
  refine ⟨by simp [h.len]; omega, ?_, small32_snoc h.small (by omega), by omega⟩
  rw [val_snoc, h.len, val_take_succ xs, ← Nat.add_assoc, pw_succ, Nat.add_mul, Nat.mul_add (pw off)]
  have e := carry_step (p := pw (off + i)) (B := 4294967296) (a := nth xs i * n) (b := 0) (y := 0) (x := pw off * (val (xs.take i) * n)) (c := c) (s := (nth xs i * n + c) % 4294967296) (c' := (nth xs i * n + c) / 4294967296) h.eq (by omega)
  have e2 : pw off * (pw i * nth xs i * n) = pw (off + i) * (nth xs i * n) := by rw [pw_add, Nat.mul_assoc, Nat.mul_assoc]
  omega

theorem Row.done {xs out : List Nat} {off n c : Nat} (h : Row xs out off n xs.length c) : val (out ++ [c]) = pw off * (val xs * n) ∧ small32 (out ++ [c]) := by
  have e := h.eq
  rw [List.take_of_length_le (Nat.le_refl _)] at e
  exact ⟨by rw [val_snoc, h.len]; exact e, small32_snoc h.small h.lt⟩

/-! ### Comparing -/

theorem canon_pos {xs : List Nat} (hc : canon xs) {n : Nat} (hn : xs.length = n + 1) : pw n ≤ val xs := by
  have h := val_split xs n (by omega)
  have hd : xs.drop n = [nth xs n] := by
    rw [drop_nth (by omega), List.drop_eq_nil_of_le (by omega)]
  rw [hd] at h
  have hnz : nth xs n ≠ 0 := by
    intro e
    apply hc
    rw [List.getLast?_eq_getElem?, getElem?_pos xs (xs.length - 1) (by omega)]
    simp only [hn, Nat.add_sub_cancel]
    rw [← nth_eq (by omega), e]
  simp only [val, Nat.mul_zero, Nat.add_zero] at h
  have := Nat.le_mul_of_pos_right (pw n) (show 0 < nth xs n by omega)
  omega

theorem len_lt {xs ys : List Nat} (hs : small32 xs) (hc : canon ys) (h : xs.length < ys.length) : val xs < val ys := by
  obtain ⟨n, hn⟩ : ∃ n, ys.length = n + 1 := ⟨ys.length - 1, by omega⟩
  have a := val_lt' hs
  have b := canon_pos hc hn
  have c := pw_le (show xs.length ≤ n by omega)
  omega

theorem len_le {xs ys : List Nat} (hs : small32 ys) (hc : canon xs) (h : val xs ≤ val ys) : xs.length ≤ ys.length := by
  rcases Nat.lt_or_ge ys.length xs.length with h' | h'
  · have := len_lt hs hc h'; omega
  · exact h'

theorem top_lt {xs ys : List Nat} (hs : small32 xs) (hl : xs.length = ys.length) {i : Nat} (hi : i < xs.length) (hd : xs.drop (i + 1) = ys.drop (i + 1)) (h : nth xs i < nth ys i) : val xs < val ys := by
  have a := val_split xs (i + 1) (by omega)
  have b := val_split ys (i + 1) (by omega)
  rw [hd] at a
  rw [val_take_succ] at a b
  have c := val_lt' (small32_take hs i)
  rw [List.length_take, Nat.min_eq_left (by omega)] at c
  have d := Nat.mul_le_mul_left (pw i) (show nth xs i + 1 ≤ nth ys i by omega)
  rw [Nat.mul_add] at d
  omega

theorem drop_same {xs ys : List Nat} (hl : xs.length = ys.length) {i : Nat} (hi : i < xs.length) (hd : xs.drop (i + 1) = ys.drop (i + 1)) (h : nth xs i = nth ys i) : xs.drop i = ys.drop i := by
  rw [drop_nth hi, drop_nth (xs := ys) (by omega), hd, h]

/-! ### A row of a product -/

structure Tim (zs xs out : List Nat) (off n i c : Nat) : Prop where
  eq : val (out.take (off + i)) + pw (off + i) * c = val (zs.take (off + i)) + pw off * (val (xs.take i) * n)
  rest : out.drop (off + i) = zs.drop (off + i)
  len : out.length = zs.length
  small : small32 out
  lt : c < 4294967296

theorem Tim.start {zs xs : List Nat} {off n : Nat} (hz : small32 zs) : Tim zs xs zs off n 0 0 := ⟨by simp [val], rfl, rfl, hz, by decide⟩

theorem Tim.at {zs xs out : List Nat} {off n i c : Nat} (h : Tim zs xs out off n i c) : nth out (off + i) = nth zs (off + i) := by
  have := congrArg (fun l => nth l 0) h.rest
  simpa only [nth_drop, Nat.add_zero] using this

theorem mul_lt_sq {a b : Nat} (ha : a < 4294967296) (hb : b < 4294967296) : a * b ≤ 18446744065119617025 := by
  have := Nat.mul_le_mul (show a ≤ 4294967295 by omega) (show b ≤ 4294967295 by omega)
  simpa using this

theorem Tim.step {zs xs out : List Nat} {off n i c : Nat} (h : Tim zs xs out off n i c) (hx : small32 xs) (hn : n < 4294967296) (hi : off + i < zs.length) :
    Tim zs xs (out.set (off + i) ((nth xs i * n + nth out (off + i) + c) % 4294967296)) off n (i + 1) ((nth xs i * n + nth out (off + i) + c) / 4294967296) := by
  have a := mul_lt_sq (small32_nth hx i) hn
  have b := small32_nth h.small (off + i)
  have l := h.lt
  refine ⟨?_, ?_, by simp [h.len], small32_set h.small _ _ (by omega), by omega⟩
  · rw [← Nat.add_assoc, val_take_set (by rw [h.len]; exact hi), val_take_succ zs, val_take_succ xs, pw_succ, ← h.at, Nat.add_mul, Nat.mul_add (pw off)]
    have e := carry_step (p := pw (off + i)) (B := 4294967296) (a := nth out (off + i)) (b := nth xs i * n) (c := c) (s := (nth xs i * n + nth out (off + i) + c) % 4294967296) (c' := (nth xs i * n + nth out (off + i) + c) / 4294967296) h.eq (by omega)
    have e2 : pw off * (pw i * nth xs i * n) = pw (off + i) * (nth xs i * n) := by rw [pw_add, Nat.mul_assoc, Nat.mul_assoc]
    omega
  · rw [← Nat.add_assoc, set_drop_gt _ (by omega)]
    have := congrArg (List.drop 1) h.rest
    simpa using this

/-- The last carry is added to the limb behind the row. -/
theorem Tim.done {zs xs out : List Nat} {off n c : Nat} (h : Tim zs xs out off n xs.length c) (hl : off + xs.length < zs.length) :
    val (out.set (off + xs.length) (nth out (off + xs.length) + c)) = val zs + pw off * (val xs * n) := by
  have e := h.eq
  rw [List.take_of_length_le (Nat.le_refl _)] at e
  rw [val_split (out.set _ _) (off + xs.length + 1) (by simp [h.len]; omega), val_take_set (by rw [h.len]; exact hl), set_drop_gt _ (by omega),
    val_split zs (off + xs.length + 1) (by omega), val_take_succ zs, h.at, Nat.mul_add]
  have hr : out.drop (off + xs.length + 1) = zs.drop (off + xs.length + 1) := by
    have := congrArg (List.drop 1) h.rest
    simpa using this
  rw [hr]
  omega

theorem val_take_le (xs : List Nat) (i : Nat) : val (xs.take i) ≤ val xs := by
  by_cases h : i ≤ xs.length
  · have := val_split xs i h; omega
  · rw [List.take_of_length_le (by omega)]; exact Nat.le_refl _

theorem Tim.fits {zs xs out : List Nat} {off n c : Nat} (h : Tim zs xs out off n xs.length c) (hf : val zs + pw off * (val xs * n) < pw (off + xs.length + 1)) : nth out (off + xs.length) + c < 4294967296 := by
  have e := h.eq
  rw [List.take_of_length_le (Nat.le_refl _)] at e
  rw [h.at]
  have a := val_take_succ zs (off + xs.length)
  have b := val_take_le zs (off + xs.length + 1)
  rw [pw_succ, Nat.mul_comm 4294967296] at hf
  refine Nat.lt_of_mul_lt_mul_left (a := pw (off + xs.length)) ?_
  rw [Nat.mul_add]
  omega

/-- What Mul's i-th row adds fits. -/
theorem row_fits {xs ys zs : List Nat} {i : Nat} (hx : small32 xs) (hy : small32 ys) (hz : val zs = val xs * val (ys.take i)) (hi : i < ys.length) : val zs + pw i * (val xs * nth ys i) = val xs * val (ys.take (i + 1)) ∧ val zs + pw i * (val xs * nth ys i) < pw (i + xs.length + 1) := by
  have e : val zs + pw i * (val xs * nth ys i) = val xs * val (ys.take (i + 1)) := by
    rw [val_take_succ, Nat.mul_add, hz, Nat.mul_left_comm]
  refine ⟨e, ?_⟩
  rw [e]
  have a := val_lt' hx
  have b := val_lt' (small32_take hy (i + 1))
  rw [List.length_take, Nat.min_eq_left (by omega)] at b
  have c := Nat.mul_lt_mul_of_lt_of_le a (Nat.le_of_lt b) (pw_pos _)
  rw [← pw_add] at c
  rwa [show i + xs.length + 1 = xs.length + (i + 1) by omega]

/-! ### Division by one limb -/

structure Sml (xs out : List Nat) (n i r : Nat) : Prop where
  eq : val (xs.drop i) = val (out.drop i) * n + r
  len : out.length = xs.length
  small : small32 out
  lt : r < n

theorem Sml.step {xs out : List Nat} {n i r : Nat} (h : Sml xs out n (i + 1) r) (hx : small32 xs) (hn : n ≤ 4294967296) (hi : i < xs.length) :
    Sml xs (out.set i ((r * 4294967296 + nth xs i) / n)) n i ((r * 4294967296 + nth xs i) % n) ∧ (r * 4294967296 + nth xs i) / n < 4294967296 := by
  have l := h.lt
  have a := small32_nth hx i
  have hq : (r * 4294967296 + nth xs i) / n < 4294967296 := by
    rw [Nat.div_lt_iff_lt_mul (by omega)]
    have := Nat.mul_le_mul_right 4294967296 (show r + 1 ≤ n by omega)
    rw [Nat.mul_comm 4294967296 n]
    omega
  refine ⟨⟨?_, by simp [h.len], small32_set h.small _ _ hq, Nat.mod_lt _ (by omega)⟩, hq⟩
  rw [set_drop (by rw [h.len]; exact hi), drop_nth hi, val, val, h.eq]
  have d := Nat.div_add_mod (r * 4294967296 + nth xs i) n
  rw [Nat.mul_comm] at d
  rw [Nat.add_mul, Nat.mul_add, Nat.mul_assoc]
  omega

theorem Sml.done {xs out : List Nat} {n r : Nat} (h : Sml xs out n 0 r) : val out = val xs / n ∧ r = val xs % n := by
  have e := h.eq
  have l := h.lt
  rw [List.drop_zero, List.drop_zero] at e
  have hn : 0 < n := by omega
  rw [e]
  constructor
  · rw [Nat.mul_comm, Nat.mul_add_div hn, Nat.div_eq_of_lt l]; omega
  · rw [Nat.mul_comm, Nat.mul_add_mod, Nat.mod_eq_of_lt l]

end Go.Suf
