/- Decimal digits of numbers, as plain data. No condition. -/
import Derived.Test.YtdaajeklnhbhjaaDoorNatLong
namespace Go.Suf
open Go.RowKit
set_option linter.unusedVariables false
set_option linter.unusedSimpArgs false

/-- The number that decimal digits stand for, the last digit first. -/
def dval : List Nat → Nat
  | [] => 0
  | x :: xs => x + 10 * dval xs

/-- The decimal digits of a number, the last one first, without leading zeros. -/
def decs (n : Nat) : List Nat :=
  if h : n = 0 then [] else n % 10 :: decs (n / 10)
termination_by n
decreasing_by omega

theorem decs_zero : decs 0 = [] := by rw [decs]; simp
theorem decs_pos {n : Nat} (h : n ≠ 0) : decs n = n % 10 :: decs (n / 10) := by
  rw [decs]
  simp [h]

def dig10 (xs : List Nat) : Prop := ∀ x ∈ xs, x < 10
theorem dig10.tail {x : Nat} {xs : List Nat} (h : dig10 (x :: xs)) : dig10 xs := fun y hy => h y (by simp [hy])
theorem dig10.head {x : Nat} {xs : List Nat} (h : dig10 (x :: xs)) : x < 10 := h x (by simp)

theorem dval_decs : ∀ n, dval (decs n) = n := by
  intro n
  induction n using Nat.strongRecOn with
  | ind n ih =>
    by_cases h : n = 0
    · subst h; rw [decs_zero]; rfl
    · rw [decs_pos h, dval, ih _ (by omega)]
      omega

theorem decs_dig : ∀ n, dig10 (decs n) := by
  intro n
  induction n using Nat.strongRecOn with
  | ind n ih =>
    by_cases h : n = 0
    · subst h; rw [decs_zero]; intro x hx; simp at hx
    · rw [decs_pos h]
      intro x hx
      simp only [List.mem_cons] at hx
      rcases hx with rfl | hx
      · omega
      · exact ih _ (by omega) x hx

theorem decs_canon : ∀ n, canon (decs n) := by
  intro n
  induction n using Nat.strongRecOn with
  | ind n ih =>
    by_cases h : n = 0
    · subst h; rw [decs_zero]; simp [canon]
    · rw [decs_pos h]
      have i2 := ih (n / 10) (by omega)
      generalize hl : decs (n / 10) = l at i2
      cases l with
      | nil =>
        have : n / 10 = 0 := by
          by_cases h0 : n / 10 = 0
          · exact h0
          · rw [decs_pos h0] at hl; simp at hl
        simp [canon]
        omega
      | cons y ys => simpa [canon] using i2

theorem canon_tail {x : Nat} {xs : List Nat} (h : canon (x :: xs)) : canon xs := by
  cases xs with
  | nil => simp [canon]
  | cons y ys => simpa [canon] using h

theorem decs_dval : ∀ {xs : List Nat}, dig10 xs → canon xs → decs (dval xs) = xs
  | [], _, _ => decs_zero
  | x :: xs, h, hc => by
    have ih := decs_dval h.tail (canon_tail hc)
    have hx := h.head
    have hnz : x + 10 * dval xs ≠ 0 := by
      intro e
      have e1 : dval xs = 0 := by omega
      rw [e1, decs_zero] at ih
      subst ih
      apply hc
      simp
      omega
    rw [dval, decs_pos hnz, show (x + 10 * dval xs) % 10 = x by omega, show (x + 10 * dval xs) / 10 = dval xs by omega, ih]

theorem dval_append (xs ys : List Nat) : dval (xs ++ ys) = dval xs + 10 ^ xs.length * dval ys := by
  induction xs with
  | nil => simp [dval]
  | cons x xs ih =>
    simp only [List.cons_append, dval, ih, List.length_cons, Nat.pow_succ]
    generalize 10 ^ xs.length = p
    rw [Nat.mul_add, ← Nat.mul_assoc, Nat.mul_comm 10 p, Nat.add_assoc]

theorem dval_zero : ∀ {xs : List Nat}, (∀ x ∈ xs, x = 0) → dval xs = 0
  | [], _ => rfl
  | x :: xs, h => by
    rw [dval, h x (by simp), dval_zero (fun y hy => h y (by simp [hy]))]

/-- What is left when the leading zeros have been dropped. -/
theorem take_decs {xs : List Nat} (hs : dig10 xs) {k : Nat} (hk : k ≤ xs.length) (hz : ∀ j, k ≤ j → j < xs.length → nth xs j = 0) (hl : k = 0 ∨ nth xs (k - 1) ≠ 0) : decs (dval xs) = xs.take k := by
  have hd : dval (xs.drop k) = 0 := dval_zero fun x hx => by
    obtain ⟨j, hj, rfl⟩ := List.getElem_of_mem hx
    have := hz (k + j) (by omega) (by simp at hj; omega)
    rwa [← nth_drop, nth_eq hj] at this
  have hv : dval xs = dval (xs.take k) := by
    have := dval_append (xs.take k) (xs.drop k)
    rw [List.take_append_drop, hd] at this
    simpa using this
  rw [hv]
  refine decs_dval (fun x hx => hs x (List.mem_of_mem_take hx)) ?_
  unfold canon
  rcases hl with rfl | hl
  · simp
  · by_cases h0 : k = 0
    · subst h0; simp
    · rw [List.getLast?_eq_getElem?, List.length_take, Nat.min_eq_left hk, List.getElem?_take]
      simp only [show k - 1 < k by omega, if_true]
      rw [getElem?_pos xs (k - 1) (by omega), ← nth_eq (by omega)]
      simpa using hl

/-- k digits of a number, leading zeros included. -/
def pad : Nat → Nat → List Nat
  | 0, _ => []
  | k + 1, n => n % 10 :: pad k (n / 10)

theorem pad_length (k n : Nat) : (pad k n).length = k := by
  induction k generalizing n with
  | zero => rfl
  | succ k ih => simp [pad, ih]

theorem pad_dig (k n : Nat) : dig10 (pad k n) := by
  induction k generalizing n with
  | zero => intro x hx; simp [pad] at hx
  | succ k ih =>
    intro x hx
    simp only [pad, List.mem_cons] at hx
    rcases hx with rfl | hx
    · omega
    · exact ih _ x hx

theorem pad_succ (k n : Nat) : pad (k + 1) n = pad k n ++ [n / 10 ^ k % 10] := by
  induction k generalizing n with
  | zero => simp [pad]
  | succ k ih =>
    rw [pad, ih, pad]
    simp [Nat.pow_succ, Nat.div_div_eq_div_mul, Nat.mul_comm]

theorem dval_pad (k n : Nat) : dval (pad k n) = n % 10 ^ k := by
  induction k generalizing n with
  | zero => simp [pad, dval, Nat.mod_one]
  | succ k ih =>
    rw [pad, dval, ih, Nat.pow_succ, Nat.mul_comm (10 ^ k) 10, Nat.mod_mul]

/-- The decimal string's bytes. -/
def textN (n : Nat) : List Nat := if n = 0 then [48] else ((decs n).map (· + 48)).reverse

theorem dval_lt {xs : List Nat} (h : dig10 xs) : dval xs < 10 ^ xs.length := by
  induction xs with
  | nil => simp [dval]
  | cons x xs ih =>
    have a := ih h.tail
    have b := h.head
    simp only [dval, List.length_cons, Nat.pow_succ]
    generalize 10 ^ xs.length = p at *
    omega

theorem pw_ten (i : Nat) : pw i ≤ 10 ^ (10 * i) := by
  rw [Nat.pow_mul]
  exact Nat.pow_le_pow_left (by decide) i

/-- A group of nine digits more. -/
theorem group_step {ds : List Nat} {A N : Nat} (h : dval ds + 10 ^ ds.length * A = N) : dval (ds ++ pad 9 (A % 1000000000)) + 10 ^ (ds ++ pad 9 (A % 1000000000)).length * (A / 1000000000) = N := by
  rw [dval_append, dval_pad, List.length_append, pad_length, Nat.pow_add]
  have e := Nat.mod_add_div A 1000000000
  rw [Nat.mod_eq_of_lt (show A % 1000000000 < 10 ^ 9 from Nat.mod_lt _ (by decide)), Nat.mul_assoc, Nat.add_assoc, ← Nat.mul_add]
  have e2 : A % 1000000000 + 10 ^ 9 * (A / 1000000000) = A := e
  rw [e2]
  exact h

/-- The number whose decimal string the bytes are, the first digit first. -/
def dread : List Nat → Nat → Nat
  | [], acc => acc
  | x :: xs, acc => dread xs (10 * acc + (x - 48))

theorem dread_take_succ {xs : List Nat} {k : Nat} (h : k < xs.length) : dread (xs.take (k + 1)) 0 = 10 * dread (xs.take k) 0 + (nth xs k - 48) := by
  have gen : ∀ (ys : List Nat) (z acc : Nat), dread (ys ++ [z]) acc = 10 * dread ys acc + (z - 48) := by
    intro ys
    induction ys with
    | nil => intro z acc; simp [dread]
    | cons y ys ih => intro z acc; simp only [List.cons_append, dread]; exact ih z _
  rw [take_succ_nth h, gen]

/-- Whether the bytes are the decimal string of a number. -/
def formB (xs : List Nat) : Bool := decide (xs ≠ [] ∧ (nth xs 0 = 48 → xs.length ≤ 1) ∧ ∀ x ∈ xs, 48 ≤ x ∧ x ≤ 57)

theorem dread_dval (ds : List Nat) (acc : Nat) : dread ((ds.map (· + 48)).reverse) acc = dval ds + 10 ^ ds.length * acc := by
  induction ds generalizing acc with
  | nil => simp [dread, dval]
  | cons d ds ih =>
    have gen : ∀ (ys : List Nat) (z acc : Nat), dread (ys ++ [z]) acc = 10 * dread ys acc + (z - 48) := by
      intro ys
      induction ys with
      | nil => intro z acc; simp [dread]
      | cons y ys ih => intro z acc; simp only [List.cons_append, dread]; exact ih z _
    rw [List.map_cons, List.reverse_cons, gen, ih, dval, List.length_cons, Nat.pow_succ, Nat.mul_add, Nat.mul_comm (10 ^ ds.length) 10, Nat.mul_assoc]
    omega

theorem dread_textN (n : Nat) : dread (textN n) 0 = n := by
  unfold textN
  split
  · subst_vars; rfl
  · rw [dread_dval, dval_decs]; simp

theorem textN_form (n : Nat) : formB (textN n) = true := by
  unfold textN formB
  rw [decide_eq_true_eq]
  split
  · refine ⟨by simp, by simp, fun x hx => by simp at hx; omega⟩
  · rename_i h
    have hc := decs_canon n
    have hd := decs_dig n
    have hne : decs n ≠ [] := by rw [decs_pos h]; simp
    refine ⟨by simpa using hne, fun e => ?_, fun x hx => ?_⟩
    · exfalso
      have hl : 0 < (decs n).length := by
        cases hq : decs n with
        | nil => exact absurd hq hne
        | cons a l => simp
      rw [nth_eq (by simpa using hl)] at e
      simp at e
      apply hc
      rw [List.getLast?_eq_getElem?, getElem?_pos _ _ (by omega), e]
    · simp at hx
      obtain ⟨a, ha, rfl⟩ := hx
      have := hd a ha
      omega

/-- Read back: the digits of the number read. -/
theorem textN_dread {xs : List Nat} (h : formB xs = true) : textN (dread xs 0) = xs := by
  unfold formB at h
  rw [decide_eq_true_eq] at h
  obtain ⟨h1, h2, h3⟩ := h
  have e : xs = ((xs.reverse.map (· - 48)).map (· + 48)).reverse := by
    rw [List.map_map, ← List.map_reverse, List.reverse_reverse]
    conv => lhs; rw [← List.map_id xs]
    apply List.map_congr_left
    intro x hx
    have := h3 x hx
    simp
    omega
  have hd : dig10 (xs.reverse.map (· - 48)) := by
    intro y hy
    simp at hy
    obtain ⟨a, ha, rfl⟩ := hy
    have := h3 a ha
    omega
  generalize hds : xs.reverse.map (· - 48) = ds at e hd
  have hr : dread xs 0 = dval ds := by
    rw [e, dread_dval]; simp
  rw [hr]
  by_cases hz : canon ds
  · have hdd := decs_dval hd hz
    unfold textN
    split
    · rename_i h0
      rw [h0, decs_zero] at hdd
      subst hdd
      simp at e
      exact absurd e h1
    · rw [hdd]; exact e.symm
  · -- the first digit is 0: the string is 0
    have hl : ds.getLast? = some 0 := by
      unfold canon at hz
      simpa using hz
    have hx0 : nth xs 0 = 48 := by
      have hlen : 0 < ds.length := by
        cases ds with
        | nil => simp at hl
        | cons a l => simp
      rw [List.getLast?_eq_getElem?, getElem?_pos _ _ (by omega)] at hl
      simp at hl
      rw [e, nth_eq (by simpa using hlen)]
      simp [hl]
    have hx1 := h2 hx0
    match xs, h1, hx1, hx0 with
    | [x], _, _, hx0 =>
      simp [nth] at hx0
      subst hx0
      simp at hds
      subst hds
      rfl

/-! ### Ten times a number, and a digit -/

structure Ten (us out : List Nat) (d i c : Nat) : Prop where
  eq : val (out.take i) + pw i * c = 10 * val (us.take i) + d
  rest : out.drop i = us.drop i
  len : out.length = us.length
  small : small32 out
  lt : c < 10

theorem Ten.start {us : List Nat} {d : Nat} (hu : small32 us) (hd : d < 10) : Ten us us d 0 d := ⟨by simp [val, pw], rfl, rfl, hu, hd⟩

theorem Ten.at {us out : List Nat} {d i c : Nat} (h : Ten us out d i c) : nth out i = nth us i := by
  have := congrArg (fun l => nth l 0) h.rest
  simpa only [nth_drop, Nat.add_zero] using this

theorem Ten.step {us out : List Nat} {d i c : Nat} (h : Ten us out d i c) (hi : i < us.length) :
    Ten us (out.set i ((c + nth out i * 10) % 4294967296)) d (i + 1) ((c + nth out i * 10) / 4294967296) := by
  have a := small32_nth h.small i
  have l := h.lt
  refine ⟨?_, ?_, by simp [h.len], small32_set h.small _ _ (by omega), by omega⟩
  · rw [val_take_set (by rw [h.len]; exact hi), val_take_succ us, pw_succ, ← h.at]
    have e := carry_step (p := pw i) (B := 4294967296) (a := nth out i * 10) (b := 0) (y := d) (x := 10 * val (us.take i)) (c := c) (s := (c + nth out i * 10) % 4294967296) (c' := (c + nth out i * 10) / 4294967296) h.eq (by omega)
    have e2 : pw i * (nth out i * 10) = 10 * (pw i * nth out i) := by rw [← Nat.mul_assoc, Nat.mul_comm]
    omega
  · rw [set_drop_gt _ (by omega)]
    have := congrArg (List.drop 1) h.rest
    simpa using this

theorem canon_ge {xs : List Nat} {n : Nat} (hs : small32 xs) (hl : xs.length = n + 1) (h : pw n ≤ val xs) : canon xs := by
  intro e
  rw [List.getLast?_eq_getElem?, getElem?_pos xs (xs.length - 1) (by omega)] at e
  simp only [hl, Nat.add_sub_cancel, Option.some.injEq] at e
  have s := val_take_succ xs n
  rw [List.take_of_length_le (show xs.length ≤ n + 1 by omega), nth_eq (show n < xs.length by omega), e] at s
  have a := val_lt' (small32_take hs n)
  rw [List.length_take, Nat.min_eq_left (by omega)] at a
  omega

theorem Ten.done {X out : List Nat} {N d c : Nat} (h : Ten X out d X.length c) (hX : X = limbs N) :
    (c = 0 → out = limbs (10 * N + d)) ∧ (c ≠ 0 → out ++ [c] = limbs (10 * N + d)) := by
  have e := h.eq
  have hl := h.len
  rw [List.take_of_length_le (show out.length ≤ X.length by omega), List.take_of_length_le (Nat.le_refl _)] at e
  have hv : val X = N := by rw [hX, val_limbs]
  rw [hv] at e
  have hc := limbs_canon N
  rw [← hX] at hc
  constructor
  · intro h0
    subst h0
    have e2 : val out = 10 * N + d := by omega
    rw [← e2]
    refine (limbs_val h.small ?_).symm
    by_cases hn : X.length = 0
    · rw [List.eq_nil_of_length_eq_zero (by omega : out.length = 0)]
      simp [canon]
    · obtain ⟨n, hn2⟩ : ∃ n, X.length = n + 1 := ⟨X.length - 1, by omega⟩
      have := canon_pos hc hn2
      rw [hv] at this
      exact canon_ge (n := n) h.small (by omega) (by omega)
  · intro h0
    have hs : small32 (out ++ [c]) := by
      intro x hx
      rw [List.mem_append] at hx
      rcases hx with hx | hx
      · exact h.small x hx
      · simp at hx; subst hx; have := h.lt; omega
    have e2 : val (out ++ [c]) = 10 * N + d := by
      rw [val_app, hl]
      simp only [val]
      omega
    rw [← e2]
    refine (limbs_val hs ?_).symm
    simp [canon, h0]

theorem dread_mono {xs : List Nat} {k : Nat} (hk : k ≤ xs.length) : dread (xs.take k) 0 ≤ dread xs 0 := by
  obtain ⟨d, hd⟩ : ∃ d, xs.length = k + d := ⟨xs.length - k, by omega⟩
  induction d generalizing k with
  | zero => rw [List.take_of_length_le (by omega)]; exact Nat.le_refl _
  | succ d ih =>
    have a := ih (k := k + 1) (by omega) (by omega)
    have b := dread_take_succ (xs := xs) (k := k) (by omega)
    omega

theorem limbs_len_mono {N M : Nat} (h : N ≤ M) : (limbs N).length ≤ (limbs M).length :=
  len_le (limbs_small M) (limbs_canon N) (by rw [val_limbs, val_limbs]; exact h)

theorem decs_len {k : Nat} : ∀ {n : Nat}, n < 10 ^ k → (decs n).length ≤ k := by
  induction k with
  | zero =>
    intro n h
    have : n = 0 := by simpa using h
    rw [this, decs_zero]
    simp
  | succ k ih =>
    intro n h
    by_cases h0 : n = 0
    · rw [h0, decs_zero]; simp
    · rw [decs_pos h0, List.length_cons]
      have := ih (n := n / 10) (by rw [Nat.pow_succ] at h; omega)
      omega

theorem textN_lenk {A k : Nat} (h : A < pw k) (hk : 0 < k) : (textN A).length ≤ 10 * k := by
  unfold textN
  split
  · rw [List.length_singleton]; omega
  · rw [List.length_reverse, List.length_map]
    exact decs_len (Nat.lt_of_lt_of_le h (pw_ten k))

theorem textN_len {A : Nat} (h : A < pw 96) : (textN A).length ≤ 960 := textN_lenk h (by decide)

theorem textN_bd (A : Nat) : ∀ x ∈ textN A, x < 256 := by
  have h := textN_form A
  unfold formB at h
  rw [decide_eq_true_eq] at h
  intro x hx
  have := h.2.2 x hx
  omega

theorem textN_ne (A : Nat) : 0 < (textN A).length := by
  have h := textN_form A
  unfold formB at h
  rw [decide_eq_true_eq] at h
  cases hq : textN A with
  | nil => exact absurd hq h.1
  | cons a l => simp

/-- A number's string: its tenth's, and its last digit's. -/
theorem textN_tenth {A : Nat} (h : 10 ≤ A) : textN A = textN (A / 10) ++ textN (A % 10) := by
  have e1 : textN (A % 10) = [A % 10 + 48] := by
    unfold textN
    split
    · rename_i h0
      rw [h0]
    · rename_i h0
      rw [decs_pos h0, show A % 10 / 10 = 0 by omega, decs_zero]
      simp
  have e2 : textN (A / 10) = ((decs (A / 10)).map (· + 48)).reverse := by
    unfold textN
    rw [if_neg (by omega)]
  rw [e1, e2]
  unfold textN
  rw [if_neg (by omega), decs_pos (show A ≠ 0 by omega)]
  simp

theorem textN_digit {A : Nat} (h : A < 10) : (textN A).length = 1 := by
  unfold textN
  split
  · rfl
  · rename_i h0
    rw [decs_pos h0, show A / 10 = 0 by omega, decs_zero]
    simp

theorem textN_long {A : Nat} (h : 10 ≤ A) : 2 ≤ (textN A).length := by
  rw [textN_tenth h, List.length_append]
  have := textN_ne (A / 10)
  have := textN_ne (A % 10)
  omega

end Go.Suf
