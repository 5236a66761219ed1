/- Binary division and the binary greatest common divisor, as plain data. No condition. -/
import Derived.Test.YtfcejgeckcoefaaNatDec
namespace Go.Suf
open Go.RowKit
set_option linter.unusedVariables false
set_option linter.unusedSimpArgs false

theorem val_set {xs : List Nat} {i : Nat} (h : i < xs.length) (v : Nat) : val (xs.set i v) + pw i * nth xs i = val xs + pw i * v := by
  rw [val_split (xs.set i v) (i + 1) (by simp; omega), val_take_set h, set_drop_gt _ (by omega), val_split xs (i + 1) (by omega), val_take_succ xs]
  omega

theorem two_pow_add (i j : Nat) : (2 : Nat) ^ (i + j) = 2 ^ i * 2 ^ j := Nat.pow_add _ _ _

theorem pw_two (j : Nat) : pw j = 2 ^ (32 * j) := by
  rw [Nat.pow_mul]
  rfl

/-- A number about its limb j. -/
theorem val_mid {xs : List Nat} {j : Nat} (h : j < xs.length) : val xs = val (xs.take j) + pw j * (nth xs j + 4294967296 * val (xs.drop (j + 1))) := by
  have := val_split xs j (by omega)
  rwa [drop_nth h, val] at this

theorem bit_at {xs : List Nat} {j s : Nat} (hx : small32 xs) (h : j < xs.length) (hs : s < 32) : val xs / 2 ^ (32 * j + s) % 2 = nth xs j / 2 ^ s % 2 := by
  have a := val_lt' (small32_take hx j)
  rw [List.length_take, Nat.min_eq_left (by omega)] at a
  rw [two_pow_add, ← Nat.div_div_eq_div_mul, ← pw_two]
  have e : val xs / pw j = nth xs j + 4294967296 * val (xs.drop (j + 1)) := by
    rw [val_mid h, Nat.add_mul_div_left _ _ (pw_pos j), Nat.div_eq_of_lt a]
    omega
  rw [e]
  have e2 : 4294967296 = 2 ^ s * (2 * 2 ^ (31 - s)) := by
    rw [← Nat.pow_succ', ← Nat.pow_add, show s + (31 - s + 1) = 32 by omega]
  generalize val (xs.drop (j + 1)) = H
  have e3 : nth xs j + 4294967296 * H = nth xs j + 2 ^ s * (2 * (2 ^ (31 - s) * H)) := by
    rw [e2, Nat.mul_assoc, Nat.mul_assoc]
  rw [e3, Nat.add_mul_div_left _ _ (Nat.pow_pos (by decide))]
  generalize nth xs j / 2 ^ s = Y
  generalize 2 ^ (31 - s) * H = Z
  omega

/-- A multiple of 2^(32 j + s + 1): limb j is a multiple of 2^(s + 1). -/
theorem limb_mult {xs : List Nat} {j s K : Nat} (hx : small32 xs) (h : j < xs.length) (hs : s < 32) (hv : val xs = K * 2 ^ (32 * j + s + 1)) : nth xs j + 2 ^ s < 4294967296 := by
  have a := val_lt' (small32_take hx j)
  rw [List.length_take, Nat.min_eq_left (by omega)] at a
  have m := val_mid h
  rw [show 32 * j + s + 1 = 32 * j + (s + 1) by omega, two_pow_add, ← pw_two, Nat.mul_left_comm] at hv
  -- val (take j) is 0
  have e : val xs / pw j = nth xs j + 4294967296 * val (xs.drop (j + 1)) := by
    rw [m, Nat.add_mul_div_left _ _ (pw_pos j), Nat.div_eq_of_lt a]
    omega
  rw [hv, Nat.mul_div_cancel_left _ (pw_pos j)] at e
  have e2 : 4294967296 = 2 ^ (s + 1) * 2 ^ (31 - s) := by rw [← Nat.pow_add, show s + 1 + (31 - s) = 32 by omega]
  have hx2 : nth xs j % 2 ^ (s + 1) = 0 := by
    have h1 : (nth xs j + 4294967296 * val (xs.drop (j + 1))) % 2 ^ (s + 1) = 0 := by rw [← e, Nat.mul_mod_left]
    have h2 : nth xs j + 4294967296 * val (xs.drop (j + 1)) = nth xs j + 2 ^ (s + 1) * (2 ^ (31 - s) * val (xs.drop (j + 1))) := by
      rw [e2, Nat.mul_assoc]
    rw [h2, Nat.add_mul_mod_self_left] at h1
    exact h1
  have hlt := small32_nth hx j
  generalize nth xs j = x at *
  -- x = 2^(s+1) * t with t < 2^(31-s)
  have h3 := Nat.div_add_mod x (2 ^ (s + 1))
  rw [hx2, Nat.add_zero] at h3
  have h4 : x / 2 ^ (s + 1) < 2 ^ (31 - s) := by
    rw [Nat.div_lt_iff_lt_mul (Nat.pow_pos (by decide)), Nat.mul_comm, ← e2]
    exact hlt
  have h5 := Nat.mul_le_mul_left (2 ^ (s + 1)) (show x / 2 ^ (s + 1) + 1 ≤ 2 ^ (31 - s) from h4)
  rw [Nat.mul_add, h3, ← e2, Nat.mul_one] at h5
  have h6 : 2 ^ (s + 1) = 2 * 2 ^ s := by rw [Nat.pow_succ, Nat.mul_comm]
  have h7 : 0 < 2 ^ s := Nat.pow_pos (by decide)
  omega

/-- One bit more of a division. -/
theorem bit_step {A V i : Nat} (hV : 0 < V) : A / 2 ^ i % V = (if A / 2 ^ (i + 1) % V + A / 2 ^ (i + 1) % V + A / 2 ^ i % 2 < V then A / 2 ^ (i + 1) % V + A / 2 ^ (i + 1) % V + A / 2 ^ i % 2 else A / 2 ^ (i + 1) % V + A / 2 ^ (i + 1) % V + A / 2 ^ i % 2 - V) ∧
    A / 2 ^ i / V = 2 * (A / 2 ^ (i + 1) / V) + (if A / 2 ^ (i + 1) % V + A / 2 ^ (i + 1) % V + A / 2 ^ i % 2 < V then 0 else 1) := by
  have e : A / 2 ^ (i + 1) = A / 2 ^ i / 2 := by rw [Nat.pow_succ, Nat.div_div_eq_div_mul]
  rw [e]
  generalize A / 2 ^ i = Y
  have h1 := Nat.div_add_mod Y 2
  have h2 := Nat.div_add_mod (Y / 2) V
  have h3 := Nat.mod_lt (Y / 2) hV
  have h4 := Nat.mod_lt Y (show 0 < 2 by decide)
  generalize Y / 2 / V = q at *
  generalize Y / 2 % V = r at *
  generalize Y % 2 = b at *
  have hY : Y = V * (2 * q) + (r + r + b) := by
    rw [← h1, ← h2, Nat.mul_left_comm]
    omega
  split
  · rename_i hlt
    rw [hY]
    exact ⟨by rw [Nat.mul_add_mod, Nat.mod_eq_of_lt hlt], by rw [Nat.mul_add_div hV, Nat.div_eq_of_lt hlt]⟩
  · rename_i hge
    have hY2 : Y = V * (2 * q + 1) + (r + r + b - V) := by
      rw [Nat.mul_add, Nat.mul_one]
      omega
    have hlt : r + r + b - V < V := by omega
    rw [hY2]
    exact ⟨by rw [Nat.mul_add_mod, Nat.mod_eq_of_lt hlt], by rw [Nat.mul_add_div hV, Nat.div_eq_of_lt hlt]⟩

theorem val_mod2 (xs : List Nat) : val xs % 2 = nth xs 0 % 2 := by
  cases xs with
  | nil => rfl
  | cons x xs =>
    simp only [val, nth, List.getD_cons_zero]
    omega

/-- Halves. -/
theorem half_val {xs out : List Nat} (hx : small32 xs) (hl : out.length = xs.length) (h : ∀ i, i < xs.length → nth out i = (nth xs (i + 1) % 2 * 4294967296 + nth xs i) / 2) : val out = val xs / 2 := by
  have e := shr_val (s := 2) (m := 2147483648) (by decide) (xs ++ [0]) out (by simp [hl]) (small32_snoc hx (by decide)) (by rw [hl]; simp [nth]) (fun i hi => by
    rw [hl] at hi
    rw [h i hi]
    have e1 : nth (xs ++ [0]) i = nth xs i := by simp [nth, List.getElem?_append_left hi]
    have e2 : nth (xs ++ [0]) (i + 1) = nth xs (i + 1) := by
      by_cases h' : i + 1 < xs.length
      · simp [nth, List.getElem?_append_left h']
      · rw [nth_out (xs := xs) (by omega)]
        by_cases h'' : i + 1 = xs.length
        · simp [nth, h'']
        · exact nth_out (by simp; omega)
    rw [e1, e2]
    have := small32_nth hx i
    omega)
  rw [e, val_snoc]
  simp

/-- The greatest common divisor, by halving and subtracting. -/
theorem gcd_even_odd {a b : Nat} (hb : b % 2 = 1) : Nat.gcd (2 * a) b = Nat.gcd a b := by
  have hc : Nat.Coprime 2 b := by
    unfold Nat.Coprime
    rw [Nat.gcd_rec, hb]
    rfl
  exact hc.gcd_mul_left_cancel a

theorem gcd_half_left {a b : Nat} (ha : a % 2 = 0) (hb : b % 2 = 1) : Nat.gcd (a / 2) b = Nat.gcd a b := by
  have : a = 2 * (a / 2) := by omega
  conv => rhs; rw [this]
  exact (gcd_even_odd hb).symm

theorem gcd_half_right {a b : Nat} (ha : a % 2 = 1) (hb : b % 2 = 0) : Nat.gcd a (b / 2) = Nat.gcd a b := by
  rw [Nat.gcd_comm a, Nat.gcd_comm a]
  exact gcd_half_left hb ha

theorem gcd_half_both {a b : Nat} (ha : a % 2 = 0) (hb : b % 2 = 0) : Nat.gcd a b = 2 * Nat.gcd (a / 2) (b / 2) := by
  have h1 : a = 2 * (a / 2) := by omega
  have h2 : b = 2 * (b / 2) := by omega
  conv => lhs; rw [h1, h2]
  exact Nat.gcd_mul_left _ _ _

theorem gcd_less {a b : Nat} (h : a ≤ b) : Nat.gcd a (b - a) = Nat.gcd a b := by
  have : b = (b - a) + a := by omega
  conv => rhs; rw [this]
  exact (Nat.gcd_add_self_right _ _).symm

theorem gcd_less' {a b : Nat} (h : b ≤ a) : Nat.gcd (a - b) b = Nat.gcd a b := by
  rw [Nat.gcd_comm, gcd_less h, Nat.gcd_comm]

end Go.Suf
