/- Long division of two digits by a normalised divisor of two digits: the guess and how it is mended. No program in sight. -/
import Derived.Lib.Mul64
import Derived.Laws.BitsAllLaws
namespace Go.Suf
set_option linter.unusedVariables false
set_option linter.unusedSimpArgs false

theorem andK32 {x : Nat} (h : x < 18446744073709551616) : bits .and .u64 (x : Int) 4294967295 = ((x % 4294967296 : Nat) : Int) := by
  have e := u64_and_nat x 4294967295 h (by decide)
  rw [show x &&& 4294967295 = x % 4294967296 from Nat.and_two_pow_sub_one_eq_mod x 32] at e
  exact e

/-- The guess q with the rest r: what it says of A, and that it is not too small. -/
structure Gs (A c Y y1 q r : Nat) : Prop where
  eq : A = q * y1 + r
  up : (A * 4294967296 + c) / Y ≤ q

theorem gs_start {A c Y y1 y0 : Nat} (hY : Y = y1 * 4294967296 + y0) (h1 : 2147483648 ≤ y1) (h0 : y0 < 4294967296) (hc : c < 4294967296) (hA : A < Y) :
    Gs A c Y y1 (A / y1) (A % y1) ∧ A / y1 ≤ 4294967297 ∧ A % y1 < y1 := by
  have hp : 0 < y1 := by omega
  have hYp : 0 < Y := by omega
  have e := Nat.div_add_mod A y1
  have hl := Nat.mod_lt A hp
  refine ⟨⟨by rw [Nat.mul_comm]; exact e.symm, ?_⟩, ?_, hl⟩
  · rw [Nat.le_div_iff_mul_le hp]
    have h2 : (A * 4294967296 + c) / Y * Y ≤ A * 4294967296 + c := Nat.div_mul_le_self _ _
    generalize (A * 4294967296 + c) / Y = q at h2 ⊢
    rw [hY, Nat.mul_add, ← Nat.mul_assoc] at h2
    generalize q * y1 = z at h2 ⊢
    generalize q * y0 = u at h2
    omega
  · have h2 : A / y1 < 4294967298 := by
      rw [Nat.div_lt_iff_lt_mul hp]
      omega
    omega

theorem pred_mul' {q y : Nat} (h : 1 ≤ q) : q * y = (q - 1) * y + y := by
  obtain ⟨p, rfl⟩ : ∃ p, q = p + 1 := ⟨q - 1, by omega⟩
  rw [Nat.add_sub_cancel, Nat.succ_mul]

theorem gs_dec {A c Y y1 y0 q r : Nat} (hY : Y = y1 * 4294967296 + y0) (hc : c < 4294967296) (hA : A < Y) (g : Gs A c Y y1 q r) (h : 4294967296 ≤ q ∨ r * 4294967296 + c < q * y0) :
    1 ≤ q ∧ Gs A c Y y1 (q - 1) (r + y1) := by
  have hYp : 0 < Y := by omega
  have hq : (A * 4294967296 + c) / Y < q := by
    rcases h with h | h
    · refine Nat.lt_of_lt_of_le ?_ h
      rw [Nat.div_lt_iff_lt_mul hYp]
      omega
    · rw [Nat.div_lt_iff_lt_mul hYp, hY, Nat.mul_add, ← Nat.mul_assoc]
      have e := g.eq
      clear hY hA hYp hc g
      generalize q * y1 = z at e ⊢
      generalize q * y0 = u at h ⊢
      subst e
      rw [Nat.add_mul]
      generalize 4294967296 = K at *
      generalize z * K = p at *
      generalize r * K = p' at *
      omega
  have h1 : 1 ≤ q := Nat.lt_of_le_of_lt (Nat.zero_le _) hq
  refine ⟨h1, ?_, Nat.le_sub_one_of_lt hq⟩
  have e := g.eq
  have e2 := pred_mul' (y := y1) h1
  generalize q * y1 = z at *
  generalize (q - 1) * y1 = z' at *
  omega

theorem gs_end {A c Y y1 y0 q r : Nat} (hY : Y = y1 * 4294967296 + y0) (hYp : 0 < Y) (g : Gs A c Y y1 q r) (h : q * y0 ≤ r * 4294967296 + c) : q = (A * 4294967296 + c) / Y := by
  refine Nat.le_antisymm ?_ g.up
  rw [Nat.le_div_iff_mul_le hYp, hY, Nat.mul_add, ← Nat.mul_assoc]
  have e := g.eq
  generalize q * y1 = z at *
  generalize q * y0 = u at *
  omega

theorem gs_far {A c Y y1 y0 q r : Nat} (hY : Y = y1 * 4294967296 + y0) (hYp : 0 < Y) (h0 : y0 < 4294967296) (g : Gs A c Y y1 q r) (hq : q ≤ 4294967296) (hr : 4294967296 ≤ r) : q = (A * 4294967296 + c) / Y := by
  refine gs_end hY hYp g ?_
  have h1 : q * y0 ≤ 4294967296 * y0 := Nat.mul_le_mul_right _ hq
  omega

/-- A digit lies below 2^32, and the rest below the divisor. -/
theorem gs_digit {A c Y : Nat} (hc : c < 4294967296) (hA : A < Y) : (A * 4294967296 + c) / Y < 4294967296 := by
  rw [Nat.div_lt_iff_lt_mul (by omega)]
  omega

/-- Both digits together. -/
theorem two_digitsK {U Y u1 u0 A K : Nat} (hU : U = (A * K + u1) * K + u0) (hY : 0 < Y) :
    (A * K + u1) / Y * K + ((A * K + u1) % Y * K + u0) / Y = U / Y ∧ ((A * K + u1) % Y * K + u0) % Y = U % Y := by
  have e := Nat.div_add_mod (A * K + u1) Y
  generalize A * K + u1 = V at *
  have e2 : U = (V % Y * K + u0) + Y * (V / Y * K) := by
    rw [hU, ← Nat.mul_assoc]
    conv => lhs; rw [← e, Nat.add_mul]
    omega
  rw [e2, Nat.add_mul_div_left _ _ hY, Nat.add_mul_mod_self_left]
  omega
theorem two_digits {U Y u1 u0 A : Nat} (hU : U = (A * 4294967296 + u1) * 4294967296 + u0) (hY : 0 < Y) :
    (A * 4294967296 + u1) / Y * 4294967296 + ((A * 4294967296 + u1) % Y * 4294967296 + u0) / Y = U / Y ∧ ((A * 4294967296 + u1) % Y * 4294967296 + u0) % Y = U % Y :=
  two_digitsK hU hY

/-- Scaling by a power of two. -/
theorem scaled {U y p : Nat} (hp : 0 < p) (hy : 0 < y) : U * p / (y * p) = U / y ∧ U * p % (y * p) / p = U % y := by
  refine ⟨Nat.mul_div_mul_right _ _ hp, ?_⟩
  rw [Nat.mul_mod_mul_right, Nat.mul_div_cancel _ hp]

end Go.Suf
