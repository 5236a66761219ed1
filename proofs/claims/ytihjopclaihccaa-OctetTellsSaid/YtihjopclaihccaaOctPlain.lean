/- Plain facts on numbers as bytes: no program in sight. No condition. -/
import Derived.Test.YtihjopclaihccaaBase
namespace Go.Suf
open Go.RowKit

/-- n as 'size' bytes, the greatest first. -/
def dig : Nat → Nat → List Nat
  | _, 0 => []
  | n, s + 1 => dig (n / 256) s ++ [n % 256]

/-- What bytes are as a number. -/
def num (xs : List Nat) : Nat := xs.foldl (fun n x => n * 256 + x) 0

theorem dig_length (s : Nat) : ∀ n, (dig n s).length = s := by
  induction s with
  | zero => intro n; rfl
  | succ s ih => intro n; simp [dig, ih]

theorem dig_lt (s : Nat) : ∀ n, ∀ x ∈ dig n s, x < 256 := by
  induction s with
  | zero => intro n x hx; simp [dig] at hx
  | succ s ih =>
    intro n x hx
    simp [dig] at hx
    rcases hx with hx | hx
    · exact ih _ x hx
    · omega

theorem num_snoc (xs : List Nat) (x : Nat) : num (xs ++ [x]) = num xs * 256 + x := by simp [num]

theorem num_dig (s : Nat) : ∀ n, num (dig n s) = n % 256 ^ s := by
  induction s with
  | zero => intro n; simp [dig, num, Nat.mod_one]
  | succ s ih =>
    intro n
    rw [dig, num_snoc, ih, Nat.pow_succ, Nat.mul_comm (256 ^ s) 256, Nat.mod_mul]
    omega

theorem num_lt (xs : List Nat) (h : ∀ x ∈ xs, x < 256) : num xs < 256 ^ xs.length := by
  have : ∀ (ys : List Nat) (n : Nat), (∀ x ∈ ys, x < 256) → ys.foldl (fun n x => n * 256 + x) n < (n + 1) * 256 ^ ys.length := by
    intro ys
    induction ys with
    | nil => intro n _; simp
    | cons y ys ih =>
      intro n hy
      have h1 := ih (n * 256 + y) (fun x hx => hy x (by simp [hx]))
      have h2 := hy y (by simp)
      simp only [List.foldl_cons, List.length_cons]
      refine Nat.lt_of_lt_of_le h1 ?_
      rw [Nat.pow_succ, Nat.mul_comm (256 ^ ys.length) 256, ← Nat.mul_assoc]
      exact Nat.mul_le_mul_right _ (by omega)
  have := this xs 0 h
  simpa [num] using this

theorem dig_num (xs : List Nat) (h : ∀ x ∈ xs, x < 256) : dig (num xs) xs.length = xs := by
  have key : ∀ (s : Nat) (xs : List Nat), xs.length = s → (∀ x ∈ xs, x < 256) → dig (num xs) s = xs := by
    intro s
    induction s with
    | zero => intro xs hl _; simp at hl; subst hl; rfl
    | succ s ih =>
      intro xs hl hx
      rcases List.eq_nil_or_concat xs with rfl | ⟨ys, y, rfl⟩
      · simp at hl
      · rw [List.concat_eq_append] at *
        have hy : y < 256 := hx y (by simp)
        rw [num_snoc, dig, show (num ys * 256 + y) / 256 = num ys by omega, show (num ys * 256 + y) % 256 = y by omega, ih ys (by simpa using hl) (fun x hm => hx x (by simp [hm]))]
  exact key _ xs rfl h


theorem dig_at (s : Nat) : ∀ (n i : Nat), i < s → (dig n s)[i]? = some (n / 256 ^ (s - 1 - i) % 256) := by
  induction s with
  | zero => intro n i h; omega
  | succ s ih =>
    intro n i h
    rw [dig]
    by_cases hi : i < s
    · rw [List.getElem?_append_left (by rw [dig_length]; exact hi), ih _ _ hi, Nat.div_div_eq_div_mul, show s + 1 - 1 - i = (s - 1 - i) + 1 by omega, Nat.pow_succ, Nat.mul_comm 256]
    · have : i = s := by omega
      subst this
      rw [List.getElem?_append_right (by rw [dig_length]; omega), dig_length]
      simp

theorem dig_take (s n i : Nat) (h : i < s) : (dig n s).take (i + 1) = (dig n s).take i ++ [n / 256 ^ (s - 1 - i) % 256] := by
  have h1 := dig_at s n i h
  rw [List.getElem?_eq_some_iff] at h1
  obtain ⟨h2, h3⟩ := h1
  rw [List.take_succ_eq_append_getElem h2, h3]

theorem shr_byte (m t : Nat) : ((m : Int) / 2 ^ (8 * t) % 256) = ((m / 256 ^ t % 256 : Nat) : Int) := by
  rw [show (256 : Nat) = 2 ^ 8 from rfl, ← Nat.pow_mul]
  simp

def okSize (n : Nat) (s : Int) : Bool := decide (1 ≤ s) && (decide (s ≤ 8) && decide (n < 256 ^ s.toNat))

/-- Put: the bytes and the error. -/
def putX (xs : List Nat) (m : Nat) (s : Int) : List Nat × Int :=
  if okSize m s = true then if 16384 - s < xs.length then ([], 4) else (xs ++ dig m s.toNat, 0) else ([], 2)

theorem putX_length (xs : List Nat) (m : Nat) (s : Int) : (putX xs m s).1.length ≤ 16384 := by
  unfold putX
  split
  · rename_i h
    split
    · simp
    · simp [okSize] at h
      simp [dig_length]
      omega
  · simp

/-- Take: the number, the next place, the error. -/
def takeX (xs : List Nat) (i s : Int) : Nat × Int × Int :=
  if s < 1 ∨ 8 < s ∨ i < 0 ∨ (xs.length : Int) < i then (0, 0, 2) else if (xs.length : Int) - i < s then (0, 0, 10) else (num ((xs.drop i.toNat).take s.toNat), i + s, 0)

theorem wrap64_nat (n : Nat) (h : n < 18446744073709551616) : IntKind.u64.wrap (n : Int) = (n : Int) := by
  simp only [IntKind.wrap, IntKind.bits, IntKind.signed]
  simp
  omega

theorem dig_cons (s : Nat) : ∀ n, dig n (s + 1) = (n / 256 ^ s % 256) :: dig n s := by
  induction s with
  | zero => intro n; simp [dig]
  | succ s ih =>
    intro n
    rw [dig, ih, dig, Nat.div_div_eq_div_mul, Nat.pow_succ, Nat.mul_comm 256]
    rfl

theorem shl8_or (a b : Nat) (ha : a < 72057594037927936) (hb : b < 256) : bits .or .u64 (IntKind.u64.wrap ((a : Int) * 256)) (IntKind.u64.wrap (b : Int)) = ((a * 256 + b : Nat) : Int) := by
  rw [show ((a : Int) * 256) = ((a * 256 : Nat) : Int) by simp, wrap64_nat _ (by omega), wrap64_nat _ (by omega)]
  rw [bits_join .u64 64 (by decide) (fun n h0 h1 => by
    obtain ⟨m, rfl⟩ := Int.eq_ofNat_of_zero_le h0
    exact wrap64_nat m (by simp at h1; omega)) 8 _ _ (by omega) (by simp) (by simp; omega) (by omega) (by simp; omega) (by simp; omega)]
  simp

/-- A field: its length in two bytes, then its bytes. -/
def field (xs : List Nat) : List Nat := dig xs.length 2 ++ xs

/-- PutField. -/
def putFieldX (xs ys : List Nat) : List Nat × Int :=
  if 65535 < ys.length ∨ 16384 < xs.length + 2 + ys.length then ([], 4) else (xs ++ field ys, 0)

/-- TakeField: the bytes, the next place, the error. -/
def takeFieldX (xs : List Nat) (i : Int) : List Nat × Int × Int :=
  if i < 0 ∨ (xs.length : Int) < i then ([], 0, 2)
  else if (xs.length : Int) - i < 2 then ([], 0, 10)
  else if (xs.length : Int) - (i + 2) < num ((xs.drop i.toNat).take 2) then ([], 0, 10)
  else ((xs.drop (i.toNat + 2)).take (num ((xs.drop i.toNat).take 2)), i + 2 + num ((xs.drop i.toNat).take 2), 0)

theorem field_length (xs : List Nat) : (field xs).length = xs.length + 2 := by simp [field, dig_length]; omega
theorem field_lt (xs : List Nat) (h : ∀ x ∈ xs, x < 256) : ∀ x ∈ field xs, x < 256 := by
  intro x hx
  rw [field, List.mem_append] at hx
  rcases hx with hx | hx
  · exact dig_lt _ _ x hx
  · exact h x hx

theorem num2_lt (xs : List Nat) (h : ∀ x ∈ xs, x < 256) (i : Nat) : num ((xs.drop i).take 2) < 65536 := by
  have h1 := num_lt ((xs.drop i).take 2) (fun x hx => h x (List.mem_of_mem_drop (List.mem_of_mem_take hx)))
  refine Nat.lt_of_lt_of_le h1 ?_
  exact Nat.le_trans (Nat.pow_le_pow_right (by decide) (show ((xs.drop i).take 2).length ≤ 2 by simp; omega)) (by decide)

theorem append_lt {xs ys : List Nat} {m : Nat} (hx : ∀ x ∈ xs, x < m) (hy : ∀ y ∈ ys, y < m) : ∀ x ∈ xs ++ ys, x < m := by
  intro x h
  rw [List.mem_append] at h
  rcases h with h | h
  · exact hx x h
  · exact hy x h

/-- One byte more. -/
theorem num_take (xs : List Nat) (i k : Nat) (h : i + k < xs.length) : num ((xs.drop i).take (k + 1)) = num ((xs.drop i).take k) * 256 + nth xs (i + k) := by
  have h1 : k < (xs.drop i).length := by simp; omega
  rw [List.take_succ_eq_append_getElem h1, num_snoc]
  simp [nth, h]

theorem num_take_lt (xs : List Nat) (hx : ∀ x ∈ xs, x < 256) (i k : Nat) (hk : k < 8) : num ((xs.drop i).take k) < 72057594037927936 := by
  have h1 := num_lt ((xs.drop i).take k) (fun x h => hx x (List.mem_of_mem_drop (List.mem_of_mem_take h)))
  refine Nat.lt_of_lt_of_le h1 ?_
  have h2 : ((xs.drop i).take k).length ≤ 7 := by simp; omega
  exact Nat.le_trans (Nat.pow_le_pow_right (by decide) h2) (by decide)

theorem or_step (xs : List Nat) (hx : ∀ x ∈ xs, x < 256) (i k : Nat) (hk : k < 8) (h : i + k < xs.length) :
    bits .or .u64 (IntKind.u64.wrap ((num ((xs.drop i).take k) : Int) * 256)) (IntKind.u64.wrap (nth xs (i + k) : Int)) = (num ((xs.drop i).take (k + 1)) : Nat) := by
  rw [shl8_or _ _ (num_take_lt xs hx i k hk) (by rw [nth_eq h]; exact hx _ (List.getElem_mem _)), num_take xs i k h]

theorem num_step (xs : List Nat) (hx : ∀ x ∈ xs, x < 256) (k : Nat) (hk : k < 8) (h : k < xs.length) :
    IntKind.u64.wrap (IntKind.u64.wrap ((num (xs.take k) : Int) * 256) + IntKind.u64.wrap (nth xs k : Int)) = (num (xs.take (k + 1)) : Nat) := by
  have h1 := num_take_lt xs hx 0 k hk
  have h2 := num_take xs 0 k (by omega)
  have h3 : nth xs k < 256 := by rw [nth_eq h]; exact hx _ (List.getElem_mem _)
  simp only [List.drop_zero, Nat.zero_add] at h1 h2
  rw [show ((num (xs.take k) : Int) * 256) = ((num (xs.take k) * 256 : Nat) : Int) by simp, wrap64_nat _ (by omega), wrap64_nat _ (by omega), ← Int.natCast_add, wrap64_nat _ (by omega), h2]

end Go.Suf
