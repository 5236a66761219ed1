/- Plain facts on numbers as bytes: no program in sight. No condition. -/
import Derived.Test.YtnjkfjecnicccaaBase
namespace Go.Suf
open Go.RowKit

/-- n as 'size' bytes, the greatest first. -/
def dig : Nat → Nat → List Nat
  | _, 0 => []
  | n, s + 1 => dig (n / 256) s ++ [n % 256]

/-- What bytes are as a number. -/
def num (xs : List Nat) : Nat := xs.foldl (fun n x => n * 256 + x) 0

theorem dig_length (s : Nat) : ∀ n, (dig n s).length = s := by
  induction s with
  | zero => intro n; rfl
  | succ s ih => intro n; simp [dig, ih]

theorem dig_lt (s : Nat) : ∀ n, ∀ x ∈ dig n s, x < 256 := by
  induction s with
  | zero => intro n x hx; simp [dig] at hx
  | succ s ih =>
    intro n x hx
    simp [dig] at hx
    rcases hx with hx | hx
    · exact ih _ x hx
    · omega

theorem num_snoc (xs : List Nat) (x : Nat) : num (xs ++ [x]) = num xs * 256 + x := by simp [num]

theorem num_dig (s : Nat) : ∀ n, num (dig n s) = n % 256 ^ s := by
  induction s with
  | zero => intro n; simp [dig, num, Nat.mod_one]
  | succ s ih =>
    intro n
    rw [dig, num_snoc, ih, Nat.pow_succ, Nat.mul_comm (256 ^ s) 256, Nat.mod_mul]
    omega

theorem num_lt (xs : List Nat) (h : ∀ x ∈ xs, x < 256) : num xs < 256 ^ xs.length := by
  have : ∀ (ys : List Nat) (n : Nat), (∀ x ∈ ys, x < 256) → ys.foldl (fun n x => n * 256 + x) n < (n + 1) * 256 ^ ys.length := by
    intro ys
    induction ys with
    | nil => intro n _; simp
    | cons y ys ih =>
      intro n hy
      have h1 := ih (n * 256 + y) (fun x hx => hy x (by simp [hx]))
      have h2 := hy y (by simp)
      simp only [List.foldl_cons, List.length_cons]
      refine Nat.lt_of_lt_of_le h1 ?_
      rw [Nat.pow_succ, Nat.mul_comm (256 ^ ys.length) 256, ← Nat.mul_assoc]
      exact Nat.mul_le_mul_right _ (by omega)
  have := this xs 0 h
  simpa [num] using this

theorem fold_bound : ∀ (ys : List Nat) (n : Nat), (∀ x ∈ ys, x < 256) → n * 256 ^ ys.length ≤ ys.foldl (fun n x => n * 256 + x) n ∧ ys.foldl (fun n x => n * 256 + x) n < (n + 1) * 256 ^ ys.length := by
  intro ys
  induction ys with
  | nil => intro n _; simp
  | cons y ys ih =>
    intro n hy
    have h1 := ih (n * 256 + y) (fun x hx => hy x (by simp [hx]))
    have h2 := hy y (by simp)
    simp only [List.foldl_cons, List.length_cons]
    have e : ∀ k : Nat, k * 256 ^ (ys.length + 1) = k * 256 * 256 ^ ys.length := fun k => by rw [Nat.pow_succ, Nat.mul_comm (256 ^ ys.length) 256, ← Nat.mul_assoc]
    rw [e, e]
    have h3 : n * 256 * 256 ^ ys.length ≤ (n * 256 + y) * 256 ^ ys.length := Nat.mul_le_mul_right _ (by omega)
    have h4 : (n * 256 + y + 1) * 256 ^ ys.length ≤ (n + 1) * 256 * 256 ^ ys.length := Nat.mul_le_mul_right _ (by omega)
    exact ⟨Nat.le_trans h3 h1.1, Nat.lt_of_lt_of_le h1.2 h4⟩

theorem dig_num (xs : List Nat) (h : ∀ x ∈ xs, x < 256) : dig (num xs) xs.length = xs := by
  have key : ∀ (s : Nat) (xs : List Nat), xs.length = s → (∀ x ∈ xs, x < 256) → dig (num xs) s = xs := by
    intro s
    induction s with
    | zero => intro xs hl _; simp at hl; subst hl; rfl
    | succ s ih =>
      intro xs hl hx
      rcases List.eq_nil_or_concat xs with rfl | ⟨ys, y, rfl⟩
      · simp at hl
      · rw [List.concat_eq_append] at *
        have hy : y < 256 := hx y (by simp)
        rw [num_snoc, dig, show (num ys * 256 + y) / 256 = num ys by omega, show (num ys * 256 + y) % 256 = y by omega, ih ys (by simpa using hl) (fun x hm => hx x (by simp [hm]))]
  exact key _ xs rfl h


theorem dig_at (s : Nat) : ∀ (n i : Nat), i < s → (dig n s)[i]? = some (n / 256 ^ (s - 1 - i) % 256) := by
  induction s with
  | zero => intro n i h; omega
  | succ s ih =>
    intro n i h
    rw [dig]
    by_cases hi : i < s
    · rw [List.getElem?_append_left (by rw [dig_length]; exact hi), ih _ _ hi, Nat.div_div_eq_div_mul, show s + 1 - 1 - i = (s - 1 - i) + 1 by omega, Nat.pow_succ, Nat.mul_comm 256]
    · have : i = s := by omega
      subst this
      rw [List.getElem?_append_right (by rw [dig_length]; omega), dig_length]
      simp

theorem dig_take (s n i : Nat) (h : i < s) : (dig n s).take (i + 1) = (dig n s).take i ++ [n / 256 ^ (s - 1 - i) % 256] := by
  have h1 := dig_at s n i h
  rw [List.getElem?_eq_some_iff] at h1
  obtain ⟨h2, h3⟩ := h1
  rw [List.take_succ_eq_append_getElem h2, h3]

theorem shr_byte (m t : Nat) : ((m : Int) / 2 ^ (8 * t) % 256) = ((m / 256 ^ t % 256 : Nat) : Int) := by
  rw [show (256 : Nat) = 2 ^ 8 from rfl, ← Nat.pow_mul]
  simp

def okSize (n : Nat) (s : Int) : Bool := decide (1 ≤ s) && (decide (s ≤ 8) && decide (n < 256 ^ s.toNat))

/-- Put: the bytes and the error. -/
def putX (xs : List Nat) (m : Nat) (s : Int) : List Nat × Int :=
  if okSize m s = true then if 16384 - s < xs.length then ([], 4) else (xs ++ dig m s.toNat, 0) else ([], 2)

theorem putX_length (xs : List Nat) (m : Nat) (s : Int) : (putX xs m s).1.length ≤ 16384 := by
  unfold putX
  split
  · rename_i h
    split
    · simp
    · simp [okSize] at h
      simp [dig_length]
      omega
  · simp

/-- Take: the number, the next place, the error. -/
def takeX (xs : List Nat) (i s : Int) : Nat × Int × Int :=
  if s < 1 ∨ 8 < s ∨ i < 0 ∨ (xs.length : Int) < i then (0, 0, 2) else if (xs.length : Int) - i < s then (0, 0, 10) else (num ((xs.drop i.toNat).take s.toNat), i + s, 0)

theorem wrap64_nat (n : Nat) (h : n < 18446744073709551616) : IntKind.u64.wrap (n : Int) = (n : Int) := by
  simp only [IntKind.wrap, IntKind.bits, IntKind.signed]
  simp
  omega

theorem dig_cons (s : Nat) : ∀ n, dig n (s + 1) = (n / 256 ^ s % 256) :: dig n s := by
  induction s with
  | zero => intro n; simp [dig]
  | succ s ih =>
    intro n
    rw [dig, ih, dig, Nat.div_div_eq_div_mul, Nat.pow_succ, Nat.mul_comm 256]
    rfl

theorem shl8_or (a b : Nat) (ha : a < 72057594037927936) (hb : b < 256) : bits .or .u64 (IntKind.u64.wrap ((a : Int) * 256)) (IntKind.u64.wrap (b : Int)) = ((a * 256 + b : Nat) : Int) := by
  rw [show ((a : Int) * 256) = ((a * 256 : Nat) : Int) by simp, wrap64_nat _ (by omega), wrap64_nat _ (by omega)]
  rw [bits_join .u64 64 (by decide) (fun n h0 h1 => by
    obtain ⟨m, rfl⟩ := Int.eq_ofNat_of_zero_le h0
    exact wrap64_nat m (by simp at h1; omega)) 8 _ _ (by omega) (by simp) (by simp; omega) (by omega) (by simp; omega) (by simp; omega)]
  simp

/-- A field: its length in two bytes, then its bytes. -/
def field (xs : List Nat) : List Nat := dig xs.length 2 ++ xs

/-- PutField. -/
def putFieldX (xs ys : List Nat) : List Nat × Int :=
  if 65535 < ys.length ∨ 16384 < xs.length + 2 + ys.length then ([], 4) else (xs ++ field ys, 0)

/-- TakeField: the bytes, the next place, the error. -/
def takeFieldX (xs : List Nat) (i : Int) : List Nat × Int × Int :=
  if i < 0 ∨ (xs.length : Int) < i then ([], 0, 2)
  else if (xs.length : Int) - i < 2 then ([], 0, 10)
  else if (xs.length : Int) - (i + 2) < num ((xs.drop i.toNat).take 2) then ([], 0, 10)
  else ((xs.drop (i.toNat + 2)).take (num ((xs.drop i.toNat).take 2)), i + 2 + num ((xs.drop i.toNat).take 2), 0)

theorem field_length (xs : List Nat) : (field xs).length = xs.length + 2 := by simp [field, dig_length]; omega
theorem field_lt (xs : List Nat) (h : ∀ x ∈ xs, x < 256) : ∀ x ∈ field xs, x < 256 := by
  intro x hx
  rw [field, List.mem_append] at hx
  rcases hx with hx | hx
  · exact dig_lt _ _ x hx
  · exact h x hx

theorem num2_lt (xs : List Nat) (h : ∀ x ∈ xs, x < 256) (i : Nat) : num ((xs.drop i).take 2) < 65536 := by
  have h1 := num_lt ((xs.drop i).take 2) (fun x hx => h x (List.mem_of_mem_drop (List.mem_of_mem_take hx)))
  refine Nat.lt_of_lt_of_le h1 ?_
  exact Nat.le_trans (Nat.pow_le_pow_right (by decide) (show ((xs.drop i).take 2).length ≤ 2 by simp; omega)) (by decide)

theorem putFieldX_length (xs ys : List Nat) : (putFieldX xs ys).1.length ≤ 16384 := by
  unfold putFieldX
  split
  · simp
  · simp [field_length]; omega

theorem takeFieldX_length (xs : List Nat) (i : Int) : (takeFieldX xs i).1.length ≤ xs.length := by
  unfold takeFieldX
  split
  · simp
  · split
    · simp
    · split
      · simp
      · simp; omega

theorem append_lt {xs ys : List Nat} {m : Nat} (hx : ∀ x ∈ xs, x < m) (hy : ∀ y ∈ ys, y < m) : ∀ x ∈ xs ++ ys, x < m := by
  intro x h
  rw [List.mem_append] at h
  rcases h with h | h
  · exact hx x h
  · exact hy x h

/-- One byte more. -/
theorem num_take (xs : List Nat) (i k : Nat) (h : i + k < xs.length) : num ((xs.drop i).take (k + 1)) = num ((xs.drop i).take k) * 256 + nth xs (i + k) := by
  have h1 : k < (xs.drop i).length := by simp; omega
  rw [List.take_succ_eq_append_getElem h1, num_snoc]
  simp [nth, h]

theorem num_take_lt (xs : List Nat) (hx : ∀ x ∈ xs, x < 256) (i k : Nat) (hk : k < 8) : num ((xs.drop i).take k) < 72057594037927936 := by
  have h1 := num_lt ((xs.drop i).take k) (fun x h => hx x (List.mem_of_mem_drop (List.mem_of_mem_take h)))
  refine Nat.lt_of_lt_of_le h1 ?_
  have h2 : ((xs.drop i).take k).length ≤ 7 := by simp; omega
  exact Nat.le_trans (Nat.pow_le_pow_right (by decide) h2) (by decide)

theorem or_step (xs : List Nat) (hx : ∀ x ∈ xs, x < 256) (i k : Nat) (hk : k < 8) (h : i + k < xs.length) :
    bits .or .u64 (IntKind.u64.wrap ((num ((xs.drop i).take k) : Int) * 256)) (IntKind.u64.wrap (nth xs (i + k) : Int)) = (num ((xs.drop i).take (k + 1)) : Nat) := by
  rw [shl8_or _ _ (num_take_lt xs hx i k hk) (by rw [nth_eq h]; exact hx _ (List.getElem_mem _)), num_take xs i k h]

theorem num_step (xs : List Nat) (hx : ∀ x ∈ xs, x < 256) (k : Nat) (hk : k < 8) (h : k < xs.length) :
    IntKind.u64.wrap (IntKind.u64.wrap ((num (xs.take k) : Int) * 256) + IntKind.u64.wrap (nth xs k : Int)) = (num (xs.take (k + 1)) : Nat) := by
  have h1 := num_take_lt xs hx 0 k hk
  have h2 := num_take xs 0 k (by omega)
  have h3 : nth xs k < 256 := by rw [nth_eq h]; exact hx _ (List.getElem_mem _)
  simp only [List.drop_zero, Nat.zero_add] at h1 h2
  rw [show ((num (xs.take k) : Int) * 256) = ((num (xs.take k) * 256 : Nat) : Int) by simp, wrap64_nat _ (by omega), wrap64_nat _ (by omega), ← Int.natCast_add, wrap64_nat _ (by omega), h2]

/-- Join: fields one behind the other. -/
def joinX : List Nat → List (List Nat) → List Nat × Int
  | out, [] => (out, 0)
  | out, f :: l => if (putFieldX out f).2 = 0 then joinX (putFieldX out f).1 l else ([], (putFieldX out f).2)


/-- The i-th byte string. -/
def lth (xss : List (List Nat)) (i : Nat) : List Nat := xss.getD i []
theorem lth_mem {xss : List (List Nat)} {i : Nat} (h : i < xss.length) : lth xss i ∈ xss := by
  rw [lth, List.getD_eq_getElem?_getD, List.getElem?_eq_getElem h]
  exact List.getElem_mem _
theorem lth_drop {xss : List (List Nat)} {i : Nat} (h : i < xss.length) : xss.drop i = lth xss i :: xss.drop (i + 1) := by
  rw [List.drop_eq_getElem_cons h, lth, List.getD_eq_getElem?_getD, List.getElem?_eq_getElem h]
  rfl

/-- How long all fields are. -/
def sumF (l : List (List Nat)) : Nat := (l.map fun xs => 2 + xs.length).sum

theorem sumF_append (l m : List (List Nat)) : sumF (l ++ m) = sumF l + sumF m := by simp [sumF]

theorem take_lth (l : List (List Nat)) (k : Nat) (h : k < l.length) : l.take (k + 1) = l.take k ++ [lth l k] := by
  rw [List.take_succ_eq_append_getElem h, lth, List.getD_eq_getElem?_getD, List.getElem?_eq_getElem h]
  rfl

theorem sumF_take (l : List (List Nat)) (k : Nat) (h : k < l.length) : sumF (l.take (k + 1)) = sumF (l.take k) + 2 + (lth l k).length := by
  rw [take_lth l k h, sumF_append]
  simp [sumF]
  omega

theorem sumF_take_le (l : List (List Nat)) : ∀ k, sumF (l.take k) ≤ sumF l := by
  induction l with
  | nil => intro k; simp [sumF]
  | cons x l ih =>
    intro k
    cases k with
    | zero => simp [sumF]
    | succ k => have := ih k; simp [sumF] at this ⊢; omega

theorem flatMap_take (l : List (List Nat)) (k : Nat) (h : k < l.length) : (l.take (k + 1)).flatMap field = (l.take k).flatMap field ++ field (lth l k) := by
  rw [take_lth l k h, List.flatMap_append]
  simp

theorem flatMap_field_length (l : List (List Nat)) : (l.flatMap field).length = sumF l := by
  induction l with
  | nil => rfl
  | cons x l ih => simp [sumF, field_length] at ih ⊢; omega

theorem joinX_eq (l : List (List Nat)) : ∀ out : List Nat, out.length ≤ 16384 → joinX out l = if out.length + sumF l ≤ 16384 then (out ++ l.flatMap field, 0) else ([], 4) := by
  induction l with
  | nil => intro out h; simp [joinX, sumF, h]
  | cons x l ih =>
    intro out h
    rw [joinX]
    by_cases hp : 65535 < x.length ∨ 16384 < out.length + 2 + x.length
    · have e : putFieldX out x = ([], 4) := by unfold putFieldX; rw [if_pos hp]
      rw [e]
      simp [sumF]
      omega
    · have e : putFieldX out x = (out ++ field x, 0) := by unfold putFieldX; rw [if_neg hp]
      rw [e, if_pos rfl, ih _ (by simp [field_length]; omega)]
      have h1 : (out ++ field x).length + sumF l = out.length + sumF (x :: l) := by simp [field_length, sumF]; omega
      rw [h1]
      simp

/-- Split, from a place on, behind what has come. -/
def splitF (xs : List Nat) : Nat → Nat → List (List Nat) → List (List Nat) × Int
  | 0, _, out => (out, 0)
  | f + 1, i, out =>
    if i < xs.length then
      if (takeFieldX xs i).2.2 = 0 then splitF xs f (takeFieldX xs i).2.1.toNat (out ++ [(takeFieldX xs i).1]) else ([], (takeFieldX xs i).2.2)
    else (out, 0)

def splitX (xs : List Nat) : List (List Nat) × Int := if 16384 < xs.length then ([], 4) else splitF xs (xs.length + 1) 0 []

/-- A field that was taken ends within the bytes, two bytes on at least. -/
theorem takeFieldX_ok (xs : List Nat) (i : Nat) (h : (takeFieldX xs i).2.2 = 0) : ∃ j : Nat, (takeFieldX xs i).2.1 = (j : Int) ∧ i + 2 ≤ j ∧ j ≤ xs.length := by
  unfold takeFieldX at h ⊢
  split at h
  · simp at h
  · split at h
    · simp at h
    · split at h
      · simp at h
      · rename_i h1 h2 h3
        rw [if_neg h1, if_neg h2, if_neg h3]
        exact ⟨i + 2 + num ((xs.drop i).take 2), by simp, by omega, by simp at h3; omega⟩

/-- Bytes in the order of the numbers that they are, where they are as many. -/
theorem less_bytes : ∀ (xs ys : List Nat), xs.length = ys.length → (∀ x ∈ xs, x < 256) → (∀ y ∈ ys, y < 256) → Op.bytesLess (xs.map UInt8.ofNat) (ys.map UInt8.ofNat) = decide (num xs < num ys) := by
  have key : ∀ (xs ys : List Nat), xs.length = ys.length → (∀ x ∈ xs, x < 256) → (∀ y ∈ ys, y < 256) → ∀ n : Nat,
      (Op.bytesLess (xs.map UInt8.ofNat) (ys.map UInt8.ofNat) = decide (xs.foldl (fun n x => n * 256 + x) n < ys.foldl (fun n x => n * 256 + x) n)) ∧
      (∀ m, n < m → xs.foldl (fun n x => n * 256 + x) n < ys.foldl (fun n x => n * 256 + x) m) := by
    intro xs
    induction xs with
    | nil =>
      intro ys hl _ _ n
      have : ys = [] := List.eq_nil_of_length_eq_zero hl.symm
      subst this
      simp [Op.bytesLess]
    | cons x xs ih =>
      intro ys hl hx hy n
      cases ys with
      | nil => simp at hl
      | cons y ys =>
        have hx0 := hx x (by simp)
        have hy0 := hy y (by simp)
        have ih' := ih ys (by simpa using hl) (fun a ha => hx a (by simp [ha])) (fun a ha => hy a (by simp [ha]))
        have hux : (UInt8.ofNat x).toNat = x := by simp; omega
        have huy : (UInt8.ofNat y).toNat = y := by simp; omega
        refine ⟨?_, fun m hm => ?_⟩
        · simp only [List.map_cons, Op.bytesLess, List.foldl_cons]
          rcases Nat.lt_trichotomy x y with h | h | h
          · have h1 : decide (UInt8.ofNat x < UInt8.ofNat y) = true := by
              rw [decide_eq_true_eq, UInt8.lt_iff_toNat_lt, hux, huy]; exact h
            rw [h1]
            have := (ih' (n * 256 + x)).2 (n * 256 + y) (by omega)
            simp [this]
          · subst h
            have h1 : decide (UInt8.ofNat x < UInt8.ofNat x) = false := by
              rw [decide_eq_false_iff_not, UInt8.lt_iff_toNat_lt]; omega
            rw [h1]
            simp only [beq_self_eq_true, Bool.true_and, Bool.false_or]
            exact (ih' (n * 256 + x)).1
          · have h1 : decide (UInt8.ofNat x < UInt8.ofNat y) = false := by
              rw [decide_eq_false_iff_not, UInt8.lt_iff_toNat_lt, hux, huy]; omega
            have h2 : (UInt8.ofNat x == UInt8.ofNat y) = false := by
              rw [beq_eq_false_iff_ne]
              intro e
              have := congrArg UInt8.toNat e
              omega
            rw [h1, h2]
            have h3 := (ih ys (by simpa using hl) (fun a ha => hx a (by simp [ha])) (fun a ha => hy a (by simp [ha])) 0).1
            have h4 : ys.foldl (fun n x => n * 256 + x) (n * 256 + y) ≤ xs.foldl (fun n x => n * 256 + x) (n * 256 + x) := by
              have h5 := fold_bound xs (n * 256 + x) (fun a ha => hx a (by simp [ha]))
              have h6 := fold_bound ys (n * 256 + y) (fun a ha => hy a (by simp [ha]))
              have h7 : ys.length = xs.length := by simp at hl; omega
              rw [h7] at h6
              have h8 : (n * 256 + y + 1) * 256 ^ xs.length ≤ (n * 256 + x) * 256 ^ xs.length := Nat.mul_le_mul_right _ (by omega)
              exact Nat.le_of_lt (Nat.lt_of_lt_of_le h6.2 (Nat.le_trans h8 h5.1))
            rw [Bool.false_and, Bool.or_false]
            exact (decide_eq_false (Nat.not_lt.2 h4)).symm
        · simp only [List.foldl_cons]
          exact (ih' _).2 _ (by omega)
  intro xs ys hl hx hy
  exact (key xs ys hl hx hy 0).1

theorem dig_inj {n m s : Nat} (hn : n < 256 ^ s) (hm : m < 256 ^ s) (h : dig n s = dig m s) : n = m := by
  have h1 := num_dig s n
  have h2 := num_dig s m
  rw [h, h2, Nat.mod_eq_of_lt hn, Nat.mod_eq_of_lt hm] at h1
  exact h1.symm

theorem dig_less {n m s : Nat} (hn : n < 256 ^ s) (hm : m < 256 ^ s) : Op.bytesLess (strB (dig n s)).toList (strB (dig m s)).toList = decide (n < m) := by
  rw [strB_toList, strB_toList, less_bytes _ _ (by simp [dig_length]) (dig_lt _ _) (dig_lt _ _), num_dig, num_dig, Nat.mod_eq_of_lt hn, Nat.mod_eq_of_lt hm]

theorem dig_same {n m s : Nat} (hn : n < 256 ^ s) (hm : m < 256 ^ s) : ((strB (dig n s)).toList == (strB (dig m s)).toList) = decide (n = m) := by
  by_cases h : n = m
  · subst h; simp
  · have : ((strB (dig n s)).toList == (strB (dig m s)).toList) = false := by
      rw [beq_eq_false_iff_ne]
      intro e
      exact h (dig_inj hn hm (strB_inj (dig_lt _ _) (dig_lt _ _) (strB_toList_inj e)))
    rw [this]
    simp [h]

theorem takeX_put (xs rest : List Nat) (m t : Nat) (h : okSize m t = true) : takeX (xs ++ dig m t ++ rest) xs.length t = (m, (xs.length : Int) + t, 0) := by
  simp [okSize] at h
  unfold takeX
  rw [if_neg (by simp; omega), if_neg (by simp [dig_length]; omega)]
  simp only [Int.toNat_natCast, List.append_assoc, List.drop_left]
  rw [List.take_append_of_le_length (by simp [dig_length]), List.take_of_length_le (by simp [dig_length]), num_dig, Nat.mod_eq_of_lt h.2.2]

theorem takeFieldX_put (xs ys rest : List Nat) (h : ys.length ≤ 65535) : takeFieldX (xs ++ field ys ++ rest) xs.length = (ys, (xs.length : Int) + 2 + ys.length, 0) := by
  have e : num (((xs ++ field ys ++ rest).drop ((xs.length : Int)).toNat).take 2) = ys.length := by
    simp only [Int.toNat_natCast, List.append_assoc, List.drop_left, field]
    rw [List.take_append_of_le_length (by simp [dig_length]), List.take_of_length_le (by simp [dig_length]), num_dig, Nat.mod_eq_of_lt (by omega)]
  unfold takeFieldX
  rw [e, if_neg (by simp; omega), if_neg (by simp [field_length]; omega), if_neg (by simp [field_length]; omega)]
  simp only [Int.toNat_natCast]
  congr 1
  rw [List.append_assoc, ← List.drop_drop, List.drop_left, field, List.append_assoc, List.drop_append_of_le_length (by simp [dig_length]), List.drop_eq_nil_of_le (by simp [dig_length]), List.nil_append, List.take_left]

/-- What was taken stood there. -/
theorem takeFieldX_drop (xs : List Nat) (hx : ∀ x ∈ xs, x < 256) (i j : Nat) (h : (takeFieldX xs i).2.2 = 0) (hj : (takeFieldX xs i).2.1 = (j : Int)) : xs.drop i = field (takeFieldX xs i).1 ++ xs.drop j := by
  unfold takeFieldX at h hj ⊢
  split at h
  · simp at h
  · split at h
    · simp at h
    · split at h
      · simp at h
      · rename_i h1 h2 h3
        rw [if_neg h1, if_neg h2, if_neg h3] at hj ⊢
        simp only [Int.toNat_natCast] at hj h3 ⊢
        have hq : num ((xs.drop i).take 2) + (i + 2) ≤ xs.length := by simp at h3; omega
        have hl2 : ((xs.drop i).take 2).length = 2 := by simp; omega
        have hd : dig (num ((xs.drop i).take 2)) 2 = (xs.drop i).take 2 := by
          have := dig_num ((xs.drop i).take 2) (fun x hxm => hx x (List.mem_of_mem_drop (List.mem_of_mem_take hxm)))
          rw [hl2] at this
          exact this
        have hy : ((xs.drop (i + 2)).take (num ((xs.drop i).take 2))).length = num ((xs.drop i).take 2) := by simp; omega
        have hj' : j = i + 2 + num ((xs.drop i).take 2) := by omega
        rw [field, hy, hd, hj', List.append_assoc, ← List.drop_drop (i := num ((xs.drop i).take 2)) (j := i + 2), List.take_append_drop, ← List.drop_drop, List.take_append_drop]

theorem splitF_some (xs : List Nat) (hx : ∀ x ∈ xs, x < 256) : ∀ (f i : Nat) (out : List (List Nat)), i ≤ xs.length → xs.length - i < f →
    ((splitF xs f i out).2 = 0 ∧ ∃ l, (splitF xs f i out).1 = out ++ l ∧ xs.drop i = l.flatMap field ∧ ∀ y ∈ l, y.length ≤ xs.length) ∨ (¬ (splitF xs f i out).2 = 0 ∧ (splitF xs f i out).1 = []) := by
  intro f
  induction f with
  | zero => intro i out _ h; omega
  | succ f ih =>
    intro i out hi hf
    rw [splitF]
    by_cases hlt : i < xs.length
    · rw [if_pos hlt]
      by_cases he : (takeFieldX xs i).2.2 = 0
      · obtain ⟨j, hj, hj1, hj2⟩ := takeFieldX_ok xs i he
        rw [if_pos he, hj, Int.toNat_natCast]
        rcases ih j (out ++ [(takeFieldX xs i).1]) hj2 (by omega) with ⟨h0, l, h1, h2, h3⟩ | h0
        · refine .inl ⟨h0, (takeFieldX xs i).1 :: l, by rw [h1, List.append_assoc]; rfl, ?_, fun y hy => ?_⟩
          · rw [takeFieldX_drop xs hx i j he hj, h2, List.flatMap_cons]
          · rw [List.mem_cons] at hy
            rcases hy with rfl | hy
            · exact takeFieldX_length xs i
            · exact h3 y hy
        · exact .inr h0
      · rw [if_neg he]
        exact .inr ⟨he, rfl⟩
    · rw [if_neg hlt]
      refine .inl ⟨rfl, [], by simp, ?_, fun y hy => by simp at hy⟩
      rw [List.drop_eq_nil_of_le (by omega)]
      rfl

/-- Bytes that were split are joined as they were. -/
theorem join_split (xs : List Nat) (hx : ∀ x ∈ xs, x < 256) : ((splitX xs).2 = 0 ∧ joinX [] (splitX xs).1 = (xs, 0) ∧ ∀ y ∈ (splitX xs).1, y.length ≤ xs.length) ∨ (¬ (splitX xs).2 = 0 ∧ (splitX xs).1 = []) := by
  unfold splitX
  by_cases hb : 16384 < xs.length
  · rw [if_pos hb]
    exact .inr ⟨by decide, rfl⟩
  · rw [if_neg hb]
    rcases splitF_some xs hx (xs.length + 1) 0 [] (Nat.zero_le _) (by omega) with ⟨h0, l, h1, h2, h3⟩ | h
    · left
      simp only [List.nil_append] at h1
      rw [List.drop_zero] at h2
      refine ⟨h0, ?_, by rw [h1]; exact h3⟩
      rw [h1, joinX_eq l [] (Nat.zero_le _)]
      have hs := flatMap_field_length l
      rw [← h2] at hs
      rw [if_pos (by simp; omega), ← h2]
      rfl
    · exact .inr h

theorem splitF_fields : ∀ (l : List (List Nat)) (pre : List Nat) (f : Nat) (out : List (List Nat)), (∀ y ∈ l, y.length ≤ 65535) → (l.flatMap field).length < f → splitF (pre ++ l.flatMap field) f pre.length out = (out ++ l, 0) := by
  intro l
  induction l with
  | nil =>
    intro pre f out _ hf
    obtain ⟨f, rfl⟩ : ∃ g, f = g + 1 := ⟨f - 1, by omega⟩
    rw [splitF, if_neg (by simp)]
    simp
  | cons y l ih =>
    intro pre f out hy hf
    obtain ⟨f, rfl⟩ : ∃ g, f = g + 1 := ⟨f - 1, by omega⟩
    rw [List.flatMap_cons, List.length_append, field_length] at hf
    rw [List.flatMap_cons, ← List.append_assoc, splitF, if_pos (by simp [field_length]; omega), takeFieldX_put pre y _ (hy y (by simp)), if_pos rfl]
    have e : ((pre.length : Int) + 2 + y.length).toNat = (pre ++ field y).length := by simp [field_length]; omega
    simp only [e]
    rw [ih (pre ++ field y) f (out ++ [y]) (fun z hz => hy z (by simp [hz])) (by omega)]
    simp

theorem sumF_mem (l : List (List Nat)) (y : List Nat) (h : y ∈ l) : 2 + y.length ≤ sumF l := by
  induction l with
  | nil => simp at h
  | cons x l ih =>
    rw [List.mem_cons] at h
    simp only [sumF, List.map_cons, List.sum_cons] at ih ⊢
    rcases h with rfl | h
    · omega
    · have := ih h
      omega

/-- Fields that were joined are split as they were. -/
theorem split_join (l : List (List Nat)) (h : (joinX [] l).2 = 0) : splitX (joinX [] l).1 = (l, 0) := by
  rw [joinX_eq l [] (Nat.zero_le _)] at h ⊢
  by_cases hs : ([] : List Nat).length + sumF l ≤ 16384
  · rw [if_pos hs]
    simp only [List.nil_append]
    have hl := flatMap_field_length l
    simp only [List.length_nil, Nat.zero_add] at hs
    unfold splitX
    rw [if_neg (by omega)]
    have hy : ∀ y ∈ l, y.length ≤ 65535 := by
      intro y hy
      have := sumF_mem l y hy
      omega
    have := splitF_fields l [] (((l.flatMap field).length) + 1) [] hy (by omega)
    simpa using this
  · rw [if_neg hs] at h
    simp at h

theorem joinX_length (l : List (List Nat)) : (joinX [] l).1.length ≤ 16384 := by
  rw [joinX_eq l [] (Nat.zero_le _)]
  split
  · rename_i h
    rw [List.nil_append, flatMap_field_length]
    simpa using h
  · simp

end Go.Suf
