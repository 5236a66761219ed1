/- Arithmetic of numbers as limbs, as plain data: long division. No condition. -/
import Derived.Test.YtdaajeklnhbhjaaDoorNatLaw
namespace Go.Suf
open Go.RowKit
set_option linter.unusedVariables false
set_option linter.unusedSimpArgs false

/-! ### Shifting to the left, by a factor s that divides the base -/

/-- Limb i of the number shifted. -/
def shlAt (xs : List Nat) (s i : Nat) : Nat := nth xs i * s % 4294967296 + (if i = 0 then 0 else nth xs (i - 1) * s / 4294967296)

theorem shlAt_lt {xs : List Nat} {s m : Nat} (hx : small32 xs) (hs : 4294967296 = s * m) (i : Nat) : shlAt xs s i < 4294967296 := by
  unfold shlAt
  have hs0 : 0 < s := Nat.pos_of_ne_zero fun e => by subst e; omega
  have a : nth xs i * s % 4294967296 = (nth xs i % m) * s := by
    rw [hs, Nat.mul_comm s m, Nat.mul_mod_mul_right]
  have hm0 : 0 < m := Nat.pos_of_ne_zero fun e => by subst e; omega
  have b : (nth xs i % m + 1) * s ≤ 4294967296 := by
    rw [hs, Nat.mul_comm s m]
    exact Nat.mul_le_mul_right s (Nat.mod_lt _ hm0)
  rw [Nat.add_mul] at b
  rw [a]
  split
  · omega
  · have c : nth xs (i - 1) * s / 4294967296 < s := by
      rw [Nat.div_lt_iff_lt_mul (by decide), Nat.mul_comm]
      exact Nat.mul_lt_mul_of_pos_left (small32_nth hx _) hs0
    omega

theorem shl_val {xs out : List Nat} {s : Nat} (hl : out.length = xs.length + 1) (h : ∀ i, i ≤ xs.length → nth out i = shlAt xs s i) : val out = val xs * s := by
  have key : ∀ i, i ≤ xs.length + 1 → val (out.take i) + pw i * (if i = 0 then 0 else nth xs (i - 1) * s / 4294967296) = val (xs.take i) * s := by
    intro i
    induction i with
    | zero => intro _; simp [val]
    | succ i ih =>
      intro hi
      have e := ih (by omega)
      rw [val_take_succ, val_take_succ xs, pw_succ, h i (by omega), Nat.add_mul, if_neg (by omega), Nat.add_sub_cancel]
      have e2 := carry_step (p := pw i) (B := 4294967296) (a := nth xs i * s) (b := 0) (y := 0) (c := if i = 0 then 0 else nth xs (i - 1) * s / 4294967296) (s := shlAt xs s i) (c' := nth xs i * s / 4294967296) e (by unfold shlAt; omega)
      rw [Nat.mul_assoc (pw i)]
      simpa using e2
  have e := key (xs.length + 1) (Nat.le_refl _)
  rw [List.take_of_length_le (by omega), List.take_of_length_le (by omega), if_neg (by omega), Nat.add_sub_cancel, nth_out (Nat.le_refl _)] at e
  simpa using e

/-! ### Shifting to the right -/

theorem shr_val {s m : Nat} (hs : 4294967296 = s * m) : ∀ (us rs : List Nat), us.length = rs.length + 1 → small32 us → nth us rs.length = 0 → (∀ i, i < rs.length → nth rs i = (nth us (i + 1) * 4294967296 + nth us i) / s % 4294967296) → val rs = val us / s := by
  have hs0 : 0 < s := Nat.pos_of_ne_zero fun e => by subst e; omega
  have hm0 : 0 < m := Nat.pos_of_ne_zero fun e => by subst e; omega
  intro us rs
  induction rs generalizing us with
  | nil =>
    intro hl _ h0 _
    obtain ⟨x, rfl⟩ := List.length_eq_one_iff.1 hl
    have : x = 0 := by simpa [nth] using h0
    subst this
    simp [val]
  | cons r rs ih =>
    intro hl hu h0 hr
    obtain ⟨x, us, rfl⟩ : ∃ x u, us = x :: u := by cases us with | nil => simp at hl | cons x u => exact ⟨x, u, rfl⟩
    obtain ⟨y, t, rfl⟩ : ∃ y t, us = y :: t := by cases us with | nil => simp at hl | cons y t => exact ⟨y, t, rfl⟩
    have e := ih (y :: t) (by simpa using hl) hu.tail (by simpa [nth] using h0) (fun i hi => by
      have := hr (i + 1) (by simp; omega)
      simpa [nth] using this)
    have r0 : r = (y * 4294967296 + x) / s % 4294967296 := by
      have := hr 0 (by simp)
      simpa [nth] using this
    rw [val, e, r0]
    simp only [val]
    have hx := hu.head
    generalize val t = T
    -- (x + B*(y + B*T))/s
    have hy : y + 4294967296 * T = s * ((y + 4294967296 * T) / s) + y % s := by
      have := Nat.div_add_mod (y + 4294967296 * T) s
      have e3 : (y + 4294967296 * T) % s = y % s := by rw [hs, Nat.mul_assoc, Nat.add_mul_mod_self_left]
      omega
    generalize (y + 4294967296 * T) / s = Y at hy ⊢
    have h1 : (y * 4294967296 + x) / s = y * m + x / s := by
      rw [show y * 4294967296 = s * (y * m) by rw [hs, Nat.mul_left_comm], Nat.mul_add_div hs0]
    have h2 : y * m = 4294967296 * (y / s) + (y % s) * m := by
      have := Nat.div_add_mod y s
      conv => lhs; rw [← this]
      rw [Nat.add_mul, hs, Nat.mul_right_comm]
    have h3 : (y % s) * m + x / s < 4294967296 := by
      have a : (y % s + 1) * m ≤ 4294967296 := by rw [hs]; exact Nat.mul_le_mul_right m (Nat.mod_lt _ hs0)
      have b : x / s < m := by rw [Nat.div_lt_iff_lt_mul hs0, Nat.mul_comm, ← hs]; exact hx
      rw [Nat.add_mul] at a
      omega
    have h4 : (y * 4294967296 + x) / s % 4294967296 = (y % s) * m + x / s := by
      rw [h1, h2, Nat.add_assoc, Nat.mul_add_mod, Nat.mod_eq_of_lt h3]
    rw [h4, hy]
    have h5 : (x + 4294967296 * (s * Y + y % s)) / s = x / s + (4294967296 * Y + (y % s) * m) := by
      rw [show x + 4294967296 * (s * Y + y % s) = x + s * (4294967296 * Y + (y % s) * m) by
        rw [Nat.mul_add, Nat.mul_add, Nat.mul_left_comm 4294967296 s Y, ← Nat.mul_assoc, show s * ((y % s) * m) = 4294967296 * (y % s) by rw [hs, Nat.mul_left_comm, Nat.mul_comm (s * m)]], Nat.add_mul_div_left _ _ hs0]
    rw [h5]
    omega

/-! ### Guessing a digit of the quotient -/

/-- The parts of a number of n + 1 limbs and of a divisor of n limbs that the guess looks at. -/
structure Gue (P V X top u2 v1 v2 : Nat) : Prop where
  p1 : top * 4294967296 * X + u2 * X ≤ P
  p2 : P < top * 4294967296 * X + u2 * X + X
  q1 : v1 * 4294967296 * X + v2 * X ≤ V
  q2 : V < v1 * 4294967296 * X + v2 * X + X
  big : 2147483648 ≤ v1
  u2 : u2 < 4294967296
  v1 : v1 < 4294967296
  v2 : v2 < 4294967296
  lt : P < 4294967296 * V

theorem Gue.mk' {us vs : List Nat} {n : Nat} (hu : us.length = n + 3) (hv : vs.length = n + 2) (su : small32 us) (sv : small32 vs) (hb : 2147483648 ≤ nth vs (n + 1)) (hlt : val us < 4294967296 * val vs) :
    Gue (val us) (val vs) (pw n) (nth us (n + 2) * 4294967296 + nth us (n + 1)) (nth us n) (nth vs (n + 1)) (nth vs n) := by
  have e1 : val us = val (us.take n) + pw n * nth us n + pw (n + 1) * nth us (n + 1) + pw (n + 2) * nth us (n + 2) := by
    rw [← val_take_succ, ← val_take_succ, ← val_take_succ, List.take_of_length_le (by omega)]
  have e2 : val vs = val (vs.take n) + pw n * nth vs n + pw (n + 1) * nth vs (n + 1) := by
    rw [← val_take_succ, ← val_take_succ, List.take_of_length_le (by omega)]
  have a := val_lt' (small32_take su n)
  have b := val_lt' (small32_take sv n)
  rw [List.length_take, Nat.min_eq_left (by omega)] at a b
  simp only [pw_succ] at e1 e2
  have x0 := small32_nth su n
  have y0 := small32_nth sv n
  have y1 := small32_nth sv (n + 1)
  generalize nth us (n + 2) = t1 at *
  generalize nth us (n + 1) = t2 at *
  generalize nth us n = u2 at *
  generalize nth vs (n + 1) = v1 at *
  generalize nth vs n = v2 at *
  have m1 : (t1 * 4294967296 + t2) * 4294967296 * pw n = 4294967296 * (4294967296 * pw n) * t1 + 4294967296 * pw n * t2 := by
    rw [Nat.add_mul, Nat.add_mul]
    congr 1
    · rw [Nat.mul_assoc, Nat.mul_assoc, Nat.mul_comm t1]
    · rw [Nat.mul_assoc, Nat.mul_comm t2]
  have m2 : v1 * 4294967296 * pw n = 4294967296 * pw n * v1 := by rw [Nat.mul_assoc, Nat.mul_comm v1]
  have m3 : u2 * pw n = pw n * u2 := Nat.mul_comm _ _
  have m4 : v2 * pw n = pw n * v2 := Nat.mul_comm _ _
  exact ⟨by omega, by omega, by omega, by omega, hb, x0, y1, y0, hlt⟩

section
variable {P V X top u2 v1 v2 : Nat}

/-- A guess that is not less than the digit. -/
theorem Gue.start (h : Gue P V X top u2 v1 v2) : P < (top / v1 + 1) * V := by
  have hv : 0 < v1 := by have := h.big; omega
  have a : top + 1 ≤ (top / v1 + 1) * v1 := by
    have := Nat.div_add_mod top v1
    have := Nat.mod_lt top hv
    rw [Nat.add_mul, Nat.mul_comm]
    omega
  have b := Nat.mul_le_mul_right (4294967296 * X) a
  have c := Nat.mul_le_mul_left (top / v1 + 1) h.q1
  rw [Nat.mul_add] at c
  rw [Nat.add_mul, Nat.mul_assoc (top / v1 + 1)] at b
  have p2 := h.p2
  have d := Nat.mul_le_mul_right X (show u2 + 1 ≤ 4294967296 from h.u2)
  rw [Nat.add_mul] at d
  have m1 : top * 4294967296 * X = top * (4294967296 * X) := Nat.mul_assoc _ _ _
  have m2 : v1 * 4294967296 * X = v1 * (4294967296 * X) := Nat.mul_assoc _ _ _
  rw [m2] at c
  omega

theorem Gue.top_le (h : Gue P V X top u2 v1 v2) : top < 4294967296 * v1 + 4294967296 := by
  -- top*B*X ≤ P < B*V < B*(v1*B*X + v2*X + X) ≤ B*(v1+1)*B*X
  rcases Nat.lt_or_ge top (4294967296 * v1 + 4294967296) with h' | h'
  · exact h'
  · exfalso
    have a := Nat.mul_le_mul_right (4294967296 * X) h'
    have d := Nat.mul_le_mul_right X (show v2 + 1 ≤ 4294967296 from h.v2)
    rw [Nat.add_mul] at d a
    have p1 := h.p1
    have q2 := h.q2
    have l := h.lt
    have m1 : top * 4294967296 * X = top * (4294967296 * X) := Nat.mul_assoc _ _ _
    have m2 : 4294967296 * v1 * (4294967296 * X) = 4294967296 * (v1 * 4294967296 * X) := by rw [Nat.mul_assoc, Nat.mul_assoc]
    omega

/-- The test says that the guess is too great. -/
theorem Gue.down (h : Gue P V X top u2 v1 v2) {q r : Nat} (he : q * v1 + r = top) (ht : 4294967296 ≤ q ∨ r * 4294967296 + u2 < q * v2) : P < q * V := by
  rcases ht with ht | ht
  · exact Nat.lt_of_lt_of_le h.lt (Nat.mul_le_mul_right V ht)
  · have c := Nat.mul_le_mul_left q h.q1
    rw [Nat.mul_add] at c
    have p2 := h.p2
    have b := Nat.mul_le_mul_right X (show r * 4294967296 + u2 + 1 ≤ q * v2 from ht)
    rw [Nat.add_mul, Nat.add_mul] at b
    subst he
    have m1 : (q * v1 + r) * 4294967296 * X = q * (v1 * 4294967296 * X) + r * 4294967296 * X := by
      rw [Nat.add_mul, Nat.add_mul, Nat.mul_assoc q, Nat.mul_assoc q]
    have m2 : q * (v2 * X) = q * v2 * X := (Nat.mul_assoc _ _ _).symm
    omega

/-- The test lets the guess by: it is at most one too great. -/
theorem Gue.up (h : Gue P V X top u2 v1 v2) {q r : Nat} (he : q * v1 + r = top) (hq : q < 4294967296) (ht : q * v2 ≤ r * 4294967296 + u2) : (q - 1) * V ≤ P := by
  rcases Nat.eq_zero_or_pos q with h0 | h0
  · subst h0; simp
  obtain ⟨k, rfl⟩ : ∃ k, q = k + 1 := ⟨q - 1, by omega⟩
  rw [Nat.add_sub_cancel]
  have a := Nat.mul_le_mul_left k (Nat.le_of_lt h.q2)
  rw [Nat.add_mul, Nat.one_mul] at ht
  have b := Nat.mul_le_mul_right X ht
  have p1 := h.p1
  have g := Nat.mul_le_mul_right X (show k ≤ v1 * 4294967296 + v2 by have := h.big; omega)
  subst he
  rw [Nat.mul_add, Nat.mul_add] at a
  rw [Nat.add_mul] at g
  rw [Nat.add_mul, Nat.add_mul] at b
  have e : ((k + 1) * v1 + r) * 4294967296 * X = k * v1 * 4294967296 * X + v1 * 4294967296 * X + r * 4294967296 * X := by simp only [Nat.add_mul, Nat.one_mul]
  rw [e] at p1
  have m1 : k * (v1 * 4294967296 * X) = k * v1 * 4294967296 * X := by rw [← Nat.mul_assoc, ← Nat.mul_assoc]
  have m2 : k * (v2 * X) = k * v2 * X := (Nat.mul_assoc _ _ _).symm
  omega
end

/-! ### Taking a multiple of the divisor -/

structure Tak (zs ys out : List Nat) (off q i c b : Nat) : Prop where
  eq : val (out.take (off + i)) + pw off * (q * val (ys.take i)) = val (zs.take (off + i)) + pw (off + i) * (c + b)
  rest : out.drop (off + i) = zs.drop (off + i)
  len : out.length = zs.length
  small : small32 out
  lt : c < 4294967296
  le : b ≤ 1

theorem Tak.start {zs ys : List Nat} {off q : Nat} (hz : small32 zs) : Tak zs ys zs off q 0 0 0 := ⟨by simp [val], rfl, rfl, hz, by decide, by decide⟩

theorem Tak.at {zs ys out : List Nat} {off q i c b : Nat} (h : Tak zs ys out off q i c b) : nth out (off + i) = nth zs (off + i) := by
  have := congrArg (fun l => nth l 0) h.rest
  simpa only [nth_drop, Nat.add_zero] using this

theorem Tak.step {zs ys out : List Nat} {off q i c b : Nat} (h : Tak zs ys out off q i c b) (hy : small32 ys) (hq : q < 4294967296) (hi : off + i < zs.length) :
    Tak zs ys (out.set (off + i) (subL (nth out (off + i)) ((c + q * nth ys i) % 4294967296) b)) off q (i + 1) ((c + q * nth ys i) / 4294967296) (subB (nth out (off + i)) ((c + q * nth ys i) % 4294967296) b) := by
  have a := mul_lt_sq hq (small32_nth hy i)
  have g := small32_nth h.small (off + i)
  have l := h.lt
  refine ⟨?_, ?_, by simp [h.len], small32_set h.small _ _ (subL_lt _ _ _), by omega, subB_le _ _ _⟩
  · have e1 := sub_limb (y := (c + q * nth ys i) % 4294967296) g (Nat.mod_lt _ (by decide)) h.le
    rw [← Nat.add_assoc, val_take_set (by rw [h.len]; exact hi), val_take_succ zs, val_take_succ ys, pw_succ, ← h.at, Nat.mul_add q, Nat.mul_add (pw off)]
    have e := borrow_step (p := pw (off + i)) (B := 4294967296) (a := nth out (off + i)) (b := q * nth ys i) (c := c + b) (s := subL (nth out (off + i)) ((c + q * nth ys i) % 4294967296) b)
      (c' := (c + q * nth ys i) / 4294967296 + subB (nth out (off + i)) ((c + q * nth ys i) % 4294967296) b) h.eq (by omega)
    have e2 : pw off * (q * (pw i * nth ys i)) = pw (off + i) * (q * nth ys i) := by rw [pw_add, Nat.mul_assoc, Nat.mul_left_comm q]
    omega
  · rw [← Nat.add_assoc, set_drop_gt _ (by omega)]
    have := congrArg (List.drop 1) h.rest
    simpa using this

theorem Tak.done {zs ys out : List Nat} {off q c b : Nat} (h : Tak zs ys out off q ys.length c b) (hl : off + ys.length < zs.length) :
    val (out.set (off + ys.length) (subL (nth out (off + ys.length)) c b)) + pw off * (q * val ys) = val zs + pw (off + ys.length + 1) * subB (nth out (off + ys.length)) c b := by
  have e := h.eq
  have g := small32_nth h.small (off + ys.length)
  have e1 := sub_limb g h.lt h.le
  rw [List.take_of_length_le (Nat.le_refl _)] at e
  rw [val_split (out.set _ _) (off + ys.length + 1) (by simp [h.len]; omega), val_take_set (by rw [h.len]; exact hl), set_drop_gt _ (by omega),
    val_split zs (off + ys.length + 1) (by omega), val_take_succ zs, ← h.at]
  have hr : out.drop (off + ys.length + 1) = zs.drop (off + ys.length + 1) := by
    have := congrArg (List.drop 1) h.rest
    simpa using this
  rw [hr]
  have e3 := borrow_step (p := pw (off + ys.length)) (B := 4294967296) (a := nth out (off + ys.length)) (b := 0) (c := c + b) (s := subL (nth out (off + ys.length)) c b) (c' := subB (nth out (off + ys.length)) c b) e (by omega)
  rw [Nat.mul_zero, ← pw_succ] at e3
  omega

/-! ### Adding the divisor back -/

structure Bak (zs ys out : List Nat) (off i c : Nat) : Prop where
  eq : val (out.take (off + i)) + pw (off + i) * c = val (zs.take (off + i)) + pw off * val (ys.take i)
  rest : out.drop (off + i) = zs.drop (off + i)
  len : out.length = zs.length
  small : small32 out
  le : c ≤ 1

theorem Bak.start {zs ys : List Nat} {off : Nat} (hz : small32 zs) : Bak zs ys zs off 0 0 := ⟨by simp [val], rfl, rfl, hz, by decide⟩

theorem Bak.at {zs ys out : List Nat} {off i c : Nat} (h : Bak zs ys out off i c) : nth out (off + i) = nth zs (off + i) := by
  have := congrArg (fun l => nth l 0) h.rest
  simpa only [nth_drop, Nat.add_zero] using this

theorem Bak.step {zs ys out : List Nat} {off i c : Nat} (h : Bak zs ys out off i c) (hy : small32 ys) (hi : off + i < zs.length) :
    Bak zs ys (out.set (off + i) ((nth out (off + i) + nth ys i + c) % 4294967296)) off (i + 1) ((nth out (off + i) + nth ys i + c) / 4294967296) := by
  have g := small32_nth h.small (off + i)
  have y := small32_nth hy i
  have l := h.le
  refine ⟨?_, ?_, by simp [h.len], small32_set h.small _ _ (by omega), by omega⟩
  · rw [← Nat.add_assoc, val_take_set (by rw [h.len]; exact hi), val_take_succ zs, val_take_succ ys, pw_succ, ← h.at, Nat.mul_add (pw off)]
    have e := carry_step (p := pw (off + i)) (B := 4294967296) (a := nth out (off + i)) (b := nth ys i) (c := c) (s := (nth out (off + i) + nth ys i + c) % 4294967296) (c' := (nth out (off + i) + nth ys i + c) / 4294967296) h.eq (by omega)
    have e2 : pw off * (pw i * nth ys i) = pw (off + i) * nth ys i := by rw [pw_add, Nat.mul_assoc]
    omega
  · rw [← Nat.add_assoc, set_drop_gt _ (by omega)]
    have := congrArg (List.drop 1) h.rest
    simpa using this

theorem Bak.done {zs ys out : List Nat} {off c : Nat} (h : Bak zs ys out off ys.length c) (hl : off + ys.length < zs.length) :
    val (out.set (off + ys.length) ((nth out (off + ys.length) + c) % 4294967296)) + pw (off + ys.length + 1) * ((nth out (off + ys.length) + c) / 4294967296) = val zs + pw off * val ys := by
  have e := h.eq
  have g := small32_nth h.small (off + ys.length)
  rw [List.take_of_length_le (Nat.le_refl _)] at e
  rw [val_split (out.set _ _) (off + ys.length + 1) (by simp [h.len]; omega), val_take_set (by rw [h.len]; exact hl), set_drop_gt _ (by omega),
    val_split zs (off + ys.length + 1) (by omega), val_take_succ zs, ← h.at]
  have hr : out.drop (off + ys.length + 1) = zs.drop (off + ys.length + 1) := by
    have := congrArg (List.drop 1) h.rest
    simpa using this
  rw [hr]
  have e3 := carry_step (p := pw (off + ys.length)) (B := 4294967296) (a := nth out (off + ys.length)) (b := 0) (c := c) (s := (nth out (off + ys.length) + c) % 4294967296) (c' := (nth out (off + ys.length) + c) / 4294967296) e (by omega)
  rw [Nat.mul_zero, ← pw_succ] at e3
  omega

/-! ### One digit of a long division -/

/-- What is left, L + pw j * P, and what the digit's round makes of it. -/
theorem long_digit {L P V q j n U : Nat} (hU : U = L + pw j * P) (hL : L < pw j) (hV : 0 < V) (g1 : (q - 1) * V ≤ P) (g2 : P < (q + 1) * V) (hVn : V ≤ pw n)
    {U1 b : Nat} (e1 : U1 + pw j * (q * V) = U + pw (j + n + 1) * b) (hb : b ≤ 1) (h1 : U1 < pw (j + n + 1)) :
    (b = 0 → q = P / V ∧ U1 = L + pw j * (P % V)) ∧
    (b = 1 → 1 ≤ q ∧ q - 1 = P / V ∧ ∀ U2 k, U2 + pw (j + n + 1) * k = U1 + pw j * V → U2 < pw (j + n + 1) → U2 = L + pw j * (P % V)) := by
  have hp := pw_pos j
  constructor
  · intro h0
    subst h0
    have hle : q * V ≤ P := by
      rcases Nat.lt_or_ge P (q * V) with h | h
      · have := Nat.mul_le_mul_left (pw j) (show P + 1 ≤ q * V from h)
        rw [Nat.mul_add] at this
        omega
      · exact h
    have hq : P / V = q := by
      rw [Nat.div_eq_iff hV]
      rw [Nat.add_mul] at g2
      omega
    have hm : P % V + q * V = P := by
      have := Nat.div_add_mod P V
      rw [hq, Nat.mul_comm] at this
      omega
    refine ⟨hq.symm, ?_⟩
    have : pw j * P = pw j * (P % V) + pw j * (q * V) := by rw [← Nat.mul_add, hm]
    omega
  · intro h0
    subst h0
    have hlt : P < q * V := by
      rcases Nat.lt_or_ge P (q * V) with h | h
      · exact h
      · have := Nat.mul_le_mul_left (pw j) h
        omega
    obtain ⟨t, rfl⟩ : ∃ t, q = t + 1 := ⟨q - 1, by
      rcases Nat.eq_zero_or_pos q with h | h
      · subst h; omega
      · omega⟩
    rw [Nat.add_sub_cancel] at g1 ⊢
    have hq : P / V = t := by
      rw [Nat.div_eq_iff hV]
      rw [Nat.add_mul] at hlt
      omega
    have hm : P % V + t * V = P := by
      have := Nat.div_add_mod P V
      rw [hq, Nat.mul_comm] at this
      omega
    refine ⟨by omega, hq.symm, fun U2 k e2 h2 => ?_⟩
    have a : pw j * P = pw j * (P % V) + pw j * (t * V) := by rw [← Nat.mul_add, hm]
    have b : pw j * ((t + 1) * V) = pw j * (t * V) + pw j * V := by rw [Nat.add_mul, Nat.mul_add, Nat.one_mul]
    have c := Nat.mul_le_mul_left (pw j) (show P % V + 1 ≤ V from Nat.mod_lt _ hV)
    rw [Nat.mul_add] at c
    have d := Nat.mul_le_mul_left (pw j) hVn
    rw [← pw_add] at d
    have f := pw_le (show j + n ≤ j + n + 1 by omega)
    rcases Nat.lt_or_ge k 1 with hk | hk
    · obtain rfl : k = 0 := by omega
      omega
    · rcases Nat.lt_or_ge 1 k with hk' | hk'
      · have := Nat.mul_le_mul_left (pw (j + n + 1)) (show 2 ≤ k from hk')
        omega
      · obtain rfl : k = 1 := by omega
        omega

theorem limbs_len {N k : Nat} (h1 : pw k ≤ N) (h2 : N < pw (k + 1)) : (limbs N).length = k + 1 := by
  have hv := val_limbs N
  have a := val_lt' (limbs_small N)
  rw [hv] at a
  have b : k < (limbs N).length := pw_lt (Nat.lt_of_le_of_lt h1 a)
  obtain ⟨m, hm⟩ : ∃ m, (limbs N).length = m + 1 := ⟨(limbs N).length - 1, by omega⟩
  have c := canon_pos (limbs_canon N) hm
  rw [hv] at c
  have d : m < k + 1 := pw_lt (Nat.lt_of_le_of_lt c h2)
  omega

theorem top_ge {xs : List Nat} {k T : Nat} (hs : small32 xs) (hl : xs.length = k + 1) (h : pw k * T ≤ val xs) : T ≤ nth xs k := by
  have e := val_take_succ xs k
  rw [List.take_of_length_le (by omega)] at e
  have a := val_lt' (small32_take hs k)
  rw [List.length_take, Nat.min_eq_left (by omega)] at a
  rcases Nat.lt_or_ge (nth xs k) T with h' | h'
  · have := Nat.mul_le_mul_left (pw k) (show nth xs k + 1 ≤ T from h')
    rw [Nat.mul_add] at this
    omega
  · exact h'

/-- The divisor shifted: its first bit is set. -/
theorem norm {ys : List Nat} {k s m : Nat} (hs : small32 ys) (hl : ys.length = k + 1) (hsm : 4294967296 = s * m) (h1 : 2147483648 ≤ nth ys k * s) (h2 : nth ys k * s < 4294967296) :
    pw k * 2147483648 ≤ val ys * s ∧ val ys * s < pw (k + 1) := by
  have e := val_take_succ ys k
  rw [List.take_of_length_le (by omega)] at e
  have a := val_lt' (small32_take hs k)
  rw [List.length_take, Nat.min_eq_left (by omega)] at a
  have hs0 : 0 < s := Nat.pos_of_ne_zero fun e => by subst e; omega
  have hy : nth ys k + 1 ≤ m := by
    have : nth ys k * s < m * s := by rw [Nat.mul_comm m s, ← hsm]; exact h2
    have := Nat.lt_of_mul_lt_mul_right this
    omega
  generalize nth ys k = y at *
  constructor
  · have b := Nat.mul_le_mul_left (pw k) h1
    have c : pw k * (y * s) ≤ val ys * s := by
      rw [← Nat.mul_assoc]
      exact Nat.mul_le_mul_right s (by omega)
    omega
  · have b := Nat.mul_le_mul_left (pw k) hy
    rw [Nat.mul_add] at b
    have c : val ys < pw k * m := by omega
    have d := Nat.mul_lt_mul_of_pos_right c hs0
    rw [pw_succ, hsm, Nat.mul_comm (s * m)]
    rw [Nat.mul_assoc, Nat.mul_comm m s] at d
    exact d

/-- What the part looked at is. -/
theorem long_part {us : List Nat} {j m V : Nat} (hj : j + m + 1 ≤ us.length) (hU : val us < pw (j + 1) * V) (hV : V ≤ pw m) :
    val us = val (us.take j) + pw j * val ((us.take (j + m + 1)).drop j) ∧ val ((us.take (j + m + 1)).drop j) < 4294967296 * V ∧ val (us.drop (j + m + 1)) = 0 := by
  have a : val us < pw (j + m + 1) := by
    have := Nat.mul_le_mul_left (pw (j + 1)) hV
    rw [← pw_add, show j + 1 + m = j + m + 1 by omega] at this
    omega
  have s1 := val_split us (j + m + 1) hj
  have z : val (us.drop (j + m + 1)) = 0 := by
    rcases Nat.eq_zero_or_pos (val (us.drop (j + m + 1))) with h | h
    · exact h
    · have := Nat.le_mul_of_pos_right (pw (j + m + 1)) h
      omega
  rw [z] at s1
  have s2 := val_split (us.take (j + m + 1)) j (by rw [List.length_take]; omega)
  rw [List.take_take, Nat.min_eq_left (by omega)] at s2
  refine ⟨by omega, ?_, z⟩
  refine Nat.lt_of_mul_lt_mul_left (a := pw j) ?_
  rw [← Nat.mul_assoc, Nat.mul_comm (pw j) 4294967296, ← pw_succ]
  omega

theorem val_top {zs : List Nat} {k : Nat} (hs : small32 zs) (hk : k ≤ zs.length) (hz : val (zs.drop k) = 0) : val zs < pw k := by
  have s1 := val_split zs k hk
  have a := val_lt' (small32_take hs k)
  rw [List.length_take, Nat.min_eq_left hk] at a
  rw [hz] at s1
  omega

/-- One round of the division. -/
theorem long_step {X U L P V Q j U' : Nat} (hU : U = L + pw j * P) (hX : X = U + V * (pw (j + 1) * Q)) (hL : L < pw j) (hV : 0 < V) (hU' : U' = L + pw j * (P % V)) :
    U' < pw j * V ∧ X = U' + V * (pw j * (P / V + 4294967296 * Q)) := by
  have a := Nat.mul_le_mul_left (pw j) (show P % V + 1 ≤ V from Nat.mod_lt _ hV)
  rw [Nat.mul_add] at a
  refine ⟨by omega, ?_⟩
  have b : pw j * P = pw j * (P % V) + V * (pw j * (P / V)) := by
    rw [Nat.mul_left_comm, ← Nat.mul_add, Nat.add_comm, Nat.div_add_mod]
  have c : V * (pw (j + 1) * Q) = V * (pw j * (4294967296 * Q)) := by
    rw [pw_succ, Nat.mul_comm 4294967296, Nat.mul_assoc]
  rw [Nat.mul_add (pw j), Nat.mul_add V]
  omega

theorem long_done {x y s u q : Nat} (hs : 0 < s) (h : x * s = u + y * s * q) (hu : u < y * s) : q = x / y ∧ u / s = x % y := by
  have h1 : x * s / (y * s) = q := by
    rw [h, Nat.add_mul_div_left _ _ (by omega), Nat.div_eq_of_lt hu]
    omega
  have h2 : x * s % (y * s) = u := by
    rw [h, Nat.add_mul_mod_self_left, Nat.mod_eq_of_lt hu]
  rw [Nat.mul_div_mul_right _ _ hs] at h1
  rw [Nat.mul_mod_mul_right] at h2
  exact ⟨h1.symm, by rw [← h2, Nat.mul_div_cancel _ hs]⟩

theorem take_low {us : List Nat} {m : Nat} (h : val us < pw m) : val (us.take m) = val us := by
  by_cases hm : m ≤ us.length
  · have s1 := val_split us m hm
    rcases Nat.eq_zero_or_pos (val (us.drop m)) with h0 | h0
    · rw [h0] at s1; omega
    · have := Nat.le_mul_of_pos_right (pw m) h0
      omega
  · rw [List.take_of_length_le (by omega)]

theorem limbs_len_le {N k : Nat} (h : N < pw k) : (limbs N).length ≤ k := by
  rcases Nat.eq_zero_or_pos (limbs N).length with h0 | h0
  · omega
  · obtain ⟨m, hm⟩ : ∃ m, (limbs N).length = m + 1 := ⟨(limbs N).length - 1, by omega⟩
    have c := canon_pos (limbs_canon N) hm
    rw [val_limbs] at c
    have := pw_lt (Nat.lt_of_le_of_lt c h)
    omega

theorem mul_lt_pw {a b i j : Nat} (ha : a < pw i) (hb : b < pw j) : a * b < pw (i + j) := by
  rw [pw_add]
  exact Nat.mul_lt_mul_of_lt_of_le ha (Nat.le_of_lt hb) (pw_pos j)

end Go.Suf
