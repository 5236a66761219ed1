/- Fractions of natural numbers as the program keeps them: products, quotients, comparisons, billionths. No program in sight. -/
import Derived.Test.YtfcejgeckcoefaaQuoG
namespace Go.Proofs.Ytfcejgeckcoefaa
open Go.RowKit Go.Suf
set_option linter.unusedVariables false
set_option linter.unusedSimpArgs false

abbrev fr (A B : Nat) : QV := lowV false A B

theorem fr_scale {k A B : Nat} (hk : 0 < k) : fr (k * A) (k * B) = fr A B := by
  unfold fr lowV
  rw [Nat.gcd_mul_left, Nat.mul_div_mul_left _ _ hk, Nat.mul_div_mul_left _ _ hk]

theorem fr_prod {g h N M P Q A B C D : Nat} (x1 : N * g = A) (x2 : M * g = B) (y1 : P * h = C) (y2 : Q * h = D) (hg : 0 < g) (hh : 0 < h) : fr (A * C) (B * D) = fr (N * P) (M * Q) := by
  subst x1 x2 y1 y2
  rw [Nat.mul_mul_mul_comm N g P h, Nat.mul_mul_mul_comm M g Q h, Nat.mul_comm (N * P), Nat.mul_comm (M * Q)]
  exact fr_scale (Nat.mul_pos hg hh)

theorem bill_scale {g N M A B U : Nat} (x1 : N * g = A) (x2 : M * g = B) (hg : 0 < g) : A * U / B = N * U / M := by
  subst x1 x2
  rw [Nat.mul_right_comm, Nat.mul_div_mul_right _ _ hg]

theorem fr_get {A B : Nat} (hB : B ≠ 0) : ∃ p : Rat, fr A B = ofQ p ∧ p.num.natAbs = A / A.gcd B ∧ p.den = B / A.gcd B ∧ decide (p.num < 0) = false ∧ (A < pw 96 → B < pw 96 → fitQ p) := by
  have e := lowV_eq false A B hB
  have e2 : ofQ (mkRat (sg false A) B) = ⟨false, limbs (A / A.gcd B), limbs (B / A.gcd B)⟩ := by rw [← e]; rfl
  have g := ofQ_get e2
  refine ⟨_, e, g.1, g.2, congrArg QV.neg e2, fun h1 h2 => ⟨?_, ?_⟩⟩
  · rw [g.1]; exact Nat.lt_of_le_of_lt (Nat.div_le_self _ _) h1
  · rw [g.2]; exact Nat.lt_of_le_of_lt (Nat.div_le_self _ _) h2

theorem fr_chk {A B : Nat} (hB : B ≠ 0) (h1 : A < pw 96) (h2 : B < pw 96) : chkV (fr A B) = 0 := by
  obtain ⟨p, e, -, -, -, f⟩ := fr_get (A := A) hB
  rw [e]
  exact chkV_ofQ (f h1 h2)

theorem fr_back {A B : Nat} (hB : B ≠ 0) : (A / A.gcd B) * A.gcd B = A ∧ (B / A.gcd B) * A.gcd B = B ∧ 0 < A.gcd B :=
  ⟨Nat.div_mul_cancel (Nat.gcd_dvd_left _ _), Nat.div_mul_cancel (Nat.gcd_dvd_right _ _), Nat.gcd_pos_of_pos_right _ (Nat.pos_of_ne_zero hB)⟩

theorem p48 {A B : Nat} (hA : A < pw 48) (hB : B < pw 48) : A * B < pw 96 := Nat.lt_of_lt_of_le (mul_lt_pw hA hB) (pw_le (by decide))
theorem l48 {A : Nat} (h : A < pw 48) : A < pw 96 := Nat.lt_of_lt_of_le h (pw_le (by decide))

theorem fr_mul {A B C D : Nat} (hB : B ≠ 0) (hD : D ≠ 0) (a : A < pw 48) (b : B < pw 48) (c : C < pw 48) (d : D < pw 48) : mulV (fr A B) (fr C D) = (fr (A * C) (B * D), 0) := by
  obtain ⟨p, e1, n1, d1, s1, f1⟩ := fr_get (A := A) hB
  obtain ⟨q, e2, n2, d2, s2, f2⟩ := fr_get (A := C) hD
  obtain ⟨x1, x2, g1⟩ := fr_back (A := A) hB
  obtain ⟨y1, y2, g2⟩ := fr_back (A := C) hD
  rw [mulV, bothV, if_pos ⟨fr_chk hB (l48 a) (l48 b), fr_chk hD (l48 c) (l48 d)⟩, e1, e2, toQ_ofQ, toQ_ofQ, ← prodV_eq, s1, s2, n1, n2, d1, d2, prodV, if_pos]
  · have e := fr_prod x1 x2 y1 y2 g1 g2
    rw [e]
    rfl
  · exact ⟨p48 (Nat.lt_of_le_of_lt (Nat.div_le_self _ _) a) (Nat.lt_of_le_of_lt (Nat.div_le_self _ _) c), p48 (Nat.lt_of_le_of_lt (Nat.div_le_self _ _) b) (Nat.lt_of_le_of_lt (Nat.div_le_self _ _) d)⟩

theorem fr_div {A B C D : Nat} (hB : B ≠ 0) (hC : C ≠ 0) (hD : D ≠ 0) (a : A < pw 48) (b : B < pw 48) (c : C < pw 48) (d : D < pw 48) : divV (fr A B) (fr C D) = (fr (A * D) (B * C), 0) := by
  obtain ⟨p, e1, n1, d1, s1, f1⟩ := fr_get (A := A) hB
  obtain ⟨q, e2, n2, d2, s2, f2⟩ := fr_get (A := C) hD
  obtain ⟨x1, x2, g1⟩ := fr_back (A := A) hB
  obtain ⟨y1, y2, g2⟩ := fr_back (A := C) hD
  have nz : C / C.gcd D ≠ 0 := fun h => by rw [h, Nat.zero_mul] at y1; exact hC y1.symm
  rw [divV, bothV, if_pos ⟨fr_chk hB (l48 a) (l48 b), fr_chk hD (l48 c) (l48 d)⟩, e1, e2, toQ_ofQ, toQ_ofQ, ← quoV_eq, s1, s2, n1, n2, d1, d2, quoV, if_neg nz, prodV, if_pos]
  · have e := fr_prod x1 x2 y2 y1 g1 g2
    rw [e]
    rfl
  · exact ⟨p48 (Nat.lt_of_le_of_lt (Nat.div_le_self _ _) a) (Nat.lt_of_le_of_lt (Nat.div_le_self _ _) d), p48 (Nat.lt_of_le_of_lt (Nat.div_le_self _ _) b) (Nat.lt_of_le_of_lt (Nat.div_le_self _ _) c)⟩

/-- Cross products of reduced fractions compare as those of the fractions. -/
theorem fr_cross {A B C D g h N M P Q : Nat} (hA : N * g = A) (hB : M * g = B) (hC : P * h = C) (hD : Q * h = D) (hg : 0 < g) (hh : 0 < h) : (N * Q < P * M ↔ A * D < C * B) ∧ (P * M < N * Q ↔ C * B < A * D) := by
  have e1 : A * D = N * Q * (g * h) := by rw [← hA, ← hD, Nat.mul_mul_mul_comm]
  have e2 : C * B = P * M * (g * h) := by rw [← hC, ← hB, Nat.mul_mul_mul_comm, Nat.mul_comm h g]
  have hp : 0 < g * h := Nat.mul_pos hg hh
  rw [e1, e2]
  exact ⟨(Nat.mul_lt_mul_right hp).symm, (Nat.mul_lt_mul_right hp).symm⟩

theorem fr_cmp {A B C D : Nat} (hB : B ≠ 0) (hD : D ≠ 0) (a : A < pw 48) (b : B < pw 48) (c : C < pw 48) (d : D < pw 48) : ∃ s : Int, cmpV (fr A B) (fr C D) = (s, 0) ∧ (s < 0 ↔ A * D < C * B) ∧ (0 < s ↔ C * B < A * D) ∧ (s = 0 ↔ A * D = C * B) := by
  obtain ⟨p, e1, n1, d1, s1, f1⟩ := fr_get (A := A) hB
  obtain ⟨q, e2, n2, d2, s2, f2⟩ := fr_get (A := C) hD
  obtain ⟨x1, x2, g1⟩ := fr_back (A := A) hB
  obtain ⟨y1, y2, g2⟩ := fr_back (A := C) hD
  have cr := fr_cross x1 x2 y1 y2 g1 g2
  have p0 : p.num = ((A / A.gcd B : Nat) : Int) := by have := of_decide_eq_false s1; omega
  have q0 : q.num = ((C / C.gcd D : Nat) : Int) := by have := of_decide_eq_false s2; omega
  refine ⟨cmpR p q, ?_, ?_⟩
  · rw [cmpV, if_pos ⟨fr_chk hB (l48 a) (l48 b), fr_chk hD (l48 c) (l48 d)⟩, e1, e2, toQ_ofQ, toQ_ofQ, cmpQ, if_neg]
    rintro ⟨_, _, h⟩
    refine h ⟨?_, ?_⟩
    · rw [n1, d2]; exact p48 (Nat.lt_of_le_of_lt (Nat.div_le_self _ _) a) (Nat.lt_of_le_of_lt (Nat.div_le_self _ _) d)
    · rw [n2, d1]; exact p48 (Nat.lt_of_le_of_lt (Nat.div_le_self _ _) c) (Nat.lt_of_le_of_lt (Nat.div_le_self _ _) b)
  · rw [cmpR_num, p0, q0, d1, d2, ← Int.natCast_mul, ← Int.natCast_mul]
    generalize A / A.gcd B * (D / C.gcd D) = X at *
    generalize C / C.gcd D * (B / A.gcd B) = Y at *
    generalize A * D = U at *
    generalize C * B = V at *
    by_cases h : X < Y
    · rw [if_pos (by omega)]
      have := cr.1.1 h
      omega
    · rw [if_neg (by omega)]
      by_cases h2 : Y < X
      · rw [if_pos (by omega)]
        have := cr.2.1 h2
        omega
      · rw [if_neg (by omega)]
        have h3 : ¬ U < V := fun hh => h (cr.1.2 hh)
        have h4 : ¬ V < U := fun hh => h2 (cr.2.2 hh)
        omega

theorem fr_bill {A B : Nat} (hB : B ≠ 0) (a : A < pw 48) (b : B < pw 48) : billC (fr A B) = tellN (A * 1000000000 / B) := by
  obtain ⟨x1, x2, g1⟩ := fr_back (A := A) hB
  have e : fr A B = ⟨false, limbs (A / A.gcd B), limbs (B / A.gcd B)⟩ := rfl
  have k1 := limbs_len_le (Nat.lt_of_le_of_lt (Nat.div_le_self A (A.gcd B)) a)
  have k2 := limbs_len_le (Nat.lt_of_le_of_lt (Nat.div_le_self B (A.gcd B)) b)
  rw [billC, if_pos ⟨fr_chk hB (l48 a) (l48 b), rfl⟩, if_neg]
  · show tellN (val (limbs (A / A.gcd B)) * 1000000000 / val (limbs (B / A.gcd B))) = _
    rw [val_limbs, val_limbs]
    rw [bill_scale (U := 1000000000) x1 x2 g1]
  · intro h
    rcases h with h | h
    · have h : 90 < (limbs (A / A.gcd B)).length := h
      omega
    · have h : 90 < (limbs (B / A.gcd B)).length := h
      omega

theorem fr_same {A B C D : Nat} (hB : B ≠ 0) (hD : D ≠ 0) (h : A * D = C * B) : fr A B = fr C D := by
  have e1 := fr_scale (k := D) (A := A) (B := B) (Nat.pos_of_ne_zero hD)
  have e2 := fr_scale (k := B) (A := C) (B := D) (Nat.pos_of_ne_zero hB)
  rw [← e1, ← e2, Nat.mul_comm D A, h, Nat.mul_comm C B, Nat.mul_comm D B]

theorem ofC_fr {n d : Nat} (hd : d ≠ 0) : ofC (n : Int) (d : Int) = (fr n d, 0) := by
  rw [ofC_pair (by omega), ofC_low hd]
  rfl

theorem ratQ_fr {n : Nat} (h : n ≤ 1000000000000000) : ratQ (n : Int) = (fr n 1000000000, 0) := by
  rw [ratQ, if_pos (by unfold inQ; omega)]
  exact ofC_fr (d := 1000000000) (by decide)

theorem small48 {n : Nat} (h : n < 18446744073709551616) : n < pw 48 := Nat.lt_of_lt_of_le (show n < pw 2 from h) (pw_le (by decide))
theorem sq48 {n m : Nat} (h : n ≤ 1000000000000000) (h2 : m ≤ 1000000000000000) : n * m < pw 48 :=
  Nat.lt_of_le_of_lt (Nat.mul_le_mul h h2) (Nat.lt_of_lt_of_le (show 1000000000000000 * 1000000000000000 < pw 4 by decide) (pw_le (by decide)))

theorem refMay_b (w : World) (v s : Int) : Calls Try.prog 28 #[.int .i64 v, .int .i64 s] w (RetBB w (decide (mayQ v s))) := by
  refine (refMay_any w v s).mono ?_
  rintro e w1 ⟨rfl, hw⟩
  rw [hw]
  exact ⟨rfl, Below.refl _ _⟩

end Go.Proofs.Ytfcejgeckcoefaa
