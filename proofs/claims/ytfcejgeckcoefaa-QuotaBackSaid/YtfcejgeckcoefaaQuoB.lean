/- math/bits: Div64. No condition but that the quotient fits. Printed by gen_quob.py. -/
import Derived.Test.YtfcejgeckcoefaaQuoA
import Derived.Deep.CutBlock
namespace Go.Proofs.Ytfcejgeckcoefaa
open Go.RowKit Go.Suf
set_option linter.unusedVariables false
set_option linter.unusedSimpArgs false

/-- The operands of the long division, scaled. -/
theorem div64_digits {hi lo y s Y : Nat} (hh : hi < y) (hl : lo < 18446744073709551616) (hs : s ≤ 63) (hY : Y = y * 2 ^ s) (c2 : Y < 18446744073709551616) :
    ∃ H L A W0 : Nat, IntKind.u64.wrap ((hi : Int) * 2 ^ s) = (H : Int) ∧ (lo : Int) / 2 ^ (64 - s) = (L : Int) ∧ bits .or .u64 (H : Int) (L : Int) = (A : Int) ∧ IntKind.u64.wrap ((lo : Int) * 2 ^ s) = (W0 : Int) ∧ A = H + L ∧ A < Y ∧ W0 < 18446744073709551616 ∧ A * 18446744073709551616 + W0 = (hi * 18446744073709551616 + lo) * 2 ^ s := by
  have pp : 0 < 2 ^ s := Nat.two_pow_pos s
  have e64 : 2 ^ (64 - s) * 2 ^ s = 18446744073709551616 := by rw [← Nat.pow_add, show 64 - s + s = 64 by omega]
  have hH : hi * 2 ^ s < 18446744073709551616 := Nat.lt_trans (Nat.mul_lt_mul_of_pos_right hh pp) (by rw [← hY]; exact c2)
  have lL : lo / 2 ^ (64 - s) < 2 ^ s := by
    rw [Nat.div_lt_iff_lt_mul (Nat.two_pow_pos _), Nat.mul_comm, e64]
    exact hl
  have eL : lo / 2 ^ (64 - s) = lo * 2 ^ s / 18446744073709551616 := by rw [← e64, Nat.mul_div_mul_right _ _ pp]
  have dm := Nat.div_add_mod (lo * 2 ^ s) 18446744073709551616
  have eU : (hi * 2 ^ s + lo / 2 ^ (64 - s)) * 18446744073709551616 + lo * 2 ^ s % 18446744073709551616 = (hi * 18446744073709551616 + lo) * 2 ^ s := by
    rw [eL, Nat.add_mul, Nat.add_mul, Nat.mul_right_comm hi]
    omega
  have lA : hi * 2 ^ s + lo / 2 ^ (64 - s) < Y := by
    have h1 : (hi * 18446744073709551616 + lo) * 2 ^ s < Y * 18446744073709551616 := by
      rw [hY, Nat.mul_right_comm]
      refine Nat.mul_lt_mul_of_pos_right ?_ pp
      omega
    omega
  refine ⟨hi * 2 ^ s, lo / 2 ^ (64 - s), hi * 2 ^ s + lo / 2 ^ (64 - s), lo * 2 ^ s % 18446744073709551616, ?_, ?_, ?_, ?_, rfl, lA, Nat.mod_lt _ (by decide), eU⟩
  · rw [show (hi : Int) * 2 ^ s = ((hi * 2 ^ s : Nat) : Int) by simp]
    exact wrap_u64 (by omega) (by omega)
  · simp
  · rw [u64_or_nat _ _ hH (by omega)]
    have e := Nat.shiftLeft_add_eq_or_of_lt lL hi
    rw [Nat.shiftLeft_eq] at e
    rw [← e]
  · rw [show (lo : Int) * 2 ^ s = ((lo * 2 ^ s : Nat) : Int) by simp]
    simp only [IntKind.wrap, IntKind.bits, IntKind.signed]
    simp

/-- A digit's rest, as the code finds it: nothing is lost by wrapping. -/
theorem div64_step {Y : Nat} (hY : Y < 18446744073709551616) {A c : Nat} (hA : A < Y) (hc : c < 4294967296) :
    IntKind.u64.wrap (IntKind.u64.wrap (IntKind.u64.wrap ((A : Int) * 4294967296) + (c : Int)) - IntKind.u64.wrap ((((A * 4294967296 + c) / Y : Nat) : Int) * (Y : Int))) = (((A * 4294967296 + c) % Y : Nat) : Int) := by
  have e := Nat.div_add_mod (A * 4294967296 + c) Y
  have hl := Nat.mod_lt (A * 4294967296 + c) (show 0 < Y by omega)
  rw [← Int.natCast_mul, Nat.mul_comm ((A * 4294967296 + c) / Y) Y]
  generalize (A * 4294967296 + c) % Y = R at *
  generalize Y * ((A * 4294967296 + c) / Y) = P at *
  have e2 : (A : Int) * 4294967296 + (c : Int) = (P : Int) + (R : Int) := by omega
  generalize (A : Int) * 4294967296 = Z at *
  simp only [IntKind.wrap, IntKind.bits, IntKind.signed]
  simp
  omega

/-- The guess and its rest, as the code finds them. -/
theorem div64_guess {A y1 : Nat} (hA : A < 18446744073709551616) (h1 : 2147483648 ≤ y1) :
    ((A : Int).tdiv (y1 : Int) = ((A / y1 : Nat) : Int)) ∧ IntKind.u64.wrap ((A / y1 : Nat) : Int) = ((A / y1 : Nat) : Int) ∧ IntKind.u64.wrap (((A / y1 : Nat) : Int) * (y1 : Int)) = ((A / y1 * y1 : Nat) : Int) ∧ IntKind.u64.wrap ((A : Int) - ((A / y1 * y1 : Nat) : Int)) = ((A % y1 : Nat) : Int) := by
  have e := Nat.div_add_mod A y1
  have hl := Nat.mod_lt A (show 0 < y1 by omega)
  rw [Nat.mul_comm] at e
  refine ⟨by rw [Int.tdiv_eq_ediv_of_nonneg (by omega)]; exact (Int.natCast_ediv _ _).symm, wrap_u64 (Int.natCast_nonneg _) (by have h2 := Nat.div_le_self A y1; have h3 := Nat.lt_of_le_of_lt h2 hA; exact Int.ofNat_lt.2 h3), ?_, ?_⟩
  · rw [← Int.natCast_mul]
    generalize A / y1 * y1 = P at *
    exact wrap_u64 (by omega) (by omega)
  · generalize A / y1 * y1 = P at *
    generalize A % y1 = R at *
    rw [wrap_u64 (by omega) (by omega)]
    omega

set_option maxRecDepth 100000 in
set_option maxHeartbeats 4000000 in
theorem Div64_any (w : World) (hi lo y : Nat) (hy : y < 18446744073709551616) (hh : hi < y) (hl : lo < 18446744073709551616) (h0 : 0 < hi) :
    Calls Try.prog 68 #[.int .u64 (hi : Nat), .int .u64 (lo : Nat), .int .u64 (y : Nat)] w fun e w' => e = .returned (.tuple #[.int .u64 (((hi * 18446744073709551616 + lo) / y : Nat) : Int), .int .u64 (((hi * 18446744073709551616 + lo) % y : Nat) : Int)]) ∧ Below w.heap.size w w' := by
  have hyp : 0 < y := by omega
  have y0' : ((y : Int) == 0) = false := beq_eq_false_iff_ne.2 (by omega)
  have yh : decide ((y : Int) ≤ (hi : Int)) = false := decide_eq_false (by omega)
  have yhn : decide (y ≤ hi) = false := decide_eq_false (by omega)
  have hz : ((hi : Int) == 0) = false := beq_eq_false_iff_ne.2 (by omega)
  have HY := Lib.hid hy
  have HH := Lib.hid (show hi < y ∧ lo < 18446744073709551616 from ⟨hh, hl⟩)
  obtain ⟨q, hq⟩ : ∃ q, q = (hi * 18446744073709551616 + lo) / y := ⟨_, rfl⟩
  obtain ⟨m, hm⟩ : ∃ m, m = (hi * 18446744073709551616 + lo) % y := ⟨_, rfl⟩
  rw [← hq, ← hm]
  have HQ := Lib.hid hq
  have HM := Lib.hid hm
  have HYP := Lib.hid hyp
  clear hy hh hl h0 hq hm hyp
  go_enter Try.func68, Try.ntmps68
  go_wp2_with fail
  refine (LeadingZeros64_any w y HYP.out HY.out).mono ?_
  rintro e w1 ⟨s, hs, rfl, c1, c2, hw⟩
  subst hw
  obtain ⟨Y, hY⟩ : ∃ Y, Y = y * 2 ^ s := ⟨_, rfl⟩
  have dig := div64_digits HH.out.1 HH.out.2 hs hY (by rw [hY]; exact c2)
  obtain ⟨H, L, A, W0, e1, e2, e3, e4, -, lA, lW, eU⟩ := dig
  have cs : IntKind.u64.wrap (s : Int) = (s : Int) := wrap_u64 (by omega) (by omega)
  have eY : IntKind.u64.wrap ((y : Int) * 2 ^ s) = (Y : Int) := by
    rw [hY, show (y : Int) * 2 ^ s = ((y * 2 ^ s : Nat) : Int) by simp]
    exact wrap_u64 (by omega) (by omega)
  rw [← hY] at c1 c2
  have HYs := Lib.hid hY
  have cx : IntKind.u64.wrap (64 - (s : Int)) = ((64 - s : Nat) : Int) := by rw [wrap_u64 (by omega) (by omega)]; omega
  have HS := Lib.hid hs
  have a1 := andK32 c2
  have d1 : (Y : Int) / 4294967296 = ((Y / 4294967296 : Nat) : Int) := by omega
  obtain ⟨y1, hy1⟩ : ∃ y1, y1 = Y / 4294967296 := ⟨_, rfl⟩
  obtain ⟨y0, hy0⟩ : ∃ y0, y0 = Y % 4294967296 := ⟨_, rfl⟩
  rw [← hy1] at d1
  rw [← hy0] at a1
  have EQ := Lib.hid (show Y = y1 * 4294967296 + y0 by omega)
  have BY := Lib.hid (show y0 < 4294967296 ∧ y1 < 4294967296 ∧ 2147483648 ≤ y1 ∧ 0 < Y by omega)
  have a2 := andK32 lW
  have d2 : (W0 : Int) / 4294967296 = ((W0 / 4294967296 : Nat) : Int) := by omega
  obtain ⟨u1, hu1⟩ : ∃ u1, u1 = W0 / 4294967296 := ⟨_, rfl⟩
  obtain ⟨u0, hu0⟩ : ∃ u0, u0 = W0 % 4294967296 := ⟨_, rfl⟩
  rw [← hu1] at d2
  rw [← hu0] at a2
  have EW := Lib.hid (show W0 = u1 * 4294967296 + u0 by omega)
  have BC1 := Lib.hid (show u1 < 4294967296 by omega)
  have BC2 := Lib.hid (show u0 < 4294967296 by omega)
  have BA1 := Lib.hid lA
  obtain ⟨Q1, hQ1⟩ : ∃ Q, Q = (A * 4294967296 + u1) / Y := ⟨_, rfl⟩
  obtain ⟨R1, hR1⟩ : ∃ R, R = (A * 4294967296 + u1) % Y := ⟨_, rfl⟩
  have QD1 := Lib.hid hQ1
  have RD1 := Lib.hid hR1
  have BA2 := Lib.hid (show R1 < Y by rw [hR1]; exact Nat.mod_lt _ BY.out.2.2.2)
  obtain ⟨Q2, hQ2⟩ : ∃ Q, Q = (R1 * 4294967296 + u0) / Y := ⟨_, rfl⟩
  obtain ⟨R2, hR2⟩ : ∃ R, R = (R1 * 4294967296 + u0) % Y := ⟨_, rfl⟩
  have QD2 := Lib.hid hQ2
  have RD2 := Lib.hid hR2
  have G1 := Lib.hid (gs_start (c := u1) EQ.out BY.out.2.2.1 BY.out.1 BC1.out lA)
  have G2 := Lib.hid (gs_start (c := u0) EQ.out BY.out.2.2.1 BY.out.1 BC2.out BA2.out)
  have YZ : ((y1 : Int) == 0) = false := beq_eq_false_iff_ne.2 (by have := BY.out.2.2.1; omega)
  have YZn : (y1 == 0) = false := beq_eq_false_iff_ne.2 (by have := BY.out.2.2.1; omega)
  have YZ' : ¬ ((y1 : Int) = 0) := by have := BY.out.2.2.1; omega
  have YZ2 : ¬ (y1 = 0) := by have := BY.out.2.2.1; omega
  have EU := Lib.hid eU
  have C2 := Lib.hid c2
  have st1 := div64_step (Y := Y) c2 (A := A) (c := u1) lA BC1.out
  have st2 := div64_step (Y := Y) c2 (A := R1) (c := u0) BA2.out BC2.out
  rw [← hQ1, ← hR1] at st1
  rw [← hQ2, ← hR2] at st2
  obtain ⟨f1, f4, f2, f3⟩ := div64_guess (A := A) (y1 := y1) (by have := lA; omega) BY.out.2.2.1
  obtain ⟨g1, g4, g2, g3⟩ := div64_guess (A := R1) (y1 := y1) (by have := BA2.out; omega) BY.out.2.2.1
  obtain ⟨pa1, hpa1⟩ : ∃ p, p = A / y1 * y1 := ⟨_, rfl⟩
  obtain ⟨pa2, hpa2⟩ : ∃ p, p = R1 / y1 * y1 := ⟨_, rfl⟩
  rw [← hpa1] at f2 f3
  rw [← hpa2] at g2 g3
  obtain ⟨qa1, hqa1⟩ : ∃ p, p = A / y1 := ⟨_, rfl⟩
  obtain ⟨qa2, hqa2⟩ : ∃ p, p = R1 / y1 := ⟨_, rfl⟩
  obtain ⟨ra1, hra1⟩ : ∃ p, p = A % y1 := ⟨_, rfl⟩
  obtain ⟨ra2, hra2⟩ : ∃ p, p = R1 % y1 := ⟨_, rfl⟩
  rw [← hqa1] at f1 f2 f4
  rw [← hqa2] at g1 g2 g4
  rw [← hra1] at f3
  rw [← hra2] at g3
  rw [← hqa1, ← hra1] at G1
  rw [← hqa2, ← hra2] at G2
  obtain ⟨z1, hz1⟩ : ∃ z, z = IntKind.u64.wrap ((A : Int) * 4294967296) := ⟨_, rfl⟩
  obtain ⟨z2, hz2⟩ : ∃ z, z = IntKind.u64.wrap (z1 + (u1 : Int)) := ⟨_, rfl⟩
  obtain ⟨z3, hz3⟩ : ∃ z, z = IntKind.u64.wrap ((Q1 : Int) * (Y : Int)) := ⟨_, rfl⟩
  rw [← hz1, ← hz3, ← hz2] at st1
  obtain ⟨x1, hx1⟩ : ∃ z, z = IntKind.u64.wrap ((R1 : Int) * 4294967296) := ⟨_, rfl⟩
  obtain ⟨x2, hx2⟩ : ∃ z, z = IntKind.u64.wrap (x1 + (u0 : Int)) := ⟨_, rfl⟩
  obtain ⟨x3, hx3⟩ : ∃ z, z = IntKind.u64.wrap ((Q2 : Int) * (Y : Int)) := ⟨_, rfl⟩
  rw [← hx1, ← hx3, ← hx2] at st2
  have k1 := hz1.symm
  have k2 := hz2.symm
  have k3 := hz3.symm
  have k4 := hx1.symm
  have k5 := hx2.symm
  have k6 := hx3.symm
  have q1b : Q1 < 4294967296 := by rw [hQ1]; exact gs_digit BC1.out lA
  have q2b : Q2 < 4294967296 := by rw [hQ2]; exact gs_digit BC2.out BA2.out
  obtain ⟨QK, hQK⟩ : ∃ z, z = Q1 * 4294967296 := ⟨_, rfl⟩
  have k7 : IntKind.u64.wrap ((Q1 : Int) * 4294967296) = (QK : Int) := by rw [hQK, Int.natCast_mul]; exact wrap_u64 (by omega) (by omega)
  have fin := two_digits (U := A * 18446744073709551616 + W0) (A := A) (u1 := u1) (u0 := u0) (Y := Y) (by have := EW.out; omega) BY.out.2.2.2
  rw [← hQ1, ← hR1, ← hQ2, ← hR2, EU.out, HYs.out, (scaled (Nat.two_pow_pos s) HYP.out).1, ← HQ.out] at fin
  have k8 : IntKind.u64.wrap ((QK : Int) + (Q2 : Int)) = (q : Int) := by
    rw [← fin.1, Int.natCast_add, ← hQK]
    exact wrap_u64 (by omega) (by omega)
  have k9 : (R2 : Int) / 2 ^ s = (m : Int) := by
    rw [HM.out, ← (scaled (Nat.two_pow_pos s) HYP.out).2, ← fin.2]
    simp
  clear hz1 hz2 hz3 hx1 hx2 hx3 hQ1 hR1 hQ2 hR2 hy1 hy0 hu1 hu0 hY eU c1 c2 lA lW q1b q2b fin hQK hpa1 hpa2 hqa1 hqa2 hra1 hra2
  go_upto_block 0 with fail
  go_cut [15] from 67 to 85 (fun v wx => v = Value.int .u64 (Q1 : Nat) ∧ wx = w)
  case first =>
    go_wp2_with fail
    go_loopw [15, 16] (fun v u wr => wr = w ∧ ∃ (a b : Nat), v = .int .u64 (a : Nat) ∧ u = .int .u64 (b : Nat) ∧ Gs A u1 Y y1 a b ∧ a ≤ 4294967297 ∧ b < 4294967296) (fun v _ _ => (intOf v).toNat)
    case atStart => exact ⟨rfl, qa1, ra1, rfl, rfl, G1.out.1, G1.out.2.1, Nat.lt_trans G1.out.2.2 BY.out.2.1⟩
    case round =>
      obtain ⟨hw, a, b, rfl, rfl, g, ha, hb⟩ := hrel
      subst hw
      have GG := Lib.hid g
      have HB := Lib.hid hb
      have HA := Lib.hid ha
      have by1 := BY.out.2.1
      have by0 := BY.out.1
      obtain ⟨A', hA'⟩ : ∃ A', A' = a - 1 := ⟨_, rfl⟩
      obtain ⟨B', hB'⟩ : ∃ B', B' = b + y1 := ⟨_, rfl⟩
      have body : 4294967296 ≤ a ∨ b * 4294967296 + u1 < a * y0 → 1 ≤ a ∧ Gs A u1 Y y1 A' B' := fun h => by rw [hA', hB']; exact gs_dec EQ.out BC1.out BA1.out g h
      have HBD := Lib.hid body
      have s1 : IntKind.u64.wrap ((b : Int) + (y1 : Int)) = (B' : Int) := by rw [hB', Int.natCast_add]; exact wrap_u64 (by omega) (by omega)
      have HA' := Lib.hid hA'
      have HB' := Lib.hid hB'
      clear g body hA' hB'
      by_cases big : 4294967296 ≤ a
      · have gd := HBD.out (.inl big)
        have GD := Lib.hid gd
        have d1 : decide ((4294967296 : Int) ≤ (a : Int)) = true := decide_eq_true (by omega)
        have s2 : IntKind.u64.wrap ((a : Int) - 1) = (A' : Int) := by have := HA'.out; rw [wrap_u64 (by omega) (by omega)]; omega
        clear big gd
        by_cases far : 4294967296 ≤ B'
        · have d2 : decide ((4294967296 : Int) ≤ (B' : Int)) = true := decide_eq_true (by omega)
          have EE := Lib.hid (gs_far EQ.out BY.out.2.2.2 BY.out.1 GD.out.2 (by have := HA.out; have := HA'.out; omega) far)
          clear far hb ha by1 by0
          go_wp2_with fail
          go_meet
          exact ⟨congrArg (fun n : Nat => Value.int .u64 (n : Int)) (EE.out.trans QD1.out.symm), rfl⟩
        · have d2 : decide ((4294967296 : Int) ≤ (B' : Int)) = false := decide_eq_false (by omega)
          have FR := Lib.hid far
          clear far hb ha by1 by0
          go_wp2_with fail
          go_roundw
          case rel => exact ⟨by first | rfl | trivial, A', B', rfl, rfl, GD.out.2, by have := HA.out; have := HA'.out; omega, by have := FR.out; omega⟩
          case measure => simp [intOf]; have := GD.out.1; have := HA'.out; omega
      · have d1 : decide ((4294967296 : Int) ≤ (a : Int)) = false := decide_eq_false (by omega)
        obtain ⟨P, hP⟩ : ∃ P, P = a * y0 := ⟨_, rfl⟩
        obtain ⟨T1, hT1⟩ : ∃ T, T = b * 4294967296 := ⟨_, rfl⟩
        obtain ⟨T2, hT2⟩ : ∃ T, T = T1 + u1 := ⟨_, rfl⟩
        have hp2 : P ≤ 4294967295 * 4294967295 := by rw [hP]; exact Nat.mul_le_mul (by omega) (by omega)
        have m1 : IntKind.u64.wrap ((a : Int) * (y0 : Int)) = (P : Int) := by
          rw [← Int.natCast_mul, ← hP]
          exact wrap_u64 (by omega) (by omega)
        have m2 : IntKind.u64.wrap (4294967296 * (b : Int)) = (T1 : Int) := by
          have e : (4294967296 : Int) * (b : Int) = (T1 : Int) := by rw [hT1]; omega
          rw [e]
          exact wrap_u64 (by omega) (by omega)
        have m3 : IntKind.u64.wrap ((T1 : Int) + (u1 : Int)) = (T2 : Int) := by
          have hc := BC1.out
          rw [hT2, Int.natCast_add]
          exact wrap_u64 (by omega) (by omega)
        have TT := Lib.hid (show T2 = b * 4294967296 + u1 ∧ P = a * y0 from ⟨by rw [hT2, hT1], hP⟩)
        clear big hp2 hP hT1 hT2
        by_cases more : T2 < P
        · have gd := HBD.out (.inr (by rw [← TT.out.1, ← TT.out.2]; exact more))
          have GD := Lib.hid gd
          have d3 : decide ((T2 : Int) < (P : Int)) = true := decide_eq_true (by omega)
          have d3n : decide (T2 < P) = true := decide_eq_true more
          have s2 : IntKind.u64.wrap ((a : Int) - 1) = (A' : Int) := by have := gd.1; have := HA'.out; rw [wrap_u64 (by omega) (by omega)]; omega
          clear more gd
          by_cases far : 4294967296 ≤ B'
          · have d2 : decide ((4294967296 : Int) ≤ (B' : Int)) = true := decide_eq_true (by omega)
            have EE := Lib.hid (gs_far EQ.out BY.out.2.2.2 BY.out.1 GD.out.2 (by have := HA.out; have := HA'.out; omega) far)
            clear far hb ha by1 by0
            go_wp2_with fail
            go_meet
            exact ⟨congrArg (fun n : Nat => Value.int .u64 (n : Int)) (EE.out.trans QD1.out.symm), rfl⟩
          · have d2 : decide ((4294967296 : Int) ≤ (B' : Int)) = false := decide_eq_false (by omega)
            have FR := Lib.hid far
            clear far hb ha by1 by0
            go_wp2_with fail
            go_roundw
            case rel => exact ⟨by first | rfl | trivial, A', B', rfl, rfl, GD.out.2, by have := HA.out; have := HA'.out; omega, by have := FR.out; omega⟩
            case measure => simp [intOf]; have := GD.out.1; have := HA'.out; omega
        · have EE := Lib.hid (gs_end EQ.out BY.out.2.2.2 GG.out (by rw [← TT.out.1, ← TT.out.2]; omega))
          have d3 : decide ((T2 : Int) < (P : Int)) = false := decide_eq_false (by omega)
          have d3n : decide (T2 < P) = false := decide_eq_false more
          clear more hb ha by1 by0 s1
          go_wp2_with fail
          go_meet
          exact ⟨congrArg (fun n : Nat => Value.int .u64 (n : Int)) (EE.out.trans QD1.out.symm), rfl⟩
  case rest =>
  obtain ⟨rfl, hw⟩ := hcut
  have hw := hw.symm
  subst hw
  go_upto_block 2 with fail
  go_cut [18] from 102 to 120 (fun v wx => v = Value.int .u64 (Q2 : Nat) ∧ wx = w)
  case first =>
    go_wp2_with fail
    go_loopw [18, 16] (fun v u wr => wr = w ∧ ∃ (a b : Nat), v = .int .u64 (a : Nat) ∧ u = .int .u64 (b : Nat) ∧ Gs R1 u0 Y y1 a b ∧ a ≤ 4294967297 ∧ b < 4294967296) (fun v _ _ => (intOf v).toNat)
    case atStart => exact ⟨rfl, qa2, ra2, rfl, rfl, G2.out.1, G2.out.2.1, Nat.lt_trans G2.out.2.2 BY.out.2.1⟩
    case round =>
      obtain ⟨hw, a, b, rfl, rfl, g, ha, hb⟩ := hrel
      subst hw
      have GG := Lib.hid g
      have HB := Lib.hid hb
      have HA := Lib.hid ha
      have by1 := BY.out.2.1
      have by0 := BY.out.1
      obtain ⟨A', hA'⟩ : ∃ A', A' = a - 1 := ⟨_, rfl⟩
      obtain ⟨B', hB'⟩ : ∃ B', B' = b + y1 := ⟨_, rfl⟩
      have body : 4294967296 ≤ a ∨ b * 4294967296 + u0 < a * y0 → 1 ≤ a ∧ Gs R1 u0 Y y1 A' B' := fun h => by rw [hA', hB']; exact gs_dec EQ.out BC2.out BA2.out g h
      have HBD := Lib.hid body
      have s1 : IntKind.u64.wrap ((b : Int) + (y1 : Int)) = (B' : Int) := by rw [hB', Int.natCast_add]; exact wrap_u64 (by omega) (by omega)
      have HA' := Lib.hid hA'
      have HB' := Lib.hid hB'
      clear g body hA' hB'
      by_cases big : 4294967296 ≤ a
      · have gd := HBD.out (.inl big)
        have GD := Lib.hid gd
        have d1 : decide ((4294967296 : Int) ≤ (a : Int)) = true := decide_eq_true (by omega)
        have s2 : IntKind.u64.wrap ((a : Int) - 1) = (A' : Int) := by have := HA'.out; rw [wrap_u64 (by omega) (by omega)]; omega
        clear big gd
        by_cases far : 4294967296 ≤ B'
        · have d2 : decide ((4294967296 : Int) ≤ (B' : Int)) = true := decide_eq_true (by omega)
          have EE := Lib.hid (gs_far EQ.out BY.out.2.2.2 BY.out.1 GD.out.2 (by have := HA.out; have := HA'.out; omega) far)
          clear far hb ha by1 by0
          go_wp2_with fail
          go_meet
          exact ⟨congrArg (fun n : Nat => Value.int .u64 (n : Int)) (EE.out.trans QD2.out.symm), rfl⟩
        · have d2 : decide ((4294967296 : Int) ≤ (B' : Int)) = false := decide_eq_false (by omega)
          have FR := Lib.hid far
          clear far hb ha by1 by0
          go_wp2_with fail
          go_roundw
          case rel => exact ⟨by first | rfl | trivial, A', B', rfl, rfl, GD.out.2, by have := HA.out; have := HA'.out; omega, by have := FR.out; omega⟩
          case measure => simp [intOf]; have := GD.out.1; have := HA'.out; omega
      · have d1 : decide ((4294967296 : Int) ≤ (a : Int)) = false := decide_eq_false (by omega)
        obtain ⟨P, hP⟩ : ∃ P, P = a * y0 := ⟨_, rfl⟩
        obtain ⟨T1, hT1⟩ : ∃ T, T = b * 4294967296 := ⟨_, rfl⟩
        obtain ⟨T2, hT2⟩ : ∃ T, T = T1 + u0 := ⟨_, rfl⟩
        have hp2 : P ≤ 4294967295 * 4294967295 := by rw [hP]; exact Nat.mul_le_mul (by omega) (by omega)
        have m1 : IntKind.u64.wrap ((a : Int) * (y0 : Int)) = (P : Int) := by
          rw [← Int.natCast_mul, ← hP]
          exact wrap_u64 (by omega) (by omega)
        have m2 : IntKind.u64.wrap (4294967296 * (b : Int)) = (T1 : Int) := by
          have e : (4294967296 : Int) * (b : Int) = (T1 : Int) := by rw [hT1]; omega
          rw [e]
          exact wrap_u64 (by omega) (by omega)
        have m3 : IntKind.u64.wrap ((T1 : Int) + (u0 : Int)) = (T2 : Int) := by
          have hc := BC2.out
          rw [hT2, Int.natCast_add]
          exact wrap_u64 (by omega) (by omega)
        have TT := Lib.hid (show T2 = b * 4294967296 + u0 ∧ P = a * y0 from ⟨by rw [hT2, hT1], hP⟩)
        clear big hp2 hP hT1 hT2
        by_cases more : T2 < P
        · have gd := HBD.out (.inr (by rw [← TT.out.1, ← TT.out.2]; exact more))
          have GD := Lib.hid gd
          have d3 : decide ((T2 : Int) < (P : Int)) = true := decide_eq_true (by omega)
          have d3n : decide (T2 < P) = true := decide_eq_true more
          have s2 : IntKind.u64.wrap ((a : Int) - 1) = (A' : Int) := by have := gd.1; have := HA'.out; rw [wrap_u64 (by omega) (by omega)]; omega
          clear more gd
          by_cases far : 4294967296 ≤ B'
          · have d2 : decide ((4294967296 : Int) ≤ (B' : Int)) = true := decide_eq_true (by omega)
            have EE := Lib.hid (gs_far EQ.out BY.out.2.2.2 BY.out.1 GD.out.2 (by have := HA.out; have := HA'.out; omega) far)
            clear far hb ha by1 by0
            go_wp2_with fail
            go_meet
            exact ⟨congrArg (fun n : Nat => Value.int .u64 (n : Int)) (EE.out.trans QD2.out.symm), rfl⟩
          · have d2 : decide ((4294967296 : Int) ≤ (B' : Int)) = false := decide_eq_false (by omega)
            have FR := Lib.hid far
            clear far hb ha by1 by0
            go_wp2_with fail
            go_roundw
            case rel => exact ⟨by first | rfl | trivial, A', B', rfl, rfl, GD.out.2, by have := HA.out; have := HA'.out; omega, by have := FR.out; omega⟩
            case measure => simp [intOf]; have := GD.out.1; have := HA'.out; omega
        · have EE := Lib.hid (gs_end EQ.out BY.out.2.2.2 GG.out (by rw [← TT.out.1, ← TT.out.2]; omega))
          have d3 : decide ((T2 : Int) < (P : Int)) = false := decide_eq_false (by omega)
          have d3n : decide (T2 < P) = false := decide_eq_false more
          clear more hb ha by1 by0 s1
          go_wp2_with fail
          go_meet
          exact ⟨congrArg (fun n : Nat => Value.int .u64 (n : Int)) (EE.out.trans QD2.out.symm), rfl⟩
  case rest =>
  obtain ⟨rfl, hw⟩ := hcut
  have hw := hw.symm
  subst hw
  go_wp2_with fail
  go_ret2
  exact ⟨rfl, Below.refl _ _⟩

end Go.Proofs.Ytfcejgeckcoefaa
