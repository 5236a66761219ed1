/- math/bits: Mul64, Len64, LeadingZeros64. No condition. Printed by gen_quoa.py. -/
import Derived.Test.YtfcejgeckcoefaaRatN
import Derived.Test.YtfcejgeckcoefaaRatM
import Derived.Test.YtfcejgeckcoefaaRatL
import Derived.Test.YtfcejgeckcoefaaQuoPlain
namespace Go.Proofs.Ytfcejgeckcoefaa
open Go.RowKit Go.Suf
set_option linter.unusedVariables false
set_option linter.unusedSimpArgs false

set_option maxRecDepth 100000 in
set_option maxHeartbeats 2000000 in
theorem Mul64_any (w : World) (x y : Nat) (hx : x < 18446744073709551616) (hy : y < 18446744073709551616) :
    Calls Try.prog 67 #[.int .u64 (x : Nat), .int .u64 (y : Nat)] w fun e w' => e = .returned (.tuple #[.int .u64 ((x * y / 18446744073709551616 : Nat) : Int), .int .u64 ((x * y % 18446744073709551616 : Nat) : Int)]) ∧ w = w' := by
  obtain ⟨m1, m2, m3, m4⟩ := Lib.mul64_hi x y hx hy
  obtain ⟨hi, hhi⟩ : ∃ hi, hi = x * y / 18446744073709551616 := ⟨_, rfl⟩
  obtain ⟨lo, hlo⟩ : ∃ lo, lo = x * y % 18446744073709551616 := ⟨_, rfl⟩
  rw [← hhi] at m4
  rw [← hhi, ← hlo]
  have hib : hi < 18446744073709551616 := by rw [hhi, Nat.div_lt_iff_lt_mul (by decide)]; exact Nat.mul_lt_mul'' hx hy
  have lob : lo < 18446744073709551616 := by rw [hlo]; exact Nat.mod_lt _ (by decide)
  have cl : IntKind.u64.wrap ((x : Int) * (y : Int)) = (lo : Int) := by
    rw [hlo]
    simp only [IntKind.wrap, IntKind.bits, IntKind.signed]
    simp
  have a1 := andK32 hx
  have a2 := andK32 hy
  have d1 : (x : Int) / 4294967296 = ((x / 4294967296 : Nat) : Int) := by omega
  have d2 : (y : Int) / 4294967296 = ((y / 4294967296 : Nat) : Int) := by omega
  have bx1 : x / 4294967296 < 4294967296 := by omega
  have by1 : y / 4294967296 < 4294967296 := by omega
  have bx0 : x % 4294967296 < 4294967296 := Nat.mod_lt _ (by decide)
  have by0 : y % 4294967296 < 4294967296 := Nat.mod_lt _ (by decide)
  clear hhi hlo
  generalize x / 4294967296 = x1 at *
  generalize y / 4294967296 = y1 at *
  generalize x % 4294967296 = x0 at *
  generalize y % 4294967296 = y0 at *
  have p1 : IntKind.u64.wrap ((x0 : Int) * (y0 : Int)) = ((x0 * y0 : Nat) : Int) := by rw [← Int.natCast_mul]; exact wrap_u64 (by omega) (by omega)
  have h10 := Lib.half_mul_le (a := x1) (b := y0) (by omega) (by omega)
  have h01 := Lib.half_mul_le (a := x0) (b := y1) (by omega) (by omega)
  have h11 := Lib.half_mul_le (a := x1) (b := y1) (by omega) (by omega)
  have p2 : IntKind.u64.wrap ((x1 : Int) * (y0 : Int)) = ((x1 * y0 : Nat) : Int) := by rw [← Int.natCast_mul]; exact wrap_u64 (by omega) (by omega)
  have p3 : IntKind.u64.wrap ((x0 : Int) * (y1 : Int)) = ((x0 * y1 : Nat) : Int) := by rw [← Int.natCast_mul]; exact wrap_u64 (by omega) (by omega)
  have p4 : IntKind.u64.wrap ((x1 : Int) * (y1 : Int)) = ((x1 * y1 : Nat) : Int) := by rw [← Int.natCast_mul]; exact wrap_u64 (by omega) (by omega)
  generalize x0 * y0 = a at *
  generalize x1 * y0 = b at *
  generalize x0 * y1 = c at *
  generalize x1 * y1 = d at *
  have q1 : (a : Int) / 4294967296 = ((a / 4294967296 : Nat) : Int) := by omega
  obtain ⟨a', ha'⟩ : ∃ a', a' = a / 4294967296 := ⟨_, rfl⟩
  rw [← ha'] at m2 m3 m4 q1
  have q2 : IntKind.u64.wrap ((b : Int) + (a' : Int)) = ((b + a' : Nat) : Int) := by rw [Int.natCast_add]; exact wrap_u64 (by omega) (by omega)
  obtain ⟨t, ht⟩ : ∃ t, t = b + a' := ⟨_, rfl⟩
  rw [← ht] at m2 m3 m4 q2
  have q3 := andK32 m2
  have q4 : (t : Int) / 4294967296 = ((t / 4294967296 : Nat) : Int) := by omega
  obtain ⟨t0, ht0⟩ : ∃ t0, t0 = t % 4294967296 := ⟨_, rfl⟩
  obtain ⟨t1, ht1⟩ : ∃ t1, t1 = t / 4294967296 := ⟨_, rfl⟩
  rw [← ht0] at m3 m4 q3
  rw [← ht1] at m4 q4
  have q5 : IntKind.u64.wrap ((t0 : Int) + (c : Int)) = ((t0 + c : Nat) : Int) := by rw [Int.natCast_add]; exact wrap_u64 (by omega) (by omega)
  obtain ⟨v, hv⟩ : ∃ v, v = t0 + c := ⟨_, rfl⟩
  rw [← hv] at m3 m4 q5
  have q6 : (v : Int) / 4294967296 = ((v / 4294967296 : Nat) : Int) := by omega
  obtain ⟨v1, hv1⟩ : ∃ v1, v1 = v / 4294967296 := ⟨_, rfl⟩
  rw [← hv1] at m4 q6
  have q7 : IntKind.u64.wrap ((d : Int) + (t1 : Int)) = ((d + t1 : Nat) : Int) := by rw [Int.natCast_add]; exact wrap_u64 (by omega) (by omega)
  obtain ⟨z, hz⟩ : ∃ z, z = d + t1 := ⟨_, rfl⟩
  rw [← hz] at m4 q7
  have q8 : IntKind.u64.wrap ((z : Int) + (v1 : Int)) = (hi : Int) := by
    rw [← m4, Int.natCast_add]
    exact wrap_u64 (by omega) (by omega)
  clear m1 m2 m3 m4 ha' ht ht0 ht1 hv hv1 hz bx0 bx1 by0 by1 h10 h01 h11 hib lob hx hy
  go_enter Try.func67, Try.ntmps67
  go_wp2
  go_ret2
  exact ⟨rfl, rfl⟩

set_option maxHeartbeats 8000000 in
set_option maxRecDepth 100000 in
theorem Len64_any (w : World) (x : Int) (h0 : 0 ≤ x) (h1 : x ≤ 18446744073709551615) :
    Calls Try.prog 92 #[.int .u64 x] w fun e w' => e = .returned (.int .i64 (Lib.bitLen x.toNat)) ∧ w = w' := by
  have hsz : Lib.len8tab.size = 256 := Lib.len8tab_size
  go_enter Try.func92, Try.ntmps92
  go_wp2
  all_goals go_ret
  all_goals
    refine ⟨?_, rfl⟩
    have T : ∀ (i : Nat) (h : i < Lib.len8tab.size), (Lib.len8tab[i]'h).toNat = Lib.bitLen i := by
      intro i h
      have e := Lib.len8_of (i : Int) (by omega) (by omega)
      simp only [Lib.len8, Int.toNat_natCast, ByteArray.getElem?_lt' _ _ h, Option.getD_some] at e
      omega
    refine congrArg Ending.returned (congrArg (Value.int IntKind.i64) ?_)
  · show wrap64 (56 + wrap64 ((Lib.len8tab[(x / 4294967296 / 65536 / 256).toNat]'_).toNat : Int)) = _
    rw [T]
    have e : (x / 4294967296 / 65536 / 256).toNat = x.toNat / 72057594037927936 := by omega
    have l : Lib.bitLen (x.toNat / 72057594037927936) ≤ 8 := Lib.bitLen_le8 ⟨x.toNat / 72057594037927936, by omega⟩
    have s := Lib.bitLen_shift56 x.toNat (by omega) (by omega)
    rw [e]
    clear e T
    generalize Lib.bitLen (x.toNat / 72057594037927936) = p at l s ⊢
    generalize Lib.bitLen x.toNat = q at s ⊢
    simp only [wrap64]
    omega
  · show wrap64 (48 + wrap64 ((Lib.len8tab[(x / 4294967296 / 65536).toNat]'_).toNat : Int)) = _
    rw [T]
    have e : (x / 4294967296 / 65536).toNat = x.toNat / 281474976710656 := by omega
    have l : Lib.bitLen (x.toNat / 281474976710656) ≤ 8 := Lib.bitLen_le8 ⟨x.toNat / 281474976710656, by omega⟩
    have s := Lib.bitLen_shift48 x.toNat (by omega) (by omega)
    rw [e]
    clear e T
    generalize Lib.bitLen (x.toNat / 281474976710656) = p at l s ⊢
    generalize Lib.bitLen x.toNat = q at s ⊢
    simp only [wrap64]
    omega
  · show wrap64 (40 + wrap64 ((Lib.len8tab[(x / 4294967296 / 256).toNat]'_).toNat : Int)) = _
    rw [T]
    have e : (x / 4294967296 / 256).toNat = x.toNat / 1099511627776 := by omega
    have l : Lib.bitLen (x.toNat / 1099511627776) ≤ 8 := Lib.bitLen_le8 ⟨x.toNat / 1099511627776, by omega⟩
    have s := Lib.bitLen_shift40 x.toNat (by omega) (by omega)
    rw [e]
    clear e T
    generalize Lib.bitLen (x.toNat / 1099511627776) = p at l s ⊢
    generalize Lib.bitLen x.toNat = q at s ⊢
    simp only [wrap64]
    omega
  · show wrap64 (32 + wrap64 ((Lib.len8tab[(x / 4294967296).toNat]'_).toNat : Int)) = _
    rw [T]
    have e : (x / 4294967296).toNat = x.toNat / 4294967296 := by omega
    have l : Lib.bitLen (x.toNat / 4294967296) ≤ 8 := Lib.bitLen_le8 ⟨x.toNat / 4294967296, by omega⟩
    have s := Lib.bitLen_shift32 x.toNat (by omega) (by omega)
    rw [e]
    clear e T
    generalize Lib.bitLen (x.toNat / 4294967296) = p at l s ⊢
    generalize Lib.bitLen x.toNat = q at s ⊢
    simp only [wrap64]
    omega
  · show wrap64 (24 + wrap64 ((Lib.len8tab[(x / 65536 / 256).toNat]'_).toNat : Int)) = _
    rw [T]
    have e : (x / 65536 / 256).toNat = x.toNat / 16777216 := by omega
    have l : Lib.bitLen (x.toNat / 16777216) ≤ 8 := Lib.bitLen_le8 ⟨x.toNat / 16777216, by omega⟩
    have s := Lib.bitLen_shift24 x.toNat (by omega) (by omega)
    rw [e]
    clear e T
    generalize Lib.bitLen (x.toNat / 16777216) = p at l s ⊢
    generalize Lib.bitLen x.toNat = q at s ⊢
    simp only [wrap64]
    omega
  · show wrap64 (16 + wrap64 ((Lib.len8tab[(x / 65536).toNat]'_).toNat : Int)) = _
    rw [T]
    have e : (x / 65536).toNat = x.toNat / 65536 := by omega
    have l : Lib.bitLen (x.toNat / 65536) ≤ 8 := Lib.bitLen_le8 ⟨x.toNat / 65536, by omega⟩
    have s := Lib.bitLen_shift16 x.toNat (by omega) (by omega)
    rw [e]
    clear e T
    generalize Lib.bitLen (x.toNat / 65536) = p at l s ⊢
    generalize Lib.bitLen x.toNat = q at s ⊢
    simp only [wrap64]
    omega
  · show wrap64 (8 + wrap64 ((Lib.len8tab[(x / 256).toNat]'_).toNat : Int)) = _
    rw [T]
    have e : (x / 256).toNat = x.toNat / 256 := by omega
    have l : Lib.bitLen (x.toNat / 256) ≤ 8 := Lib.bitLen_le8 ⟨x.toNat / 256, by omega⟩
    have s := Lib.bitLen_shift8 x.toNat (by omega) (by omega)
    rw [e]
    clear e T
    generalize Lib.bitLen (x.toNat / 256) = p at l s ⊢
    generalize Lib.bitLen x.toNat = q at s ⊢
    simp only [wrap64]
    omega
  · show wrap64 (wrap64 ((Lib.len8tab[x.toNat]'_).toNat : Int)) = _
    rw [T]
    have l : Lib.bitLen x.toNat ≤ 8 := Lib.bitLen_le8 ⟨x.toNat, by omega⟩
    generalize Lib.bitLen x.toNat = q at l ⊢
    clear T
    simp only [wrap64]
    omega

/-- How far a number of 64 bits is shifted until its first bit is set. -/
theorem LeadingZeros64_any (w : World) (x : Nat) (h0 : 0 < x) (h1 : x < 18446744073709551616) :
    Calls Try.prog 85 #[.int .u64 (x : Nat)] w fun e w' => ∃ r : Nat, r ≤ 63 ∧ e = .returned (.int .i64 (r : Nat)) ∧ 9223372036854775808 ≤ x * 2 ^ r ∧ x * 2 ^ r < 18446744073709551616 ∧ w = w' := by
  obtain ⟨b1, b2, b3⟩ := Lib.bitLenAux_bounds 64 x (by omega) (by omega)
  have b4 := Lib.bitLen_le x 64 (by omega) h1
  have hb : Lib.bitLenAux 64 x = Lib.bitLen x := rfl
  rw [hb] at b1 b2 b3
  have e2 : ((x : Int).toNat) = x := by omega
  have HC := fun w => Len64_any w (x : Int) (by omega) (by omega)
  rw [e2] at HC
  generalize Lib.bitLen x = l at b1 b2 b3 b4 HC
  have p : 2 ^ (l - 1) * 2 ^ (64 - l) = 9223372036854775808 := by rw [← Nat.pow_add, show l - 1 + (64 - l) = 63 by omega]
  have q : 2 ^ l * 2 ^ (64 - l) = 18446744073709551616 := by rw [← Nat.pow_add, show l + (64 - l) = 64 by omega]
  have c1 := Nat.mul_le_mul_right (2 ^ (64 - l)) b2
  have c2 := Nat.mul_lt_mul_of_pos_right b3 (show 0 < 2 ^ (64 - l) from Nat.pow_pos (by decide))
  rw [p] at c1
  rw [q] at c2
  have C1 := Lib.hid c1
  have C2 := Lib.hid c2
  clear b2 b3 p q c1 c2 hb e2
  go_enter Try.func85, Try.ntmps85
  go_wp2_with fail
  refine (HC _).mono ?_
  rintro e w1 ⟨rfl, rfl⟩
  clear HC
  go_wp2_with fail
  go_ret
  refine ⟨64 - l, by omega, ?_, C1.out, C2.out, rfl⟩
  rw [show ((64 - l : Nat) : Int) = 64 - (l : Int) by omega]
  rfl

end Go.Proofs.Ytfcejgeckcoefaa
