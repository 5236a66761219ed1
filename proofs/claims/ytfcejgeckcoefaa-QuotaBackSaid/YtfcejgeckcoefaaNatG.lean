/- takes, back, Len32, LeadingZeros32. No condition. -/
import Derived.Test.YtfcejgeckcoefaaNatF
import Derived.Lib.BitFns
import Derived.Lib.ItoaNum
namespace Go.Proofs.Ytfcejgeckcoefaa
open Go.RowKit Go.Suf
set_option linter.unusedVariables false
set_option linter.unusedSimpArgs false

theorem small_mod (a : Nat) : a % 4294967296 < 4294967296 := Nat.mod_lt _ (by decide)

theorem neq_zero (b : Nat) : Ending.returned (.bool ((b : Int) != 0)) = .returned (.bool (b != 0)) := by
  congr 2
  rw [Bool.eq_iff_iff]
  simp

set_option maxHeartbeats 1000000 in
theorem takes_any (w : World) {g off m c0 : Nat} {zs : List Nat} (hZ : Blk .u32 56 w g zs) (hlen : zs.length ≤ 100000) {a : Option Addr} {n cap : Nat} {ys : List Nat} (h : Rd .u32 w a n cap ys) (hg : 0 < n → ∀ p, a = some p → p.block ≠ g) (hnm : n < m) (hm : off + n < zs.length) (q : Nat) (hq : q < 4294967296) :
    Calls Try.prog 99 #[.slice (some ⟨g, off, none⟩) m c0, .slice a n cap, .int .u64 (q : Nat)] w fun e w' => ∃ b, b ≤ 1 ∧ e = .returned (.bool (b != 0)) ∧ ∃ zs', zs'.length = zs.length ∧ Blk .u32 56 w' g zs' ∧ val zs' + pw off * (q * val ys) = val zs + pw (off + n + 1) * b ∧ zs'.drop (off + n + 1) = zs.drop (off + n + 1) ∧ w.grownBy w' (some g) := by
  have HL := Lib.hid h.len
  have HM := Lib.hid hm
  have hm1 : off + n ≤ 100000 := by omega
  clear hm hlen
  go_enter Try.func99, Try.ntmps99
  go_wp2_with fail
  go_loopw [7, 8, 13] (fun v b i wr => ∃ k c bb out, k ≤ n ∧ i = .int .i64 (k : Nat) ∧ v = .int .u64 (c : Nat) ∧ c < 4294967296 ∧ b = .int .u32 (bb : Nat) ∧ bb ≤ 1 ∧ Hid (Tak zs ys out off q k c bb) ∧ Blk .u32 56 wr g out ∧ w.grownBy wr (some g)) (fun _ _ i _ => n - (intOf i).toNat)
  case atStart => exact ⟨0, 0, 0, zs, Nat.zero_le _, rfl, rfl, by decide, rfl, by decide, Lib.hid (Tak.start hZ.bd), hZ, World.grownBy.refl _ _⟩
  case round =>
    obtain ⟨k, c, bb, out, hk, rfl, rfl, hc, rfl, hbb, hS, hB, hgr⟩ := hrel
    have hrd := h.other hgr hg
    by_cases hlt : k < n
    · obtain ⟨p, o', rfl, hcx, _⟩ := hrd.cell k hlt
      have hlen := hS.out.len
      have hcell := hB.cell (off + k) (by have := HM.out; omega)
      have hfree := hB.free (off + k)
      have hsm : small32 ys := h.bd
      have b1 := small32_nth hsm k
      have b2 := small32_nth hS.out.small (off + k)
      have b3 := mul_lt_sq hq b1
      have HS := Lib.hid (hS.out.step hsm hq (by have := HM.out; omega : off + k < zs.length))
      have hv := Lib.hid (show ((c : Int) + (q : Int) * (nth ys k : Int)) % 4294967296 = (((c + q * nth ys k) % 4294967296 : Nat) : Int) by omega)
      have hw := Lib.hid (show ((c : Int) + (q : Int) * (nth ys k : Int)) / 4294967296 = (((c + q * nth ys k) / 4294967296 : Nat) : Int) by omega)
      have hb2 := Lib.hid (subB_le (nth out (off + k)) ((c + q * nth ys k) % 4294967296) bb)
      have HBn := Lib.hid (hB.set (off + k) (subL (nth out (off + k)) ((c + q * nth ys k) % 4294967296) bb) (subL_lt _ _ _))
      have hg2 := Lib.hid (grownBy_trans hgr (grownBy_set wr ⟨g, off + k, none⟩ (.int .u32 ((subL (nth out (off + k)) ((c + q * nth ys k) % 4294967296) bb : Nat) : Int))))
      clear hlen hsm
      go_wp2_with fail
      rw [hv.out]
      refine (Sub32_any _ _ _ _ b2 (small_mod _) hbb).mono ?_
      rintro e w1 ⟨rfl, rfl⟩
      go_wp2_with fail
      go_roundw
      case rel => exact ⟨k + 1, _, _, _, by omega, by go_num, by rw [hw.out], HS.out.lt, rfl, hb2.out, HS, HBn.out, hg2.out⟩
      case measure => simp [intOf]; omega
    · obtain rfl : k = n := by omega
      have hlen := hS.out.len
      have hcell := hB.cell (off + k) (by have := HM.out; omega)
      have hfree := hB.free (off + k)
      have hS2 := hS.out
      have hk2 := HL.out
      subst hk2
      have b2 := small32_nth hS2.small (off + ys.length)
      have hd := Lib.hid (hS2.done (by have := HM.out; omega))
      have hdr := Lib.hid (show (out.set (off + ys.length) (subL (nth out (off + ys.length)) c bb)).drop (off + ys.length + 1) = zs.drop (off + ys.length + 1) by
        rw [set_drop_gt _ (by omega)]
        have := congrArg (List.drop 1) hS2.rest
        simpa using this)
      have HBn := Lib.hid (hB.set (off + ys.length) (subL (nth out (off + ys.length)) c bb) (subL_lt _ _ _))
      have hg2 := Lib.hid (grownBy_trans hgr (grownBy_set wr ⟨g, off + ys.length, none⟩ (.int .u32 ((subL (nth out (off + ys.length)) c bb : Nat) : Int))))
      have hb2 := Lib.hid (subB_le (nth out (off + ys.length)) c bb)
      have HLn := Lib.hid hlen
      clear hlen hS2
      go_wp2_with fail
      refine (Sub32_any _ _ _ _ b2 hc hbb).mono ?_
      rintro e w1 ⟨rfl, rfl⟩
      go_wp2_with fail
      go_ret
      exact ⟨subB (nth out (off + ys.length)) c bb, hb2.out, neq_zero _, _, by have := HLn.out; simp [this], HBn.out, hd.out, hdr.out, hg2.out⟩

/-- The block g is written: b times the limb above what was taken is missing. -/
def BackTo (w : World) (g off n : Nat) (zs ys : List Nat) : Ending → World → Prop := fun e w' =>
  e = .returned (.tuple #[]) ∧ ∃ zs' b, zs'.length = zs.length ∧ Blk .u32 56 w' g zs' ∧ val zs' + pw (off + n + 1) * b = val zs + pw off * val ys ∧ zs'.drop (off + n + 1) = zs.drop (off + n + 1) ∧ w.grownBy w' (some g)

def TakesTo (w : World) (g off n q : Nat) (zs ys : List Nat) : Ending → World → Prop := fun e w' =>
  ∃ b, b ≤ 1 ∧ e = .returned (.bool (b != 0)) ∧ ∃ zs', zs'.length = zs.length ∧ Blk .u32 56 w' g zs' ∧ val zs' + pw off * (q * val ys) = val zs + pw (off + n + 1) * b ∧ zs'.drop (off + n + 1) = zs.drop (off + n + 1) ∧ w.grownBy w' (some g)

set_option maxHeartbeats 1000000 in
theorem back_any (w : World) {g off m c0 : Nat} {zs : List Nat} (hZ : Blk .u32 56 w g zs) (hlen : zs.length ≤ 100000) {a : Option Addr} {n cap : Nat} {ys : List Nat} (h : Rd .u32 w a n cap ys) (hg : 0 < n → ∀ p, a = some p → p.block ≠ g) (hnm : n < m) (hm : off + n < zs.length) :
    Calls Try.prog 100 #[.slice (some ⟨g, off, none⟩) m c0, .slice a n cap] w (BackTo w g off n zs ys) := by
  have HL := Lib.hid h.len
  have HM := Lib.hid hm
  have hm1 : off + n ≤ 100000 := by omega
  clear hm hlen
  go_enter Try.func100, Try.ntmps100
  go_wp2_with fail
  go_loopw [4, 9] (fun v i wr => ∃ k c out, k ≤ n ∧ i = .int .i64 (k : Nat) ∧ v = .int .u32 (c : Nat) ∧ c ≤ 1 ∧ Hid (Bak zs ys out off k c) ∧ Blk .u32 56 wr g out ∧ w.grownBy wr (some g)) (fun _ i _ => n - (intOf i).toNat)
  case atStart => exact ⟨0, 0, zs, Nat.zero_le _, rfl, rfl, by decide, Lib.hid (Bak.start hZ.bd), hZ, World.grownBy.refl _ _⟩
  case round =>
    obtain ⟨k, c, out, hk, rfl, rfl, hc, hS, hB, hgr⟩ := hrel
    have hrd := h.other hgr hg
    by_cases hlt : k < n
    · obtain ⟨p, o', rfl, hcx, _⟩ := hrd.cell k hlt
      have hlen := hS.out.len
      have hcell := hB.cell (off + k) (by have := HM.out; omega)
      have hfree := hB.free (off + k)
      have hsm : small32 ys := h.bd
      have b1 := small32_nth hsm k
      have b2 := small32_nth hS.out.small (off + k)
      have HS := Lib.hid (hS.out.step hsm (by have := HM.out; omega : off + k < zs.length))
      have HBn := Lib.hid (hB.set (off + k) ((nth out (off + k) + nth ys k + c) % 4294967296) (Nat.mod_lt _ (by decide)))
      have hg2 := Lib.hid (grownBy_trans hgr (grownBy_set wr ⟨g, off + k, none⟩ (.int .u32 (((nth out (off + k) + nth ys k + c) % 4294967296 : Nat) : Int))))
      clear hlen hsm
      go_wp2_with fail
      refine (Add32_any _ _ _ _ b2 b1 hc).mono ?_
      rintro e w1 ⟨rfl, rfl⟩
      go_wp2_with fail
      go_roundw
      case rel => exact ⟨k + 1, _, _, by omega, by go_num, rfl, HS.out.le, HS, HBn.out, hg2.out⟩
      case measure => simp [intOf]; omega
    · obtain rfl : k = n := by omega
      have hlen := hS.out.len
      have hcell := hB.cell (off + k) (by have := HM.out; omega)
      have hfree := hB.free (off + k)
      have hS2 := hS.out
      have hk2 := HL.out
      subst hk2
      have b2 := small32_nth hS2.small (off + ys.length)
      have hd := Lib.hid (hS2.done (by have := HM.out; omega))
      have hdr := Lib.hid (show (out.set (off + ys.length) ((nth out (off + ys.length) + c) % 4294967296)).drop (off + ys.length + 1) = zs.drop (off + ys.length + 1) by
        rw [set_drop_gt _ (by omega)]
        have := congrArg (List.drop 1) hS2.rest
        simpa using this)
      have hv : ((nth out (off + ys.length) : Int) + (c : Int)) % 4294967296 = (((nth out (off + ys.length) + c) % 4294967296 : Nat) : Int) := by omega
      have HBn : Hid (Blk .u32 56 (wr.setCell ⟨g, off + ys.length, none⟩ (.int .u32 (((nth out (off + ys.length) : Int) + (c : Int)) % 4294967296))) g (out.set (off + ys.length) ((nth out (off + ys.length) + c) % 4294967296))) := by
        rw [hv]
        exact Lib.hid (hB.set (off + ys.length) _ (Nat.mod_lt _ (by decide)))
      have hg2 := Lib.hid (grownBy_trans hgr (grownBy_set wr ⟨g, off + ys.length, none⟩ (.int .u32 (((nth out (off + ys.length) : Int) + (c : Int)) % 4294967296))))
      have HLn := Lib.hid hlen
      clear hlen hS2 hv
      go_wp2_with fail
      go_end0
      exact ⟨rfl, out.set (off + ys.length) ((nth out (off + ys.length) + c) % 4294967296), (nth out (off + ys.length) + c) / 4294967296, by have := HLn.out; simp [this], HBn.out, hd.out, hdr.out, hg2.out⟩

set_option maxHeartbeats 4000000 in
set_option maxRecDepth 100000 in
theorem Len32_any (w : World) (x : Int) (h0 : 0 ≤ x) (h1 : x ≤ 4294967295) :
    Calls Try.prog 101 #[.int .u32 x] w fun e w' => e = .returned (.int .i64 (Lib.bitLen x.toNat)) ∧ w = w' := by
  have hsz : Lib.len8tab.size = 256 := Lib.len8tab_size
  go_enter Try.func101, Try.ntmps101
  go_wp2
  all_goals go_ret
  all_goals
    refine ⟨?_, rfl⟩
    have T : ∀ (i : Nat) (h : i < Lib.len8tab.size), (Lib.len8tab[i]'h).toNat = Lib.bitLen i := by
      intro i h
      have e := Lib.len8_of (i : Int) (by omega) (by omega)
      simp only [Lib.len8, Int.toNat_natCast, ByteArray.getElem?_lt' _ _ h, Option.getD_some] at e
      omega
    refine congrArg Ending.returned (congrArg (Value.int IntKind.i64) ?_)
  · show wrap64 (24 + wrap64 ((Lib.len8tab[(x / 65536 / 256).toNat]'_).toNat : Int)) = _
    rw [T]
    have e : (x / 65536 / 256).toNat = x.toNat / 16777216 := by omega
    have l : Lib.bitLen (x.toNat / 16777216) ≤ 8 := Lib.bitLen_le8 ⟨x.toNat / 16777216, by omega⟩
    have s := Lib.bitLen_shift24 x.toNat (by omega) (by omega)
    rw [e]
    clear e T
    generalize Lib.bitLen (x.toNat / 16777216) = p at l s ⊢
    generalize Lib.bitLen x.toNat = q at s ⊢
    simp only [wrap64]
    omega
  · show wrap64 (16 + wrap64 ((Lib.len8tab[(x / 65536).toNat]'_).toNat : Int)) = _
    rw [T]
    have e : (x / 65536).toNat = x.toNat / 65536 := by omega
    have l : Lib.bitLen (x.toNat / 65536) ≤ 8 := Lib.bitLen_le8 ⟨x.toNat / 65536, by omega⟩
    have s := Lib.bitLen_shift16 x.toNat (by omega) (by omega)
    rw [e]
    clear e T
    generalize Lib.bitLen (x.toNat / 65536) = p at l s ⊢
    generalize Lib.bitLen x.toNat = q at s ⊢
    simp only [wrap64]
    omega
  · show wrap64 (8 + wrap64 ((Lib.len8tab[(x / 256).toNat]'_).toNat : Int)) = _
    rw [T]
    have e : (x / 256).toNat = x.toNat / 256 := by omega
    have l : Lib.bitLen (x.toNat / 256) ≤ 8 := Lib.bitLen_le8 ⟨x.toNat / 256, by omega⟩
    have s := Lib.bitLen_shift8 x.toNat (by omega) (by omega)
    rw [e]
    clear e T
    generalize Lib.bitLen (x.toNat / 256) = p at l s ⊢
    generalize Lib.bitLen x.toNat = q at s ⊢
    simp only [wrap64]
    omega
  · show wrap64 (wrap64 ((Lib.len8tab[x.toNat]'_).toNat : Int)) = _
    rw [T]
    have l : Lib.bitLen x.toNat ≤ 8 := Lib.bitLen_le8 ⟨x.toNat, by omega⟩
    generalize Lib.bitLen x.toNat = q at l ⊢
    clear T
    simp only [wrap64]
    omega

/-- How far a number of 32 bits is shifted until its first bit is set. -/
theorem LeadingZeros32_any (w : World) (x : Nat) (h0 : 0 < x) (h1 : x < 4294967296) :
    Calls Try.prog 96 #[.int .u32 (x : Nat)] w fun e w' => ∃ r : Nat, r ≤ 31 ∧ e = .returned (.int .i64 (r : Nat)) ∧ 2147483648 ≤ x * 2 ^ r ∧ x * 2 ^ r < 4294967296 ∧ w = w' := by
  obtain ⟨b1, b2, b3⟩ := Lib.bitLenAux_bounds 64 x (by omega) (by omega)
  have b4 := Lib.bitLen_le x 32 (by omega) h1
  have hb : Lib.bitLenAux 64 x = Lib.bitLen x := rfl
  rw [hb] at b1 b2 b3
  have e2 : ((x : Int).toNat) = x := by omega
  have HC := fun w => Len32_any w (x : Int) (by omega) (by omega)
  rw [e2] at HC
  generalize Lib.bitLen x = l at b1 b2 b3 b4 HC
  have p : 2 ^ (l - 1) * 2 ^ (32 - l) = 2147483648 := by rw [← Nat.pow_add, show l - 1 + (32 - l) = 31 by omega]
  have q : 2 ^ l * 2 ^ (32 - l) = 4294967296 := by rw [← Nat.pow_add, show l + (32 - l) = 32 by omega]
  have c1 := Nat.mul_le_mul_right (2 ^ (32 - l)) b2
  have c2 := Nat.mul_lt_mul_of_pos_right b3 (show 0 < 2 ^ (32 - l) from Nat.pow_pos (by decide))
  rw [p] at c1
  rw [q] at c2
  have C1 := Lib.hid c1
  have C2 := Lib.hid c2
  clear b2 b3 p q c1 c2 hb e2
  go_enter Try.func96, Try.ntmps96
  go_wp2_with fail
  refine (HC _).mono ?_
  rintro e w1 ⟨rfl, rfl⟩
  clear HC
  go_wp2_with fail
  go_ret
  refine ⟨32 - l, by omega, ?_, C1.out, C2.out, rfl⟩
  rw [show ((32 - l : Nat) : Int) = 32 - (l : Int) by omega]
  rfl

end Go.Proofs.Ytfcejgeckcoefaa
