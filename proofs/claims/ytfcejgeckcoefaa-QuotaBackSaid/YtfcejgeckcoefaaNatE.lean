/- times, Mul. No condition. -/
import Derived.Test.YtfcejgeckcoefaaNatD
namespace Go.Proofs.Ytfcejgeckcoefaa
open Go.RowKit Go.Suf
set_option linter.unusedVariables false
set_option linter.unusedSimpArgs false

set_option maxHeartbeats 1000000 in
theorem times_any (w : World) {g off m c0 : Nat} {zs : List Nat} (hZ : Blk .u32 56 w g zs) (hm : off + m = zs.length) (hlen : zs.length ≤ 100000) {a : Option Addr} {n cap : Nat} {xs : List Nat} (h : Rd .u32 w a n cap xs) (hg : 0 < n → ∀ p, a = some p → p.block ≠ g) (hnm : n < m) (N : Nat) (hN : N < 4294967296)
    (hfit : val zs + pw off * (val xs * N) < pw (off + n + 1)) :
    Calls Try.prog 90 #[.slice (some ⟨g, off, none⟩) m c0, .slice a n cap, .int .u32 (N : Nat)] w fun e w' => e = .returned (.tuple #[]) ∧ ∃ zs', zs'.length = zs.length ∧ Blk .u32 56 w' g zs' ∧ val zs' = val zs + pw off * (val xs * N) ∧ w.grownBy w' (some g) := by
  have HF := Lib.hid hfit
  have HL := Lib.hid h.len
  have HM := Lib.hid hm
  have hm1 : off + m ≤ 100000 := by omega
  clear hfit hm hlen
  go_enter Try.func90, Try.ntmps90
  go_wp2_with fail
  go_loopw [6, 11] (fun v i wr => ∃ k c out, k ≤ n ∧ i = .int .i64 (k : Nat) ∧ v = .int .u64 (c : Nat) ∧ c < 4294967296 ∧ Hid (Tim zs xs out off N k c) ∧ Blk .u32 56 wr g out ∧ w.grownBy wr (some g)) (fun _ i _ => n - (intOf i).toNat)
  case atStart => exact ⟨0, 0, zs, Nat.zero_le _, rfl, rfl, by decide, Lib.hid (Tim.start hZ.bd), hZ, World.grownBy.refl _ _⟩
  case round =>
    obtain ⟨k, c, out, hk, rfl, rfl, hc, hS, hB, hgr⟩ := hrel
    have hrd := h.other hgr hg
    by_cases hlt : k < n
    · obtain ⟨p, o', rfl, hcx, _⟩ := hrd.cell k hlt
      have hlen := hS.out.len
      have hcell := hB.cell (off + k) (by have := HM.out; omega)
      have hfree := hB.free (off + k)
      have hsm : small32 xs := h.bd
      have b1 := small32_nth hsm k
      have b2 := small32_nth hS.out.small (off + k)
      have b3 := mul_lt_sq b1 hN
      have HS := Lib.hid (hS.out.step hsm hN (by have := HM.out; omega : off + k < zs.length))
      have hv : ((c : Int) + ((nth xs k : Int) * (N : Int) + (nth out (off + k) : Int))) % 4294967296 = (((nth xs k * N + nth out (off + k) + c) % 4294967296 : Nat) : Int) := by omega
      have hw := Lib.hid (show ((c : Int) + ((nth xs k : Int) * (N : Int) + (nth out (off + k) : Int))) / 4294967296 = (((nth xs k * N + nth out (off + k) + c) / 4294967296 : Nat) : Int) by omega)
      have HBn : Hid (Blk .u32 56 (wr.setCell ⟨g, off + k, none⟩ (.int .u32 (((c : Int) + ((nth xs k : Int) * (N : Int) + (nth out (off + k) : Int))) % 4294967296))) g (out.set (off + k) ((nth xs k * N + nth out (off + k) + c) % 4294967296))) := by
        rw [hv]
        exact Lib.hid (hB.set (off + k) _ (Nat.mod_lt _ (by decide)))
      have hg2 := grownBy_trans hgr (grownBy_set wr ⟨g, off + k, none⟩ (.int .u32 (((c : Int) + ((nth xs k : Int) * (N : Int) + (nth out (off + k) : Int))) % 4294967296)))
      clear hlen hsm hv
      go_wp2_with fail
      go_roundw
      case rel => exact ⟨k + 1, _, _, by omega, by go_num, by rw [hw.out], by have := HS.out.lt; exact this, HS, HBn.out, hg2⟩
      case measure => simp [intOf]; omega
    · obtain rfl : k = n := by omega
      have hlen := hS.out.len
      have hcell := hB.cell (off + k) (by have := HM.out; omega)
      have hfree := hB.free (off + k)
      have hS2 := hS.out
      have hk2 := HL.out
      subst hk2
      have b2 := hS2.fits HF.out
      have hd := Lib.hid (hS2.done (by have := HM.out; omega))
      have HBn : Hid (Blk .u32 56 (wr.setCell ⟨g, off + xs.length, none⟩ (.int .u32 ((nth out (off + xs.length) : Int) + (c : Int)))) g (out.set (off + xs.length) (nth out (off + xs.length) + c))) := Lib.hid (hB.set (off + xs.length) (nth out (off + xs.length) + c) b2)
      have hg2 := Lib.hid (grownBy_trans hgr (grownBy_set wr ⟨g, off + xs.length, none⟩ (.int .u32 ((nth out (off + xs.length) : Int) + (c : Int)))))
      have HLn := Lib.hid hlen
      clear hlen hS2
      go_wp2_with fail
      go_end0
      exact ⟨rfl, _, by have := HLn.out; simp [this], HBn.out, hd.out, hg2.out⟩

def mulC (xs ys : List Nat) : List Nat × Int := if bothC xs ys = 0 then fitC (val xs * val ys) else ([], bothC xs ys)

set_option maxHeartbeats 1000000 in
theorem Mul_any (w : World) {a b : Option Addr} {n m cap cap' : Nat} {xs ys : List Nat} (h : Rd .u32 w a n cap xs) (h' : Rd .u32 w b m cap' ys) :
    Calls Try.prog 80 #[.slice a n cap, .slice b m cap'] w (RetN w (mulC xs ys)) := by
  obtain ⟨r, hr0⟩ : ∃ r, r = mulC xs ys := ⟨_, rfl⟩
  rw [← hr0]
  have HR := Lib.hid hr0
  clear hr0
  go_enter Try.func80, Try.ntmps80
  go_wp2_with fail
  refine (both_any _ h h').mono ?_
  rintro e w1 ⟨rfl, rfl⟩
  by_cases hz : bothC xs ys = 0
  · obtain ⟨z1, z2⟩ := bothC_ok hz
    have l1 := (chk_ok.1 z1).1
    have l2 := (chk_ok.1 z2).1
    rw [h.len] at l1
    rw [h'.len] at l2
    have HZ := Lib.hid hz
    rw [hz]
    have HL := Lib.hid h.len
    have HL' := Lib.hid h'.len
    clear hz z1 z2
    have mk : ∀ w, (Instr.makeSlice 25 (.int .i64 ((n : Int) + m + 1)) (.int .i64 ((n : Int) + m + 1))).run Try.prog w = .ok (.slice (some ⟨w.heap.size, 0, none⟩) (n + m + 1) (n + m + 1)) (w.alloc (.cells (zeros .u32 (n + m + 1)) 56)) := fun w => run_zeros etN (n + m + 1) (by omega) (by omega) w
    have HB0 := Blk.made .u32 56 w (n + m + 1)
    have hap : 0 < n → ∀ p, a = some p → p.block ≠ w.heap.size := fun h0 p hp => Nat.ne_of_lt (h.block_lt h0 p hp)
    go_wp2_with fail
    go_loopw [25] (fun i wr => ∃ k out, k ≤ m ∧ i = .int .i64 (k : Nat) ∧ out.length = n + m + 1 ∧ Hid (val out = val xs * val (ys.take k)) ∧ Blk .u32 56 wr w.heap.size out ∧ Below w.heap.size w wr) (fun i _ => m - (intOf i).toNat)
    case atStart => exact ⟨0, zs (n + m + 1), Nat.zero_le _, rfl, zs_length _, Lib.hid (by rw [val_zs]; simp [val]), HB0, (Below.refl _ _).alloc (Nat.le_refl _) _⟩
    case round =>
      obtain ⟨k, out, hk, rfl, hlen, hS, hB, hb⟩ := hrel
      have hrd := h.below hb
      have hrd' := h'.below hb
      have hR := hB.rd (n + m + 1) hlen (by unfold maxLen; omega)
      by_cases hlt : k < m
      · obtain ⟨p, o', rfl, hcx, _⟩ := hrd'.cell k hlt
        have b1 := small32_nth (show small32 ys from h'.bd) k
        have hf := row_fits (show small32 xs from h.bd) (show small32 ys from h'.bd) hS.out (show k < ys.length by have := HL'.out; omega)
        rw [HL.out] at hf
        have HF1 := Lib.hid hf.1
        have HF2 := Lib.hid hf.2
        have HLn := Lib.hid hlen
        clear hf hlen
        go_wp2_with (refine wpList_fromA rfl _ _ 25 rfl etN rfl rfl k (n + m + 1 - k) (n + m + 1 - k) rfl (by omega) (Nat.le_refl _) (by omega) rfl rfl ?_)
        refine (times_any _ hB (by have := HLn.out; omega) (by have := HLn.out; omega) hrd hap (by omega) _ b1 HF2.out).mono ?_
        rintro e w2 ⟨rfl, out2, hl2, hB2, hv2, hg2⟩
        have HS2 := Lib.hid (hv2.trans HF1.out)
        have hb2 := hb.grown hg2 hb.size (fun q hq => by simp at hq; omega)
        have HLn2 := Lib.hid (hl2.trans HLn.out)
        clear hv2 hl2
        go_wp2_with fail
        go_roundw
        case rel => exact ⟨k + 1, out2, by omega, by go_num, HLn2.out, HS2, hB2, hb2⟩
        case measure => simp [intOf]; omega
      · obtain rfl : k = m := by omega
        have hv := hS.out
        rw [List.take_of_length_le (by have := HL'.out; omega)] at hv
        have e1 := Lib.hid (show r = fitC (val out) by rw [HR.out, mulC, if_pos HZ.out, hv])
        clear hv hlen
        go_wp2_with fail
        refine (fits_any _ hR).mono ?_
        rintro e w1 ⟨a', m', c', rfl, hr', rfl⟩
        go_wp2_with fail
        go_ret2
        rw [e1.out]
        exact ⟨a', m', c', rfl, hr', hb⟩
  · have e1 := Lib.hid (show r = ([], bothC xs ys) by rw [HR.out, mulC, if_neg hz])
    go_wp2_with fail
    go_ret2
    rw [e1.out]
    exact ⟨none, 0, 0, rfl, Rd.nil _ _, Below.refl _ _⟩

end Go.Proofs.Ytfcejgeckcoefaa
