/- The document's answer: Mul, half. No condition. -/
import Derived.Test.YtfcejgeckcoefaaNatS
import Derived.Test.YtfcejgeckcoefaaNatGcd
namespace Go.Proofs.Ytfcejgeckcoefaa
open Go.RowKit Go.Suf
set_option linter.unusedVariables false
set_option linter.unusedSimpArgs false

set_option maxRecDepth 100000 in
set_option maxHeartbeats 2000000 in
theorem refMul_any (w : World) {a b : Option Addr} {n m cap cap' : Nat} {xs ys : List Nat} (h : Rd .u32 w a n cap xs) (h' : Rd .u32 w b m cap' ys) :
    Calls Try.prog 66 #[.slice a n cap, .slice b m cap'] w (RetN w (mulC xs ys)) := by
  obtain ⟨r, hr0⟩ : ∃ r, r = mulC xs ys := ⟨_, rfl⟩
  rw [← hr0]
  have HR := Lib.hid hr0
  clear hr0
  go_enter Try.func66, Try.ntmps66
  go_wp2_with fail
  refine (refBoth_any _ h h').mono ?_
  rintro e w1 ⟨rfl, rfl⟩
  by_cases hz : bothC xs ys = 0
  · obtain ⟨z1, z2⟩ := bothC_ok hz
    have l1 := (chk_ok.1 z1).1
    have l2 := (chk_ok.1 z2).1
    rw [h.len] at l1
    rw [h'.len] at l2
    have HZ := Lib.hid hz
    rw [hz]
    have HL := Lib.hid h.len
    have HL' := Lib.hid h'.len
    clear hz z1 z2
    go_wp2_with fail
    go_loopw [7, 8] (fun v i wr => ∃ (k : Nat) (ad : Option Addr) (p c : Nat), k ≤ m ∧ i = .int .i64 (k : Nat) ∧ v = .slice ad p c ∧ Rd .u32 wr ad p c (limbs (val xs * val (ys.take k))) ∧ Below w.heap.size w wr) (fun _ i _ => m - (intOf i).toNat)
    case atStart => exact ⟨0, none, 0, 0, Nat.zero_le _, rfl, rfl, by simpa [val, limbs_zero] using Rd.nil _ _, Below.refl _ _⟩
    case round =>
      obtain ⟨k, ad, p, c, hk, rfl, rfl, hR, hb⟩ := hrel
      have hp := Lib.hid (show p ≤ n + k by
        have := limbs_len_le (mul_lt_pw (val_lt' (show small32 xs from h.bd)) (val_lt' (small32_take (show small32 ys from h'.bd) k)))
        rw [hR.len, HL.out, List.length_take] at this
        omega)
      have hp2 : p ≤ 200 := by have := hp.out; omega
      by_cases hlt : k < m
      · obtain ⟨W3, rfl⟩ : ∃ W, W = wr := ⟨wr, rfl⟩
        have hrd := h.below hb
        have hrd' := h'.below hb
        have hz := hb.size
        have b1 := small32_nth (show small32 ys from h'.bd) k
        obtain ⟨o1, o2, rfl, hcy, _⟩ := hrd'.cell k hlt
        have mk : ∀ w, (Instr.makeSlice 25 (.int .i64 (k : Int)) (.int .i64 (k : Int))).run Try.prog w = .ok (.slice (some ⟨w.heap.size, 0, none⟩) k k) (w.alloc (.cells (zeros .u32 k) 56)) := fun w => run_zeros etN k (by omega) (by omega) w
        have ho0 := Ow.full .u32 56 W3 k (by unfold maxLen; omega)
        have hb0 : Below W3.heap.size W3 (W3.alloc (.cells (zeros .u32 k) 56)) := (Below.refl _ _).alloc (Nat.le_refl _) _
        go_wp2_with fail
        go_loopw [9, 10, 11] (fun v c i wz => ∃ (j cc : Nat) (d : Option Addr) (cp : Nat) (row : List Nat), j ≤ n ∧ i = .int .i64 (j : Nat) ∧ c = .int .u64 (cc : Nat) ∧ cc < 4294967296 ∧ v = .slice d (k + j) cp ∧ Ow .u32 56 W3.heap.size wz d (k + j) cp row ∧ Hid (Row xs row k (nth ys k) j cc) ∧ Below W3.heap.size W3 wz) (fun _ _ i _ => n - (intOf i).toNat)
        case atStart => exact ⟨0, 0, _, k, zs k, Nat.zero_le _, rfl, rfl, by decide, rfl, ho0, Lib.hid (Row.start _ _ _), hb0⟩
        case round =>
          obtain ⟨j, cc, d, cp, row, hj, rfl, rfl, hcc, rfl, ho, hS, hbz⟩ := hrel
          have hz3 := hbz.size
          by_cases hjn : j < n
          · obtain ⟨q1, q2, rfl, hcx, _⟩ := (hrd.below hbz).cell j hjn
            have hcy2 := cell_below hbz hcy
            have b2 := small32_nth (show small32 xs from h.bd) j
            have b3 := mul_lt_sq b2 b1
            have hS2 := Lib.hid (hS.out.step (show small32 xs from h.bd) b1)
            have hv := Lib.hid (show ((nth xs j : Int) * (nth ys k : Int) + (cc : Int)) % 4294967296 = (((nth xs j * nth ys k + cc) % 4294967296 : Nat) : Int) by omega)
            have hw := Lib.hid (show ((nth xs j : Int) * (nth ys k : Int) + (cc : Int)) / 4294967296 = (((nth xs j * nth ys k + cc) / 4294967296 : Nat) : Int) by omega)
            go_wp2_with fail
            go_quiet (fail)
            go_wp2_with (at_builtin; refine wpList_app rfl _ _ 25 rfl etN W3.heap.size rfl ((ho.drewN _).own.alloc _) rfl rfl (sl_new _ _ 56 rfl) (by unfold maxLen; omega) (by omega) (by simp; omega) ?_; intro a' cap2 w' hown hg hbw)
            rw [hv.out] at hown
            have ho2 := ho.snoc (x := (nth xs j * nth ys k + cc) % 4294967296) (Nat.mod_lt _ (by decide)) (m := k + j + 1) rfl hown
            have hbn := (below_drewN hbz nq).trans (((Below.refl W3.heap.size (wr.drewN nq)).alloc (by simpa using hz3) _).trans hbw)
            clear hown hg hbw ho
            go_roundw
            case rel => exact ⟨j + 1, _, a', cap2, _, by omega, by go_num, by rw [hw.out], hS2.out.lt, rfl, ho2, hS2, hbn⟩
            case measure => simp [intOf]; omega
          · obtain rfl : j = n := by omega
            have hS3 := hS.out
            rw [← HL.out] at hS3
            have hdn := hS3.done
            have hcv : (cc : Int) % 4294967296 = (cc : Int) := by omega
            have HDN := Lib.hid hdn
            have hRz := hR.below hbz
            clear hS3 hdn
            go_wp2_with (at_builtin; refine wpList_app rfl _ _ 25 rfl etN W3.heap.size rfl (ho.own.alloc _) rfl rfl (sl_new _ _ 56 rfl) (by unfold maxLen; omega) (by omega) (by simp; omega) ?_; intro a' cap2 w' hown hg hbw)
            have ho2 := ho.snoc (x := cc) hcc (m := k + j + 1) rfl hown
            have hbn := hbz.trans (((Below.refl W3.heap.size wr).alloc hz3 _).trans hbw)
            clear hown hg hbw
            refine (plus_any _ (hR.below hbn) ho2.rd (by omega) (by omega)).mono ?_
            rintro e w5 ⟨a5, m5, c5, rfl, ho5, hb5⟩
            have hres : Hid (val (limbs (val xs * val (ys.take k))) + val (row ++ [cc]) = val xs * val (ys.take (k + 1))) := by
              rw [val_limbs, HDN.out.1, val_take_succ, Nat.mul_add, Nat.mul_left_comm]
              exact Lib.hid rfl
            have hR5 := ho5.rd
            rw [hres.out] at hR5
            have hz5 := hbn.size
            have hbf := hb.trans ((hbn.trans (hb5.mono hz5)).mono hz)
            go_wp2_with fail
            go_roundw
            case rel => exact ⟨k + 1, a5, m5, c5, by omega, by go_num, rfl, hR5, hbf⟩
            case measure => simp [intOf]; omega
      · obtain rfl : k = m := by omega
        have hR2 := hR
        rw [List.take_of_length_le (by have := HL'.out; omega)] at hR2
        have HLR := Lib.hid hR2.len
        by_cases hg : 96 < p
        · have e1 := Lib.hid (show r = ([], 30) by rw [HR.out, mulC, if_pos HZ.out, fitC, HLR.out, if_pos hg])
          go_wp2_with fail
          go_ret2
          rw [e1.out]
          exact ⟨none, 0, 0, rfl, Rd.nil _ _, hb⟩
        · have e1 := Lib.hid (show r = (limbs (val xs * val ys), 0) by rw [HR.out, mulC, if_pos HZ.out, fitC, HLR.out, if_neg hg])
          go_wp2_with fail
          go_ret2
          rw [e1.out]
          exact ⟨ad, p, c, rfl, hR2, hb⟩
  · have e1 := Lib.hid (show r = ([], bothC xs ys) by rw [HR.out, mulC, if_neg hz])
    go_wp2_with fail
    go_ret2
    rw [e1.out]
    exact ⟨none, 0, 0, rfl, Rd.nil _ _, Below.refl _ _⟩

set_option maxHeartbeats 1000000 in
theorem half_any (w : World) {a : Option Addr} {n cap : Nat} {xs : List Nat} (h : Rd .u32 w a n cap xs) (hn : n ≤ 100000) :
    Calls Try.prog 84 #[.slice a n cap] w (RetO w (limbs (val xs / 2))) := by
  have HL := Lib.hid h.len
  obtain ⟨r, hr0⟩ : ∃ r, r = limbs (val xs / 2) := ⟨_, rfl⟩
  rw [← hr0]
  have HR := Lib.hid hr0
  clear hr0
  have mk : ∀ w, (Instr.makeSlice 25 (.int .i64 (n : Int)) (.int .i64 (n : Int))).run Try.prog w = .ok (.slice (some ⟨w.heap.size, 0, none⟩) n n) (w.alloc (.cells (zeros .u32 n) 56)) := fun w => run_zeros etN n (by omega) (by omega) w
  have HB0 := Blk.made .u32 56 w n
  go_enter Try.func84, Try.ntmps84
  go_wp2_with fail
  go_loopw [4] (fun i wr => ∃ (k : Nat) (out : List Nat), k ≤ n ∧ i = .int .i64 (k : Nat) ∧ out.length = n ∧ Hid (∀ j, j < k → nth out j = (nth xs (j + 1) % 2 * 4294967296 + nth xs j) / 2) ∧ Blk .u32 56 wr w.heap.size out ∧ Below w.heap.size w wr) (fun i _ => n - (intOf i).toNat)
  case atStart => exact ⟨0, zs n, Nat.zero_le _, rfl, zs_length _, Lib.hid fun j hj => by omega, HB0, (Below.refl _ _).alloc (Nat.le_refl _) _⟩
  case round =>
    obtain ⟨k, out, hk, rfl, hlen, hS, hB, hb⟩ := hrel
    have hrd := h.below hb
    by_cases hlt : k < n
    · obtain ⟨p, off, rfl, hc, _⟩ := hrd.cell k hlt
      have hcell := hB.cell k (by omega)
      have hfree := hB.free k
      have b1 := small32_nth (show small32 xs from h.bd) k
      have b2 := small32_nth (show small32 xs from h.bd) (k + 1)
      have HLn := Lib.hid hlen
      obtain ⟨v, hv⟩ : ∃ v, v = (nth xs (k + 1) % 2 * 4294967296 + nth xs k) / 2 := ⟨_, rfl⟩
      have hvl : v < 4294967296 := by omega
      have he := Lib.hid (show (((nth xs (k + 1) : Int) % 2 * 4294967296 + (nth xs k : Int)) / 2) = (v : Int) by omega)
      have HV := Lib.hid hv
      clear hv
      have HBn := Lib.hid (hB.set k v hvl)
      have hb2 := hb.setCell (p := ⟨w.heap.size, k, none⟩) (Nat.le_refl _) (.int .u32 (v : Nat))
      have hS2 := Lib.hid (show ∀ j, j < k + 1 → nth (out.set k v) j = (nth xs (j + 1) % 2 * 4294967296 + nth xs j) / 2 by
        intro j hj
        by_cases e : k = j
        · subst e
          rw [nth_set_same (by have := HLn.out; omega), HV.out]
        · rw [nth_set_ne e]
          exact hS.out j (by omega))
      have hat : ∀ w', Below wr.heap.size wr w' → Calls Try.prog 86 #[.slice (some ⟨p, off, none⟩) n cap, .int .i64 ((k : Int) + 1)] w' fun e w'' => e = .returned (.int .u64 (nth xs (k + 1) : Nat)) ∧ w' = w'' := fun w' hbw => by
        have := at_any w' (hrd.below hbw) (k + 1) (by omega)
        rwa [show ((k + 1 : Nat) : Int) = (k : Int) + 1 by omega] at this
      clear hlen
      go_wp2_with fail
      have hwr : IntKind.i64.wrap ((k : Int) + 1) = (k : Int) + 1 := IntWalk.i64_in _ (by omega)
      have hbig : IntKind.u32.wrap (IntKind.u64.wrap ((IntKind.u64.wrap (IntKind.u64.wrap ((nth xs (k + 1) : Int).tmod 2 * 4294967296) + IntKind.u64.wrap (nth xs k : Int))).tdiv 2)) = (v : Int) := by
        rw [Int.tmod_eq_emod_of_nonneg (by omega)]
        simp only [IntKind.wrap_u64, IntKind.wrap_u32']
        rw [Int.tdiv_eq_ediv_of_nonneg (by omega)]
        have := HV.out
        omega
      have HBIG := Lib.hid hbig
      clear hbig
      go_region_with (first | (go_at_call 86; with_reducible refine (hat _ (by first | exact (Below.refl _ _).drew | exact Below.refl _ _)).mono ?_; rintro e w1 ⟨rfl, rfl⟩))
      all_goals
        rw [HBIG.out]
        clear hwr
        go_wp2
        go_roundw
        case rel => exact ⟨k + 1, _, by omega, by go_num, by have := HLn.out; simp [this], hS2, ⟨HBn.out.blk, HBn.out.bd⟩, hb2.drew⟩
        case measure => simp [intOf]; omega
    · obtain rfl : k = n := by omega
      have hv := Lib.hid (half_val (xs := xs) (out := out) h.bd (by rw [hlen, HL.out]) (by rw [HL.out]; exact hS.out))
      have hR := hB.rd k hlen (by unfold maxLen; omega)
      have hz := hb.size
      clear hlen
      go_wp2_with fail
      refine (refTrim_any _ hR (by omega)).mono ?_
      rintro e w1 ⟨a', m', c', rfl, ho', hb'⟩
      rw [hv.out, ← HR.out] at ho'
      go_wp2_with fail
      go_ret
      exact ⟨a', m', c', rfl, ho'.base_le hz, hb.trans (hb'.mono hz)⟩

end Go.Proofs.Ytfcejgeckcoefaa
