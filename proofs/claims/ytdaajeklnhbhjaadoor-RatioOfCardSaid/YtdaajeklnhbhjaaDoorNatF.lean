/- Of, Word, slices.Clone, Div32, small. No condition. -/
import Derived.Test.YtdaajeklnhbhjaaDoorNatD
import Derived.Lib.LazyBuf
import Derived.Lib.BitFns
import Derived.Lib.ItoaNum
namespace Go.Proofs.YtdaajeklnhbhjaaDoor
open Go.RowKit Go.Suf
set_option linter.unusedVariables false
set_option linter.unusedSimpArgs false

set_option maxHeartbeats 400000 in
theorem Clone_any (w : World) {a : Option Addr} {n cap : Nat} {xs : List Nat} (h : Rd .u32 w a n cap xs) (hn : n ≤ 1099511627776) :
    Calls Tryd.prog 47 #[.slice a n cap] w (RetL w xs) := by
  have hl := Lib.hid h.len
  have heq := fun (w : World) => Lib.run_eql_slice_nil (P := Tryd.prog) w
  cases a with
  | none =>
    have hc := h.sl.nil rfl
    subst hc
    have hn : n = 0 := by have := h.le; omega
    subst hn
    have hx : xs = [] := List.eq_nil_of_length_eq_zero h.len
    subst hx
    go_enter Tryd.func47, Tryd.ntmps47
    go_wp2
    go_ret
    exact ⟨none, 0, 0, rfl, Rd.nil _ _, Below.refl _ _⟩
  | some ad =>
    go_enter Tryd.func47, Tryd.ntmps47
    go_wp2_with (at_builtin; refine wpList_app rfl _ _ 22 rfl etN w.heap.size rfl (World.ownsRow_made w #[] 0 (Nat.le_refl _) (by decide) rfl) rfl (by simpa using h.len) (h.sl.below ((Below.refl _ w).alloc (Nat.le_refl _) _)) (by unfold maxLen; omega) (by omega) (by simp) ?_; intro a' cap' w' hown hg hb)
    go_ret
    exact ⟨a', n, cap', by simp, (⟨h.len, by simpa using hown, h.bd⟩ : Ow .u32 47 w.heap.size w' a' n cap' xs).rd, ((Below.refl _ w).alloc (Nat.le_refl _) _).trans hb⟩

theorem val_two (n : Nat) (hn : n < 18446744073709551616) : val [n % 4294967296, n / 4294967296] = n := by
  simp only [val]
  omega

theorem Of_any (w : World) (n : Nat) (hn : n < 18446744073709551616) :
    Calls Tryd.prog 10 #[.int .u64 (n : Nat)] w (RetL w (limbs n)) := by
  have HV := Lib.hid (val_two n hn)
  have hr := rd_lit .u32 w [n % 4294967296, n / 4294967296] 47 2 rfl (by decide) (by
    intro x hx
    simp at hx
    rcases hx with rfl | rfl
    · exact Nat.mod_lt _ (by decide)
    · show _ < 4294967296
      omega)
  have HN := Lib.hid hn
  clear hn
  have h1 : (n : Int) / 4294967296 < 4294967296 := by have := HN.out; omega
  go_enter Tryd.func10, Tryd.ntmps10
  go_wp2_with fail
  refine (trim_any _ hr).mono ?_
  rintro e w1 ⟨a', m', rfl, hr', rfl⟩
  rw [HV.out] at hr'
  go_wp2_with fail
  go_ret
  exact ⟨a', m', m', rfl, hr', (Below.refl _ _).alloc (Nat.le_refl _) _⟩

def wordC (xs : List Nat) : Nat × Int := if chk xs = 0 then (if 2 < xs.length then (0, 30) else (val xs, 0)) else (0, chk xs)

def RetW (w : World) (r : Nat × Int) : Ending → World → Prop := fun e w' => e = .returned (.tuple #[.int .u64 (r.1 : Nat), .int .i64 r.2]) ∧ w = w'

set_option maxHeartbeats 400000 in
theorem Word_any (w : World) {a : Option Addr} {n cap : Nat} {xs : List Nat} (h : Rd .u32 w a n cap xs) :
    Calls Tryd.prog 35 #[.slice a n cap] w (RetW w (wordC xs)) := by
  have hn := h.lt
  have HL := Lib.hid h.len
  obtain ⟨r, hr0⟩ : ∃ r, r = wordC xs := ⟨_, rfl⟩
  rw [← hr0]
  have HR := Lib.hid hr0
  clear hr0
  go_enter Tryd.func35, Tryd.ntmps35
  go_wp2_with fail
  refine (Check_any _ h).mono ?_
  rintro e w1 ⟨rfl, rfl⟩
  by_cases hz : chk xs = 0
  · have HZ := Lib.hid hz
    rw [hz]
    clear hz
    by_cases h2 : 2 < n
    · have e1 := Lib.hid (show r = (0, 30) by rw [HR.out, wordC, if_pos HZ.out, HL.out, if_pos h2])
      go_wp2_with fail
      go_ret2
      rw [e1.out]
      exact ⟨rfl, rfl⟩
    · have e1 := Lib.hid (show r = (val xs, 0) by rw [HR.out, wordC, if_pos HZ.out, HL.out, if_neg h2])
      go_wp2_with fail
      go_loop [2, 16] (fun v i => ∃ k, k ≤ n ∧ i = .int .i64 (k : Nat) ∧ v = .int .u64 (val (xs.take k) : Nat)) (fun _ i => n - (intOf i).toNat)
      case atStart => exact ⟨0, Nat.zero_le _, rfl, rfl⟩
      case round =>
        obtain ⟨k, hk, rfl, rfl⟩ := hrel
        by_cases hlt : k < n
        · obtain ⟨p, off, rfl, hc, _⟩ := h.cell k hlt
          have hs := Lib.hid (val_take_succ xs k)
          have b1 := small32_nth (show small32 xs from h.bd) k
          have b2 := val_lt' (small32_take (show small32 xs from h.bd) k)
          rw [List.length_take, HL.out, Nat.min_eq_left hk] at b2
          have hk01 : k = 0 ∨ k = 1 := by omega
          rcases hk01 with rfl | rfl
          · rw [Nat.add_zero] at hc
            have e0 : val (xs.take 0) = 0 := rfl
            rw [e0]
            clear e0
            have ho : bits .or .u32 0 (nth xs 0 : Int) = (nth xs 0 : Int) := by
              have := u32_or_nat 0 (nth xs 0) (by decide) b1
              rwa [Nat.zero_or] at this
            have HO := Lib.hid ho
            have ho2 : bits .or .u64 0 (nth xs 0 : Int) = (nth xs 0 : Int) := by
              have := u64_or_nat 0 (nth xs 0) (by decide) (by omega)
              rwa [Nat.zero_or] at this
            have HO2 := Lib.hid ho2
            clear ho ho2
            go_wp2_with fail
            go_round
            case rel => exact ⟨1, by omega, rfl, by rw [hs.out]; simp [val, pw]; first | exact HO.out | exact HO2.out⟩
            case measure => simp [intOf]; omega
          · have ho : bits .or .u64 (val (xs.take 1) : Int) ((nth xs 1 : Int) * 4294967296) = ((val (xs.take 1) + pw 1 * nth xs 1 : Nat) : Int) := by
              have := u64_or_nat (val (xs.take 1)) (nth xs 1 * 4294967296) (by simp only [pw] at b2; omega) (by omega)
              rw [Nat.or_comm, nat_join 32 _ _ (by omega) (by simpa [pw] using b2)] at this
              rw [Int.natCast_mul] at this
              rw [show val (xs.take 1) + pw 1 * nth xs 1 = nth xs 1 * 4294967296 + val (xs.take 1) by simp only [pw]; omega]
              exact this
            have HO := Lib.hid ho
            clear ho
            go_wp2_with fail
            go_round
            case rel => exact ⟨2, by omega, rfl, by rw [hs.out, HO.out]⟩
            case measure => simp [intOf]; omega
        · obtain rfl : k = n := by omega
          have hv := Lib.hid (show xs.take k = xs by rw [List.take_of_length_le (by have := HL.out; omega)])
          go_wp2_with fail
          go_ret2
          rw [e1.out, hv.out]
          exact ⟨rfl, rfl⟩
  · have e1 := Lib.hid (show r = (0, chk xs) by rw [HR.out, wordC, if_neg hz])
    go_wp2_with fail
    go_ret2
    rw [e1.out]
    exact ⟨rfl, rfl⟩

set_option maxHeartbeats 400000 in
theorem Div32_any (w : World) (hi lo y : Nat) (h1 : hi < y) (h2 : lo < 4294967296) (h3 : y < 4294967296) :
    Calls Tryd.prog 66 #[.int .u32 (hi : Nat), .int .u32 (lo : Nat), .int .u32 (y : Nat)] w fun e w' => e = .returned (.tuple #[.int .u32 (((hi * 4294967296 + lo) / y : Nat) : Int), .int .u32 (((hi * 4294967296 + lo) % y : Nat) : Int)]) ∧ ∃ nq, w' = w.drewN nq := by
  have ho : bits .or .u64 ((hi : Int) * 4294967296) (lo : Int) = ((hi * 4294967296 + lo : Nat) : Int) := by
    have := u64_or_nat (hi * 4294967296) lo (by omega) (by omega)
    rw [nat_join 32 _ _ (by omega) h2, Int.natCast_mul] at this
    exact this
  have hq : (hi * 4294967296 + lo) / y < 4294967296 := by
    rw [Nat.div_lt_iff_lt_mul (by omega)]
    have := Nat.mul_le_mul_right 4294967296 (show hi + 1 ≤ y by omega)
    rw [Nat.mul_comm 4294967296 y]
    omega
  have hr := Nat.mod_lt (hi * 4294967296 + lo) (show 0 < y by omega)
  obtain ⟨v, hv⟩ : ∃ v, v = hi * 4294967296 + lo := ⟨_, rfl⟩
  rw [← hv] at ho hq hr ⊢
  have hvl : v < 18446744073709551616 := by omega
  have HV := Lib.hid hv
  clear hv
  have hy : ((y : Int) != 0) = true := by rw [bne_iff_ne]; omega
  have hy2 : (y : Int) ≠ 0 := by omega
  have hd : decide ((y : Int) ≤ (hi : Int)) = false := by simp; omega
  have hd' : decide (y ≤ hi) = false := by simp; omega
  go_enter Tryd.func66, Tryd.ntmps66
  go_wp2_with fail
  go_quiet (fail)
  go_wp2_with fail
  go_ret2
  refine ⟨?_, nq, rfl⟩
  show Ending.returned (.tuple #[.int .u32 (IntKind.u64.wrap ((v : Int) / (y : Int)) % 4294967296), .int .u32 ((v : Int) % (y : Int))]) = _
  rw [IntKind.wrap_u64, ← Int.natCast_ediv, ← Int.natCast_emod]
  have e : ((v / y : Nat) : Int) % 18446744073709551616 % 4294967296 = ((v / y : Nat) : Int) := by
    generalize v / y = q at hq
    omega
  rw [e]

def RetLR (w : World) (r : List Nat) (d : Nat) : Ending → World → Prop := fun e w' =>
  ∃ a m c, e = .returned (.tuple #[.slice a m c, .int .u32 (d : Nat)]) ∧ Rd .u32 w' a m c r ∧ Below w.heap.size w w' ∧ Ty w' a 47

set_option maxHeartbeats 1000000 in
theorem small_any (w : World) {a : Option Addr} {n cap : Nat} {xs : List Nat} (h : Rd .u32 w a n cap xs) (hn : n ≤ 100000) (N : Nat) (h0 : 0 < N) (hN : N < 4294967296) :
    Calls Tryd.prog 52 #[.slice a n cap, .int .u32 (N : Nat)] w (RetLR w (limbs (val xs / N)) (val xs % N)) := by
  have HL := Lib.hid h.len
  obtain ⟨r, hr0⟩ : ∃ r, r = limbs (val xs / N) := ⟨_, rfl⟩
  obtain ⟨d, hd0⟩ : ∃ d, d = val xs % N := ⟨_, rfl⟩
  rw [← hr0, ← hd0]
  have HR := Lib.hid hr0
  have HD := Lib.hid hd0
  clear hr0 hd0
  have mk : ∀ w, (Instr.makeSlice 22 (.int .i64 (n : Int)) (.int .i64 (n : Int))).run Tryd.prog w = .ok (.slice (some ⟨w.heap.size, 0, none⟩) n n) (w.alloc (.cells (zeros .u32 n) 47)) := fun w => run_zeros etN n (by omega) (by omega) w
  have HB0 := Blk.made .u32 47 w n
  go_enter Tryd.func52, Tryd.ntmps52
  go_wp2_with fail
  go_loopw [5, 6] (fun c i wr => ∃ (k cc : Nat) (out : List Nat), k ≤ n ∧ i = .int .i64 ((k : Int) - 1) ∧ c = .int .u32 (cc : Nat) ∧ cc < N ∧ out.length = n ∧ Hid (Sml xs out N k cc) ∧ Blk .u32 47 wr w.heap.size out ∧ Below w.heap.size w wr) (fun _ i _ => (intOf i + 1).toNat)
  case atStart => exact ⟨n, 0, zs n, Nat.le_refl _, rfl, rfl, h0, zs_length _, Lib.hid ⟨by rw [List.drop_eq_nil_of_le (by have := HL.out; omega), List.drop_eq_nil_of_le (by have := zs_length n; omega)]; simp [val], by rw [zs_length, HL.out], HB0.bd, h0⟩, HB0, (Below.refl _ _).alloc (Nat.le_refl _) _⟩
  case round =>
    obtain ⟨k, cc, out, hk, hi, rfl, hcc, hlen, hS, hB, hb⟩ := hrel
    have hrd := h.below hb
    by_cases h0 : 0 < k
    · obtain ⟨j, rfl⟩ : ∃ j, k = j + 1 := ⟨k - 1, by omega⟩
      subst hi
      have hi2 : (((j + 1 : Nat) : Int) - 1) = (j : Int) := by omega
      rw [hi2]
      clear hi2
      obtain ⟨p, off, rfl, hc, _⟩ := hrd.cell j (by omega)
      have hcell := hB.cell j (by omega)
      have hfree := hB.free j
      have hsm : small32 xs := h.bd
      have b1 := small32_nth hsm j
      obtain ⟨s1, s2⟩ := hS.out.step hsm (Nat.le_of_lt hN) (by have := HL.out; omega)
      have HS := Lib.hid s1
      have HLn := Lib.hid hlen
      have HBn := Lib.hid (hB.set j ((cc * 4294967296 + nth xs j) / N) s2)
      have hb2 := hb.setCell (p := ⟨w.heap.size, j, none⟩) (Nat.le_refl _) (.int .u32 (((cc * 4294967296 + nth xs j) / N : Nat) : Int))
      have hr := Lib.hid (Nat.mod_lt (cc * 4294967296 + nth xs j) (show 0 < N by omega))
      clear hlen hsm s1 s2
      go_wp2_with fail
      refine (Div32_any _ _ _ _ hcc b1 hN).mono ?_
      rintro e w1 ⟨rfl, nq, rfl⟩
      go_wp2_with fail
      go_roundw
      case rel => exact ⟨j, _, _, by omega, by go_num, rfl, hr.out, by have := HLn.out; simp [this], HS, ⟨HBn.out.blk, HBn.out.bd⟩, below_drewN hb2 nq⟩
      case measure => simp [intOf]
    · obtain rfl : k = 0 := by omega
      subst hi
      have hv := hS.out.done
      have hR := hB.rd n hlen (by unfold maxLen; omega)
      have e1 := Lib.hid (show r = limbs (val out) by rw [HR.out, hv.1])
      have e2 := Lib.hid (show d = cc by rw [HD.out, hv.2])
      clear hv hlen
      go_wp2_with fail
      refine (trim_at _ hR).mono ?_
      rintro e w1 ⟨m', rfl, hr', _, rfl⟩
      go_wp2_with fail
      go_ret2
      rw [e1.out, e2.out]
      exact ⟨_, m', m', rfl, hr', hb, hB.ty⟩

end Go.Proofs.YtdaajeklnhbhjaaDoor
/- takes, back, Len32, LeadingZeros32. No condition. -/
namespace Go.Proofs.YtdaajeklnhbhjaaDoor
open Go.RowKit Go.Suf
set_option linter.unusedVariables false
set_option linter.unusedSimpArgs false

theorem small_mod (a : Nat) : a % 4294967296 < 4294967296 := Nat.mod_lt _ (by decide)

theorem neq_zero (b : Nat) : Ending.returned (.bool ((b : Int) != 0)) = .returned (.bool (b != 0)) := by
  congr 2
  rw [Bool.eq_iff_iff]
  simp

set_option maxHeartbeats 1000000 in
theorem takes_any (w : World) {g off m c0 : Nat} {zs : List Nat} (hZ : Blk .u32 47 w g zs) (hlen : zs.length ≤ 100000) {a : Option Addr} {n cap : Nat} {ys : List Nat} (h : Rd .u32 w a n cap ys) (hg : 0 < n → ∀ p, a = some p → p.block ≠ g) (hnm : n < m) (hm : off + n < zs.length) (q : Nat) (hq : q < 4294967296) :
    Calls Tryd.prog 79 #[.slice (some ⟨g, off, none⟩) m c0, .slice a n cap, .int .u64 (q : Nat)] w fun e w' => ∃ b, b ≤ 1 ∧ e = .returned (.bool (b != 0)) ∧ ∃ zs', zs'.length = zs.length ∧ Blk .u32 47 w' g zs' ∧ val zs' + pw off * (q * val ys) = val zs + pw (off + n + 1) * b ∧ zs'.drop (off + n + 1) = zs.drop (off + n + 1) ∧ w.grownBy w' (some g) := by
  have HL := Lib.hid h.len
  have HM := Lib.hid hm
  have hm1 : off + n ≤ 100000 := by omega
  clear hm hlen
  go_enter Tryd.func79, Tryd.ntmps79
  go_wp2_with fail
  go_loopw [7, 8, 13] (fun v b i wr => ∃ k c bb out, k ≤ n ∧ i = .int .i64 (k : Nat) ∧ v = .int .u64 (c : Nat) ∧ c < 4294967296 ∧ b = .int .u32 (bb : Nat) ∧ bb ≤ 1 ∧ Hid (Tak zs ys out off q k c bb) ∧ Blk .u32 47 wr g out ∧ w.grownBy wr (some g)) (fun _ _ i _ => n - (intOf i).toNat)
  case atStart => exact ⟨0, 0, 0, zs, Nat.zero_le _, rfl, rfl, by decide, rfl, by decide, Lib.hid (Tak.start hZ.bd), hZ, World.grownBy.refl _ _⟩
  case round =>
    obtain ⟨k, c, bb, out, hk, rfl, rfl, hc, rfl, hbb, hS, hB, hgr⟩ := hrel
    have hrd := h.other hgr hg
    by_cases hlt : k < n
    · obtain ⟨p, o', rfl, hcx, _⟩ := hrd.cell k hlt
      have hlen := hS.out.len
      have hcell := hB.cell (off + k) (by have := HM.out; omega)
      have hfree := hB.free (off + k)
      have hsm : small32 ys := h.bd
      have b1 := small32_nth hsm k
      have b2 := small32_nth hS.out.small (off + k)
      have b3 := mul_lt_sq hq b1
      have HS := Lib.hid (hS.out.step hsm hq (by have := HM.out; omega : off + k < zs.length))
      have hv := Lib.hid (show ((c : Int) + (q : Int) * (nth ys k : Int)) % 4294967296 = (((c + q * nth ys k) % 4294967296 : Nat) : Int) by omega)
      have hw := Lib.hid (show ((c : Int) + (q : Int) * (nth ys k : Int)) / 4294967296 = (((c + q * nth ys k) / 4294967296 : Nat) : Int) by omega)
      have hb2 := Lib.hid (subB_le (nth out (off + k)) ((c + q * nth ys k) % 4294967296) bb)
      have HBn := Lib.hid (hB.set (off + k) (subL (nth out (off + k)) ((c + q * nth ys k) % 4294967296) bb) (subL_lt _ _ _))
      have hg2 := Lib.hid (grownBy_trans hgr (grownBy_set wr ⟨g, off + k, none⟩ (.int .u32 ((subL (nth out (off + k)) ((c + q * nth ys k) % 4294967296) bb : Nat) : Int))))
      clear hlen hsm
      go_wp2_with fail
      rw [hv.out]
      refine (Sub32_any _ _ _ _ b2 (small_mod _) hbb).mono ?_
      rintro e w1 ⟨rfl, rfl⟩
      go_wp2_with fail
      go_roundw
      case rel => exact ⟨k + 1, _, _, _, by omega, by go_num, by rw [hw.out], HS.out.lt, rfl, hb2.out, HS, HBn.out, hg2.out⟩
      case measure => simp [intOf]; omega
    · obtain rfl : k = n := by omega
      have hlen := hS.out.len
      have hcell := hB.cell (off + k) (by have := HM.out; omega)
      have hfree := hB.free (off + k)
      have hS2 := hS.out
      have hk2 := HL.out
      subst hk2
      have b2 := small32_nth hS2.small (off + ys.length)
      have hd := Lib.hid (hS2.done (by have := HM.out; omega))
      have hdr := Lib.hid (show (out.set (off + ys.length) (subL (nth out (off + ys.length)) c bb)).drop (off + ys.length + 1) = zs.drop (off + ys.length + 1) by
        rw [set_drop_gt _ (by omega)]
        have := congrArg (List.drop 1) hS2.rest
        simpa using this)
      have HBn := Lib.hid (hB.set (off + ys.length) (subL (nth out (off + ys.length)) c bb) (subL_lt _ _ _))
      have hg2 := Lib.hid (grownBy_trans hgr (grownBy_set wr ⟨g, off + ys.length, none⟩ (.int .u32 ((subL (nth out (off + ys.length)) c bb : Nat) : Int))))
      have hb2 := Lib.hid (subB_le (nth out (off + ys.length)) c bb)
      have HLn := Lib.hid hlen
      clear hlen hS2
      go_wp2_with fail
      refine (Sub32_any _ _ _ _ b2 hc hbb).mono ?_
      rintro e w1 ⟨rfl, rfl⟩
      go_wp2_with fail
      go_ret
      exact ⟨subB (nth out (off + ys.length)) c bb, hb2.out, neq_zero _, _, by have := HLn.out; simp [this], HBn.out, hd.out, hdr.out, hg2.out⟩

/-- The block g is written: b times the limb above what was taken is missing. -/
def BackTo (w : World) (g off n : Nat) (zs ys : List Nat) : Ending → World → Prop := fun e w' =>
  e = .returned (.tuple #[]) ∧ ∃ zs' b, zs'.length = zs.length ∧ Blk .u32 47 w' g zs' ∧ val zs' + pw (off + n + 1) * b = val zs + pw off * val ys ∧ zs'.drop (off + n + 1) = zs.drop (off + n + 1) ∧ w.grownBy w' (some g)

def TakesTo (w : World) (g off n q : Nat) (zs ys : List Nat) : Ending → World → Prop := fun e w' =>
  ∃ b, b ≤ 1 ∧ e = .returned (.bool (b != 0)) ∧ ∃ zs', zs'.length = zs.length ∧ Blk .u32 47 w' g zs' ∧ val zs' + pw off * (q * val ys) = val zs + pw (off + n + 1) * b ∧ zs'.drop (off + n + 1) = zs.drop (off + n + 1) ∧ w.grownBy w' (some g)

set_option maxHeartbeats 1000000 in
theorem back_any (w : World) {g off m c0 : Nat} {zs : List Nat} (hZ : Blk .u32 47 w g zs) (hlen : zs.length ≤ 100000) {a : Option Addr} {n cap : Nat} {ys : List Nat} (h : Rd .u32 w a n cap ys) (hg : 0 < n → ∀ p, a = some p → p.block ≠ g) (hnm : n < m) (hm : off + n < zs.length) :
    Calls Tryd.prog 80 #[.slice (some ⟨g, off, none⟩) m c0, .slice a n cap] w (BackTo w g off n zs ys) := by
  have HL := Lib.hid h.len
  have HM := Lib.hid hm
  have hm1 : off + n ≤ 100000 := by omega
  clear hm hlen
  go_enter Tryd.func80, Tryd.ntmps80
  go_wp2_with fail
  go_loopw [4, 9] (fun v i wr => ∃ k c out, k ≤ n ∧ i = .int .i64 (k : Nat) ∧ v = .int .u32 (c : Nat) ∧ c ≤ 1 ∧ Hid (Bak zs ys out off k c) ∧ Blk .u32 47 wr g out ∧ w.grownBy wr (some g)) (fun _ i _ => n - (intOf i).toNat)
  case atStart => exact ⟨0, 0, zs, Nat.zero_le _, rfl, rfl, by decide, Lib.hid (Bak.start hZ.bd), hZ, World.grownBy.refl _ _⟩
  case round =>
    obtain ⟨k, c, out, hk, rfl, rfl, hc, hS, hB, hgr⟩ := hrel
    have hrd := h.other hgr hg
    by_cases hlt : k < n
    · obtain ⟨p, o', rfl, hcx, _⟩ := hrd.cell k hlt
      have hlen := hS.out.len
      have hcell := hB.cell (off + k) (by have := HM.out; omega)
      have hfree := hB.free (off + k)
      have hsm : small32 ys := h.bd
      have b1 := small32_nth hsm k
      have b2 := small32_nth hS.out.small (off + k)
      have HS := Lib.hid (hS.out.step hsm (by have := HM.out; omega : off + k < zs.length))
      have HBn := Lib.hid (hB.set (off + k) ((nth out (off + k) + nth ys k + c) % 4294967296) (Nat.mod_lt _ (by decide)))
      have hg2 := Lib.hid (grownBy_trans hgr (grownBy_set wr ⟨g, off + k, none⟩ (.int .u32 (((nth out (off + k) + nth ys k + c) % 4294967296 : Nat) : Int))))
      clear hlen hsm
      go_wp2_with fail
      refine (Add32_any _ _ _ _ b2 b1 hc).mono ?_
      rintro e w1 ⟨rfl, rfl⟩
      go_wp2_with fail
      go_roundw
      case rel => exact ⟨k + 1, _, _, by omega, by go_num, rfl, HS.out.le, HS, HBn.out, hg2.out⟩
      case measure => simp [intOf]; omega
    · obtain rfl : k = n := by omega
      have hlen := hS.out.len
      have hcell := hB.cell (off + k) (by have := HM.out; omega)
      have hfree := hB.free (off + k)
      have hS2 := hS.out
      have hk2 := HL.out
      subst hk2
      have b2 := small32_nth hS2.small (off + ys.length)
      have hd := Lib.hid (hS2.done (by have := HM.out; omega))
      have hdr := Lib.hid (show (out.set (off + ys.length) ((nth out (off + ys.length) + c) % 4294967296)).drop (off + ys.length + 1) = zs.drop (off + ys.length + 1) by
        rw [set_drop_gt _ (by omega)]
        have := congrArg (List.drop 1) hS2.rest
        simpa using this)
      have hv : ((nth out (off + ys.length) : Int) + (c : Int)) % 4294967296 = (((nth out (off + ys.length) + c) % 4294967296 : Nat) : Int) := by omega
      have HBn : Hid (Blk .u32 47 (wr.setCell ⟨g, off + ys.length, none⟩ (.int .u32 (((nth out (off + ys.length) : Int) + (c : Int)) % 4294967296))) g (out.set (off + ys.length) ((nth out (off + ys.length) + c) % 4294967296))) := by
        rw [hv]
        exact Lib.hid (hB.set (off + ys.length) _ (Nat.mod_lt _ (by decide)))
      have hg2 := Lib.hid (grownBy_trans hgr (grownBy_set wr ⟨g, off + ys.length, none⟩ (.int .u32 (((nth out (off + ys.length) : Int) + (c : Int)) % 4294967296))))
      have HLn := Lib.hid hlen
      clear hlen hS2 hv
      go_wp2_with fail
      go_end0
      exact ⟨rfl, out.set (off + ys.length) ((nth out (off + ys.length) + c) % 4294967296), (nth out (off + ys.length) + c) / 4294967296, by have := HLn.out; simp [this], HBn.out, hd.out, hdr.out, hg2.out⟩

set_option maxHeartbeats 4000000 in
set_option maxRecDepth 100000 in
theorem Len32_any (w : World) (x : Int) (h0 : 0 ≤ x) (h1 : x ≤ 4294967295) :
    Calls Tryd.prog 90 #[.int .u32 x] w fun e w' => e = .returned (.int .i64 (Lib.bitLen x.toNat)) ∧ w = w' := by
  have hsz : Lib.len8tab.size = 256 := Lib.len8tab_size
  go_enter Tryd.func90, Tryd.ntmps90
  go_wp2
  all_goals go_ret
  all_goals
    refine ⟨?_, rfl⟩
    have T : ∀ (i : Nat) (h : i < Lib.len8tab.size), (Lib.len8tab[i]'h).toNat = Lib.bitLen i := by
      intro i h
      have e := Lib.len8_of (i : Int) (by omega) (by omega)
      simp only [Lib.len8, Int.toNat_natCast, ByteArray.getElem?_lt' _ _ h, Option.getD_some] at e
      omega
    refine congrArg Ending.returned (congrArg (Value.int IntKind.i64) ?_)
  · show wrap64 (24 + wrap64 ((Lib.len8tab[(x / 65536 / 256).toNat]'_).toNat : Int)) = _
    rw [T]
    have e : (x / 65536 / 256).toNat = x.toNat / 16777216 := by omega
    have l : Lib.bitLen (x.toNat / 16777216) ≤ 8 := Lib.bitLen_le8 ⟨x.toNat / 16777216, by omega⟩
    have s := Lib.bitLen_shift24 x.toNat (by omega) (by omega)
    rw [e]
    clear e T
    generalize Lib.bitLen (x.toNat / 16777216) = p at l s ⊢
    generalize Lib.bitLen x.toNat = q at s ⊢
    simp only [wrap64]
    omega
  · show wrap64 (16 + wrap64 ((Lib.len8tab[(x / 65536).toNat]'_).toNat : Int)) = _
    rw [T]
    have e : (x / 65536).toNat = x.toNat / 65536 := by omega
    have l : Lib.bitLen (x.toNat / 65536) ≤ 8 := Lib.bitLen_le8 ⟨x.toNat / 65536, by omega⟩
    have s := Lib.bitLen_shift16 x.toNat (by omega) (by omega)
    rw [e]
    clear e T
    generalize Lib.bitLen (x.toNat / 65536) = p at l s ⊢
    generalize Lib.bitLen x.toNat = q at s ⊢
    simp only [wrap64]
    omega
  · show wrap64 (8 + wrap64 ((Lib.len8tab[(x / 256).toNat]'_).toNat : Int)) = _
    rw [T]
    have e : (x / 256).toNat = x.toNat / 256 := by omega
    have l : Lib.bitLen (x.toNat / 256) ≤ 8 := Lib.bitLen_le8 ⟨x.toNat / 256, by omega⟩
    have s := Lib.bitLen_shift8 x.toNat (by omega) (by omega)
    rw [e]
    clear e T
    generalize Lib.bitLen (x.toNat / 256) = p at l s ⊢
    generalize Lib.bitLen x.toNat = q at s ⊢
    simp only [wrap64]
    omega
  · show wrap64 (wrap64 ((Lib.len8tab[x.toNat]'_).toNat : Int)) = _
    rw [T]
    have l : Lib.bitLen x.toNat ≤ 8 := Lib.bitLen_le8 ⟨x.toNat, by omega⟩
    generalize Lib.bitLen x.toNat = q at l ⊢
    clear T
    simp only [wrap64]
    omega

/-- How far a number of 32 bits is shifted until its first bit is set. -/
theorem LeadingZeros32_any (w : World) (x : Nat) (h0 : 0 < x) (h1 : x < 4294967296) :
    Calls Tryd.prog 76 #[.int .u32 (x : Nat)] w fun e w' => ∃ r : Nat, r ≤ 31 ∧ e = .returned (.int .i64 (r : Nat)) ∧ 2147483648 ≤ x * 2 ^ r ∧ x * 2 ^ r < 4294967296 ∧ w = w' := by
  obtain ⟨b1, b2, b3⟩ := Lib.bitLenAux_bounds 64 x (by omega) (by omega)
  have b4 := Lib.bitLen_le x 32 (by omega) h1
  have hb : Lib.bitLenAux 64 x = Lib.bitLen x := rfl
  rw [hb] at b1 b2 b3
  have e2 : ((x : Int).toNat) = x := by omega
  have HC := fun w => Len32_any w (x : Int) (by omega) (by omega)
  rw [e2] at HC
  generalize Lib.bitLen x = l at b1 b2 b3 b4 HC
  have p : 2 ^ (l - 1) * 2 ^ (32 - l) = 2147483648 := by rw [← Nat.pow_add, show l - 1 + (32 - l) = 31 by omega]
  have q : 2 ^ l * 2 ^ (32 - l) = 4294967296 := by rw [← Nat.pow_add, show l + (32 - l) = 32 by omega]
  have c1 := Nat.mul_le_mul_right (2 ^ (32 - l)) b2
  have c2 := Nat.mul_lt_mul_of_pos_right b3 (show 0 < 2 ^ (32 - l) from Nat.pow_pos (by decide))
  rw [p] at c1
  rw [q] at c2
  have C1 := Lib.hid c1
  have C2 := Lib.hid c2
  clear b2 b3 p q c1 c2 hb e2
  go_enter Tryd.func76, Tryd.ntmps76
  go_wp2_with fail
  refine (HC _).mono ?_
  rintro e w1 ⟨rfl, rfl⟩
  clear HC
  go_wp2_with fail
  go_ret
  refine ⟨32 - l, by omega, ?_, C1.out, C2.out, rfl⟩
  rw [show ((32 - l : Nat) : Int) = 32 - (l : Int) by omega]
  rfl

end Go.Proofs.YtdaajeklnhbhjaaDoor
