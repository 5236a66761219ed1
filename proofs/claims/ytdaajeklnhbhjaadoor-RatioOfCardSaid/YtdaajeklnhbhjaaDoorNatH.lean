/- shifted, guess. No condition. -/
import Derived.Test.YtdaajeklnhbhjaaDoorNatF
import Derived.RegionTactic
namespace Go.Proofs.YtdaajeklnhbhjaaDoor
open Go.RowKit Go.Suf
set_option linter.unusedVariables false
set_option linter.unusedSimpArgs false

/-- A new block, known whole. -/
def RetBlk (w : World) (n : Nat) (V : Nat) : Ending → World → Prop := fun e w' =>
  ∃ out, e = .returned (.slice (some ⟨w.heap.size, 0, none⟩) n n) ∧ out.length = n ∧ Blk .u32 47 w' w.heap.size out ∧ val out = V ∧ Below w.heap.size w w'

/-- Down to index k the limbs are shifted. -/
structure Shd (xs out : List Nat) (s k : Nat) : Prop where
  len : out.length = xs.length + 1
  low : ∀ j, j < k → nth out j = nth xs j
  high : ∀ j, k ≤ j → j ≤ xs.length → nth out j = shlAt xs s j

theorem Shd.start (xs : List Nat) (s : Nat) : Shd xs (xs ++ [0]) s (xs.length + 1) := by
  refine ⟨by simp, fun j hj => ?_, fun j h1 h2 => by omega⟩
  by_cases h : j < xs.length
  · simp [nth, List.getElem?_append_left h]
  · obtain rfl : j = xs.length := by omega
    simp [nth]

theorem Shd.step {xs out : List Nat} {s j : Nat} (h : Shd xs out s (j + 1)) (hj : j ≤ xs.length) : Shd xs (out.set j (shlAt xs s j)) s j := by
  have hl := h.len
  refine ⟨by simp [hl], fun i hi => ?_, fun i h1 h2 => ?_⟩
  · rw [nth_set_ne (by omega)]
    exact h.low i (by omega)
  · by_cases e : j = i
    · subst e
      exact nth_set_same (by omega) _
    · rw [nth_set_ne e]
      exact h.high i (by omega) h2

theorem pow_le31 {r : Nat} (hr : r ≤ 31) : 2 ^ r ≤ 2147483648 := Nat.pow_le_pow_right (by decide) hr

theorem shl_or {x y r : Nat} (hy : y < 4294967296) (hr : r ≤ 31) : bits .or .u32 (((x : Int) * 2 ^ r) % 4294967296) (IntKind.u64.wrap ((y : Int) * 2 ^ r) / 4294967296 % 4294967296) = (((x * 2 ^ r) % 4294967296 + y * 2 ^ r / 4294967296 : Nat) : Int) := by
  have hp := pow_le31 hr
  have hsB : 4294967296 = 2 ^ r * 2 ^ (32 - r) := by rw [← Nat.pow_add, show r + (32 - r) = 32 by omega]
  have h1 : ((x : Int) * 2 ^ r) % 4294967296 = (((x * 2 ^ r) % 4294967296 : Nat) : Int) := by
    rw [Int.natCast_emod, Int.natCast_mul, Int.natCast_pow]
    rfl
  have hlt : y * 2 ^ r ≤ 4294967295 * 2147483648 := Nat.mul_le_mul (by omega) hp
  have hC : y * 2 ^ r / 4294967296 < 2 ^ r := by
    rw [Nat.div_lt_iff_lt_mul (by decide), Nat.mul_comm]
    exact Nat.mul_lt_mul_of_pos_left hy (Nat.pow_pos (by decide))
  have h2 : IntKind.u64.wrap ((y : Int) * 2 ^ r) / 4294967296 % 4294967296 = ((y * 2 ^ r / 4294967296 : Nat) : Int) := by
    have e : (y : Int) * 2 ^ r = ((y * 2 ^ r : Nat) : Int) := by
      rw [Int.natCast_mul, Int.natCast_pow]
      rfl
    rw [e, IntKind.wrap_u64]
    generalize y * 2 ^ r = z at hlt ⊢
    omega
  rw [h1, h2, u32_or_nat _ _ (Nat.mod_lt _ (by decide)) (by omega), nat_join r _ _ ?_ hC]
  have : x * 2 ^ r % 4294967296 = (x % 2 ^ (32 - r)) * 2 ^ r := by
    conv => lhs; rw [hsB, Nat.mul_comm (2 ^ r) (2 ^ (32 - r))]
    rw [Nat.mul_mod_mul_right]
  rw [this, Nat.mul_mod_left]

set_option maxHeartbeats 1000000 in
theorem shifted_any (w : World) {a : Option Addr} {n cap : Nat} {xs : List Nat} (h : Rd .u32 w a n cap xs) (hn : n ≤ 100000) (r : Nat) (hr : r ≤ 31) :
    Calls Tryd.prog 77 #[.slice a n cap, .int .i64 (r : Nat)] w (RetBlk w (n + 1) (val xs * 2 ^ r)) := by
  have HL := Lib.hid h.len
  have hsm := Lib.hid (show small32 xs from h.bd)
  have hsB : 4294967296 = 2 ^ r * 2 ^ (32 - r) := by rw [← Nat.pow_add, show r + (32 - r) = 32 by omega]
  have HSB := Lib.hid hsB
  clear hsB
  have mk : ∀ w, (Instr.makeSlice 22 (.int .i64 ((n : Int) + 1)) (.int .i64 ((n : Int) + 1))).run Tryd.prog w = .ok (.slice (some ⟨w.heap.size, 0, none⟩) (n + 1) (n + 1)) (w.alloc (.cells (zeros .u32 (n + 1)) 47)) := fun w => run_zeros etN (n + 1) (by omega) (by omega) w
  have HB0 := Blk.made .u32 47 w (n + 1)
  have hb0 : Below w.heap.size w (w.alloc (.cells (zeros .u32 (n + 1)) 47)) := (Below.refl _ _).alloc (Nat.le_refl _) _
  go_enter Tryd.func77, Tryd.ntmps77
  go_wp2_with (with_reducible refine wpList_copyB rfl _ _ _ _ rfl etN HB0 (zs_length _) (h.below hb0) (by omega) rfl rfl ?_; intro w1 hB1 hg1)
  have hz : xs ++ (zs (n + 1)).drop n = xs ++ [0] := by
    simp [zs, List.drop_replicate]
  rw [hz] at hB1
  have hb1 := Lib.hid (hb0.grown hg1 hb0.size (fun q hq => by simp at hq; omega))
  clear hz hg1
  go_wp2_with fail
  go_loopw [6] (fun i wr => ∃ (k : Nat) (out : List Nat), k ≤ n + 1 ∧ i = .int .i64 ((k : Int) - 1) ∧ Hid (Shd xs out (2 ^ r) k) ∧ Blk .u32 47 wr w.heap.size out ∧ Hid (Below w.heap.size w wr)) (fun i _ => (intOf i + 1).toNat)
  case atStart => exact ⟨n + 1, xs ++ [0], Nat.le_refl _, by go_num, Lib.hid (by have := Shd.start xs (2 ^ r); rwa [HL.out] at this), hB1, hb1⟩
  case round =>
    obtain ⟨k, out, hk, hi, hS, hB, hb⟩ := hrel
    by_cases h0 : 0 < k
    · obtain ⟨j, rfl⟩ : ∃ j, k = j + 1 := ⟨k - 1, by omega⟩
      subst hi
      have hi2 : (((j + 1 : Nat) : Int) - 1) = (j : Int) := by omega
      rw [hi2]
      clear hi2
      have hlen := hS.out.len
      have hcell := hB.cell j (by have := HL.out; omega)
      have hfree := hB.free j
      have hlow := hS.out.low j (by omega)
      rw [hlow] at hcell
      have b1 := small32_nth hsm.out j
      have HLn := Lib.hid hlen
      have HS := Lib.hid (hS.out.step (show j ≤ xs.length by have := HL.out; omega))
      clear hlow hlen
      by_cases hj : 0 < j
      · have hv1 : ((nth xs j : Int) * 2 ^ r) % 4294967296 = (((nth xs j * 2 ^ r) % 4294967296 : Nat) : Int) := by
          rw [Int.natCast_emod, Int.natCast_mul, Int.natCast_pow]
          rfl
        have HV1 := Lib.hid hv1
        clear hv1
        have hg1 := Lib.hid (grownBy_set wr ⟨w.heap.size, j, none⟩ (.int .u32 (((nth xs j : Int) * 2 ^ r) % 4294967296)))
        have hB1 : Hid (Blk .u32 47 (wr.setCell ⟨w.heap.size, j, none⟩ (.int .u32 (((nth xs j : Int) * 2 ^ r) % 4294967296))) w.heap.size (out.set j ((nth xs j * 2 ^ r) % 4294967296))) := by
          rw [HV1.out]
          exact Lib.hid (hB.set j _ (Nat.mod_lt _ (by decide)))
        go_wp2_with fail
        generalize wr.setCell ⟨w.heap.size, j, none⟩ (.int .u32 (((nth xs j : Int) * 2 ^ r) % 4294967296)) = w1 at hB1 hg1 ⊢
        rw [HV1.out]
        have hc1 := hB1.out.cell j (by have := HLn.out; have := HL.out; simp; omega)
        rw [nth_set_same (by have := HLn.out; have := HL.out; omega)] at hc1
        have hc2 := hB1.out.cell (j - 1) (by have := HLn.out; have := HL.out; simp; omega)
        rw [nth_set_ne (by omega), hS.out.low (j - 1) (by omega)] at hc2
        have hf1 := hB1.out.free j
        have hj2 : ((j : Int) - 1) = ((j - 1 : Nat) : Int) := by omega
        have b2 := small32_nth hsm.out (j - 1)
        clear hcell hfree
        have hvo : bits .or .u32 (((nth xs j : Int) * 2 ^ r) % 4294967296) (IntKind.u64.wrap ((nth xs (j - 1) : Int) * 2 ^ r) / 4294967296 % 4294967296) = ((shlAt xs (2 ^ r) j : Nat) : Int) := by
          rw [shl_or b2 hr, shlAt, if_neg (by omega)]
        have HBn : Hid (Blk .u32 47 (w1.setCell ⟨w.heap.size, j, none⟩ (.int .u32 (bits .or .u32 (((nth xs j : Int) * 2 ^ r) % 4294967296) (IntKind.u64.wrap ((nth xs (j - 1) : Int) * 2 ^ r) / 4294967296 % 4294967296)))) w.heap.size (out.set j (shlAt xs (2 ^ r) j))) := by
          rw [hvo]
          have := hB1.out.set j (shlAt xs (2 ^ r) j) (shlAt_lt hsm.out HSB.out j)
          rw [List.set_set] at this
          exact Lib.hid this
        have hb2 := Lib.hid ((hb.out.grown hg1.out hb.out.size (fun q hq => by simp at hq; omega)).setCell (p := ⟨w.heap.size, j, none⟩) (Nat.le_refl _) (.int .u32 (bits .or .u32 (((nth xs j : Int) * 2 ^ r) % 4294967296) (IntKind.u64.wrap ((nth xs (j - 1) : Int) * 2 ^ r) / 4294967296 % 4294967296))))
        clear hvo
        go_region
        go_wp2
        go_roundw
        case rel => exact ⟨j, _, by omega, by go_num, HS, ⟨HBn.out.blk, HBn.out.bd⟩, Lib.hid hb2.out.drew⟩
        case measure => simp [intOf]; omega
      · obtain rfl : j = 0 := by omega
        rw [Nat.zero_add] at *
        have hv : ((nth xs 0 : Int) * 2 ^ r) % 4294967296 = ((shlAt xs (2 ^ r) 0 : Nat) : Int) := by
          simp only [shlAt, if_true, Nat.add_zero]
          rw [Int.natCast_emod, Int.natCast_mul, Int.natCast_pow]
          rfl
        have HBn : Hid (Blk .u32 47 (wr.setCell ⟨w.heap.size, 0, none⟩ (.int .u32 (((nth xs 0 : Int) * 2 ^ r) % 4294967296))) w.heap.size (out.set 0 (shlAt xs (2 ^ r) 0))) := by
          rw [hv]
          exact Lib.hid (hB.set 0 _ (shlAt_lt hsm.out HSB.out 0))
        have hb2 := Lib.hid (hb.out.setCell (p := ⟨w.heap.size, 0, none⟩) (Nat.le_refl _) (.int .u32 (((nth xs 0 : Int) * 2 ^ r) % 4294967296)))
        clear hv
        go_wp2_with fail
        go_roundw
        case rel => exact ⟨0, _, by omega, by go_num, HS, HBn.out, hb2⟩
        case measure => simp [intOf]
    · obtain rfl : k = 0 := by omega
      subst hi
      have hv := Lib.hid (shl_val (s := 2 ^ r) hS.out.len (fun i hi => hS.out.high i (Nat.zero_le _) hi))
      have hlen := Lib.hid hS.out.len
      go_wp2_with fail
      go_ret
      exact ⟨out, rfl, by rw [hlen.out, HL.out], hB, hv.out, hb.out⟩

/-- A digit of the quotient, at most one too great. -/
def RetG (w : World) (P V : Nat) : Ending → World → Prop := fun e w' =>
  ∃ q : Nat, e = .returned (.int .u64 (q : Nat)) ∧ q < 4294967296 ∧ (q - 1) * V ≤ P ∧ P < (q + 1) * V ∧ ∃ nq, w' = w.drewN nq

theorem shlor32 {a b : Nat} (ha : a < 4294967296) (hb : b < 4294967296) : bits .or .u64 ((a : Int) * 4294967296) (b : Int) = ((a * 4294967296 + b : Nat) : Int) := by
  have := u64_or_nat (a * 4294967296) b (by omega) (by omega)
  rw [nat_join 32 _ _ (by omega) hb, Int.natCast_mul] at this
  exact this

set_option maxHeartbeats 1000000 in
theorem guess_any (w : World) {a b : Option Addr} {n m cap cap' : Nat} {us ys : List Nat} (h : Rd .u32 w a n cap us) (h' : Rd .u32 w b m cap' ys) (hn : n = m + 1) (hm : 2 ≤ m) (hm2 : m ≤ 100000) (hbig : 2147483648 ≤ nth ys (m - 1)) (hlt : val us < 4294967296 * val ys) :
    Calls Tryd.prog 78 #[.slice a n cap, .slice b m cap'] w (RetG w (val us) (val ys)) := by
  obtain ⟨t, rfl⟩ : ∃ t, m = t + 2 := ⟨m - 2, by omega⟩
  subst hn
  have G := Gue.mk' (n := t) h.len h'.len h.bd h'.bd hbig hlt
  obtain ⟨p, o, rfl, hc⟩ := h.addr (by omega)
  obtain ⟨p', o', rfl, hc'⟩ := h'.addr (by omega)
  have c0 := hc (t + 2) (by omega)
  have c1 := hc (t + 1) (by omega)
  have c2 := hc t (by omega)
  have d1 := hc' (t + 1) (by omega)
  have d2 := hc' t (by omega)
  have b0 := small32_nth (show small32 us from h.bd) (t + 2)
  have b1 := small32_nth (show small32 us from h.bd) (t + 1)
  clear hc hc' hbig hlt
  obtain ⟨u0, hu0⟩ : ∃ u, u = nth us (t + 2) := ⟨_, rfl⟩
  obtain ⟨u1, hu1⟩ : ∃ u, u = nth us (t + 1) := ⟨_, rfl⟩
  obtain ⟨u2, hu2⟩ : ∃ u, u = nth us t := ⟨_, rfl⟩
  obtain ⟨v1, hv1⟩ : ∃ u, u = nth ys (t + 1) := ⟨_, rfl⟩
  obtain ⟨v2, hv2⟩ : ∃ u, u = nth ys t := ⟨_, rfl⟩
  obtain ⟨U, hU⟩ : ∃ u, u = val us := ⟨_, rfl⟩
  obtain ⟨V, hV⟩ : ∃ u, u = val ys := ⟨_, rfl⟩
  rw [← hu0] at G c0 b0
  rw [← hu1] at G c1 b1
  rw [← hu2] at G c2
  rw [← hv1] at G d1
  rw [← hv2] at G d2
  rw [← hU, ← hV] at G ⊢
  clear hu0 hu1 hu2 hv1 hv2 hU hV h h'
  have ho := shlor32 b0 b1
  obtain ⟨T, hT⟩ : ∃ T, T = u0 * 4294967296 + u1 := ⟨_, rfl⟩
  rw [← hT] at ho G
  have hTl : T < 18446744073709551616 := by omega
  have htop := Lib.hid G.top_le
  have hstart := Lib.hid G.start
  have g1 := G.big
  have g2 := G.v1
  have g3 := G.u2
  have g4 := G.v2
  have GG := Lib.hid G
  clear G hT
  have hd1 := Lib.hid (Nat.div_add_mod T v1)
  have hd2 := Nat.mod_lt T (show 0 < v1 by omega)
  have hd3 : T / v1 < 4294967298 := by
    rw [Nat.div_lt_iff_lt_mul (by omega)]
    have := htop.out
    omega
  obtain ⟨q0, hq0⟩ : ∃ q, q = T / v1 := ⟨_, rfl⟩
  obtain ⟨r0, hr0⟩ : ∃ q, q = T % v1 := ⟨_, rfl⟩
  rw [← hq0, ← hr0] at hd1
  rw [← hq0] at hstart hd3
  rw [← hr0] at hd2
  have hvz : (v1 : Int) ≠ 0 := by omega
  have hdv : (T : Int) / (v1 : Int) = (q0 : Int) := by rw [hq0]; exact (Int.natCast_ediv T v1).symm
  have hmv : (T : Int) % (v1 : Int) = (r0 : Int) := by rw [hr0]; exact (Int.natCast_emod T v1).symm
  have hi1 : ((t : Int) + 2 - 1) = ((t + 1 : Nat) : Int) := by omega
  have hi2 : ((t : Int) + 2 - 2) = (t : Int) := by omega
  clear hq0 hr0
  go_enter Tryd.func78, Tryd.ntmps78
  go_wp2_with fail
  go_quiet (fail)
  go_wp2_with fail
  go_quiet (fail)
  go_wp2_with fail
  rw [hmv]
  clear hmv hdv ho c0 c1 hTl
  have HX := Lib.hid hd1.out
  go_loopw [7, 8] (fun x y wr => ∃ q r nq : Nat, x = .int .u64 (q : Nat) ∧ y = .int .u64 (r : Nat) ∧ wr = w.drewN nq ∧ q < 4294967298 ∧ r < 4294967296 ∧ Hid (q * v1 + r = T) ∧ Hid (U < (q + 1) * V)) (fun x _ _ => (intOf x).toNat)
  case atStart => exact ⟨q0, r0, _, rfl, rfl, World.drewN_drewN _ _ _, hd3, by omega, Lib.hid (by rw [Nat.mul_comm]; exact HX.out), hstart⟩
  case round =>
    obtain ⟨q, r, nq', rfl, rfl, rfl, hq, hr, hE, hP⟩ := hrel
    by_cases ht : 4294967296 ≤ q ∨ r * 4294967296 + u2 < q * v2
    · have hdn := GG.out.down hE.out ht
      obtain ⟨k, rfl⟩ : ∃ k, q = k + 1 := ⟨q - 1, by
        rcases Nat.eq_zero_or_pos q with h | h
        · subst h; omega
        · omega⟩
      have HP := Lib.hid hdn
      have hE2 := Lib.hid (show k * v1 + (r + v1) = T by have := hE.out; rw [Nat.add_mul] at this; omega)
      clear hdn
      have hk1 : (((k + 1 : Nat) : Int) - 1) = (k : Int) := by omega
      have hbrk : 4294967296 ≤ r + v1 → k < 4294967296 := by
        intro hb
        rcases Nat.lt_or_ge k 4294967296 with h | h
        · exact h
        · have a := htop.out
          have b := hE2.out
          have c := Nat.mul_le_mul_right v1 h
          omega
      have hup : Hid (4294967296 ≤ r + v1 → (k - 1) * V ≤ U) := Lib.hid fun hb => GG.out.up hE2.out (hbrk hb) (by
        have := mul_lt_sq (hbrk hb) g4
        omega)
      by_cases hge : 4294967296 ≤ k + 1
      · have hs : (((k : Int) + 1) / 4294967296 != 0) = true := by rw [bne_iff_ne]; omega
        by_cases hb : 4294967296 ≤ r + v1
        · have hs2 : (((r : Int) + (v1 : Int)) / 4294967296 != 0) = true := by rw [bne_iff_ne]; omega
          go_wp2_with fail
          go_quiet (fail)
          go_wp2_with fail
          go_ret
          exact ⟨k, rfl, hbrk hb, hup.out hb, HP.out, _, rfl⟩
        · have hs2 : (((r : Int) + (v1 : Int)) / 4294967296 != 0) = false := by rw [bne_eq_false_iff_eq]; omega
          go_wp2_with fail
          go_quiet (fail)
          go_wp2_with fail
          go_roundw
          case rel => exact ⟨k, r + v1, _, rfl, by go_num, rfl, by omega, by omega, hE2, HP⟩
          case measure => simp [intOf]
      · have hs : (((k : Int) + 1) / 4294967296 != 0) = false := by rw [bne_eq_false_iff_eq]; omega
        have ht2 : r * 4294967296 + u2 < (k + 1) * v2 := by omega
        have hml := mul_lt_sq (show k + 1 < 4294967296 by omega) g4
        have ho := shlor32 hr g3
        obtain ⟨M, hM⟩ : ∃ M, M = (k + 1) * v2 := ⟨_, rfl⟩
        obtain ⟨S, hS⟩ : ∃ S, S = r * 4294967296 + u2 := ⟨_, rfl⟩
        have hM2 : ((k : Int) + 1) * (v2 : Int) = (M : Int) := by rw [hM, Int.natCast_mul]; rfl
        rw [← hS] at ho ht2
        rw [← hM] at hml ht2
        have hSl : S < 18446744073709551616 := by omega
        clear hS hM ht
        by_cases hb : 4294967296 ≤ r + v1
        · have hs2 : (((r : Int) + (v1 : Int)) / 4294967296 != 0) = true := by rw [bne_iff_ne]; omega
          go_wp2_with fail
          go_quiet (fail)
          go_wp2_with fail
          go_ret
          exact ⟨k, rfl, hbrk hb, hup.out hb, HP.out, _, rfl⟩
        · have hs2 : (((r : Int) + (v1 : Int)) / 4294967296 != 0) = false := by rw [bne_eq_false_iff_eq]; omega
          go_wp2_with fail
          go_quiet (fail)
          go_wp2_with fail
          go_roundw
          case rel => exact ⟨k, r + v1, _, rfl, by go_num, rfl, by omega, by omega, hE2, HP⟩
          case measure => simp [intOf]
    · have hs : ((q : Int) / 4294967296 != 0) = false := by rw [bne_eq_false_iff_eq]; omega
      have ht2 : q * v2 ≤ r * 4294967296 + u2 := by omega
      have hq4 : q < 4294967296 := by omega
      have hup := Lib.hid (GG.out.up hE.out hq4 ht2)
      have hml := mul_lt_sq hq4 g4
      have ho := shlor32 hr g3
      obtain ⟨M, hM⟩ : ∃ M, M = q * v2 := ⟨_, rfl⟩
      obtain ⟨S, hS⟩ : ∃ S, S = r * 4294967296 + u2 := ⟨_, rfl⟩
      have hM2 : (q : Int) * (v2 : Int) = (M : Int) := by rw [hM, Int.natCast_mul]
      rw [← hS] at ho ht2
      rw [← hM] at hml ht2
      have hSl : S < 18446744073709551616 := by omega
      have hd : decide ((S : Int) < (M : Int)) = false := by simp; omega
      clear hS hM ht
      go_wp2_with fail
      go_quiet (fail)
      go_wp2_with fail
      go_ret
      exact ⟨q, rfl, hq4, hup.out, hP.out, _, World.drewN_drewN _ _ _⟩

end Go.Proofs.YtdaajeklnhbhjaaDoor
