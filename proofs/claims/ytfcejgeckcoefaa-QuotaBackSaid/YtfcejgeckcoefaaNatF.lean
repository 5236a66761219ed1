/- Of, Word, slices.Clone, Div32, small. No condition. -/
import Derived.Test.YtfcejgeckcoefaaNatE
import Derived.Lib.LazyBuf
namespace Go.Proofs.Ytfcejgeckcoefaa
open Go.RowKit Go.Suf
set_option linter.unusedVariables false
set_option linter.unusedSimpArgs false

set_option maxHeartbeats 400000 in
theorem Clone_any (w : World) {a : Option Addr} {n cap : Nat} {xs : List Nat} (h : Rd .u32 w a n cap xs) (hn : n ≤ 1099511627776) :
    Calls Try.prog 87 #[.slice a n cap] w (RetL w xs) := by
  have hl := Lib.hid h.len
  have heq := fun (w : World) => Lib.run_eql_slice_nil (P := Try.prog) w
  cases a with
  | none =>
    have hc := h.sl.nil rfl
    subst hc
    have hn : n = 0 := by have := h.le; omega
    subst hn
    have hx : xs = [] := List.eq_nil_of_length_eq_zero h.len
    subst hx
    go_enter Try.func87, Try.ntmps87
    go_wp2
    go_ret
    exact ⟨none, 0, 0, rfl, Rd.nil _ _, Below.refl _ _⟩
  | some ad =>
    go_enter Try.func87, Try.ntmps87
    go_wp2_with (at_builtin; refine wpList_app rfl _ _ 25 rfl etN w.heap.size rfl (World.ownsRow_made w #[] 0 (Nat.le_refl _) (by decide) rfl) rfl (by simpa using h.len) (h.sl.below ((Below.refl _ w).alloc (Nat.le_refl _) _)) (by unfold maxLen; omega) (by omega) (by simp) ?_; intro a' cap' w' hown hg hb)
    go_ret
    exact ⟨a', n, cap', by simp, (⟨h.len, by simpa using hown, h.bd⟩ : Ow .u32 56 w.heap.size w' a' n cap' xs).rd, ((Below.refl _ w).alloc (Nat.le_refl _) _).trans hb⟩

theorem val_two (n : Nat) (hn : n < 18446744073709551616) : val [n % 4294967296, n / 4294967296] = n := by
  simp only [val]
  omega

theorem Of_any (w : World) (n : Nat) (hn : n < 18446744073709551616) :
    Calls Try.prog 57 #[.int .u64 (n : Nat)] w (RetL w (limbs n)) := by
  have HV := Lib.hid (val_two n hn)
  have hr := rd_lit .u32 w [n % 4294967296, n / 4294967296] 56 2 rfl (by decide) (by
    intro x hx
    simp at hx
    rcases hx with rfl | rfl
    · exact Nat.mod_lt _ (by decide)
    · show _ < 4294967296
      omega)
  have HN := Lib.hid hn
  clear hn
  have h1 : (n : Int) / 4294967296 < 4294967296 := by have := HN.out; omega
  go_enter Try.func57, Try.ntmps57
  go_wp2_with fail
  refine (trim_any _ hr).mono ?_
  rintro e w1 ⟨a', m', rfl, hr', rfl⟩
  rw [HV.out] at hr'
  go_wp2_with fail
  go_ret
  exact ⟨a', m', m', rfl, hr', (Below.refl _ _).alloc (Nat.le_refl _) _⟩

def wordC (xs : List Nat) : Nat × Int := if chk xs = 0 then (if 2 < xs.length then (0, 30) else (val xs, 0)) else (0, chk xs)

def RetW (w : World) (r : Nat × Int) : Ending → World → Prop := fun e w' => e = .returned (.tuple #[.int .u64 (r.1 : Nat), .int .i64 r.2]) ∧ w = w'

set_option maxHeartbeats 400000 in
theorem Word_any (w : World) {a : Option Addr} {n cap : Nat} {xs : List Nat} (h : Rd .u32 w a n cap xs) :
    Calls Try.prog 75 #[.slice a n cap] w (RetW w (wordC xs)) := by
  have hn := h.lt
  have HL := Lib.hid h.len
  obtain ⟨r, hr0⟩ : ∃ r, r = wordC xs := ⟨_, rfl⟩
  rw [← hr0]
  have HR := Lib.hid hr0
  clear hr0
  go_enter Try.func75, Try.ntmps75
  go_wp2_with fail
  refine (Check_any _ h).mono ?_
  rintro e w1 ⟨rfl, rfl⟩
  by_cases hz : chk xs = 0
  · have HZ := Lib.hid hz
    rw [hz]
    clear hz
    by_cases h2 : 2 < n
    · have e1 := Lib.hid (show r = (0, 30) by rw [HR.out, wordC, if_pos HZ.out, HL.out, if_pos h2])
      go_wp2_with fail
      go_ret2
      rw [e1.out]
      exact ⟨rfl, rfl⟩
    · have e1 := Lib.hid (show r = (val xs, 0) by rw [HR.out, wordC, if_pos HZ.out, HL.out, if_neg h2])
      go_wp2_with fail
      go_loop [2, 16] (fun v i => ∃ k, k ≤ n ∧ i = .int .i64 (k : Nat) ∧ v = .int .u64 (val (xs.take k) : Nat)) (fun _ i => n - (intOf i).toNat)
      case atStart => exact ⟨0, Nat.zero_le _, rfl, rfl⟩
      case round =>
        obtain ⟨k, hk, rfl, rfl⟩ := hrel
        by_cases hlt : k < n
        · obtain ⟨p, off, rfl, hc, _⟩ := h.cell k hlt
          have hs := Lib.hid (val_take_succ xs k)
          have b1 := small32_nth (show small32 xs from h.bd) k
          have b2 := val_lt' (small32_take (show small32 xs from h.bd) k)
          rw [List.length_take, HL.out, Nat.min_eq_left hk] at b2
          have hk01 : k = 0 ∨ k = 1 := by omega
          rcases hk01 with rfl | rfl
          · rw [Nat.add_zero] at hc
            have e0 : val (xs.take 0) = 0 := rfl
            rw [e0]
            clear e0
            have ho : bits .or .u32 0 (nth xs 0 : Int) = (nth xs 0 : Int) := by
              have := u32_or_nat 0 (nth xs 0) (by decide) b1
              rwa [Nat.zero_or] at this
            have HO := Lib.hid ho
            have ho2 : bits .or .u64 0 (nth xs 0 : Int) = (nth xs 0 : Int) := by
              have := u64_or_nat 0 (nth xs 0) (by decide) (by omega)
              rwa [Nat.zero_or] at this
            have HO2 := Lib.hid ho2
            clear ho ho2
            go_wp2_with fail
            go_round
            case rel => exact ⟨1, by omega, rfl, by rw [hs.out]; simp [val, pw]; first | exact HO.out | exact HO2.out⟩
            case measure => simp [intOf]; omega
          · have ho : bits .or .u64 (val (xs.take 1) : Int) ((nth xs 1 : Int) * 4294967296) = ((val (xs.take 1) + pw 1 * nth xs 1 : Nat) : Int) := by
              have := u64_or_nat (val (xs.take 1)) (nth xs 1 * 4294967296) (by simp only [pw] at b2; omega) (by omega)
              rw [Nat.or_comm, nat_join 32 _ _ (by omega) (by simpa [pw] using b2)] at this
              rw [Int.natCast_mul] at this
              rw [show val (xs.take 1) + pw 1 * nth xs 1 = nth xs 1 * 4294967296 + val (xs.take 1) by simp only [pw]; omega]
              exact this
            have HO := Lib.hid ho
            clear ho
            go_wp2_with fail
            go_round
            case rel => exact ⟨2, by omega, rfl, by rw [hs.out, HO.out]⟩
            case measure => simp [intOf]; omega
        · obtain rfl : k = n := by omega
          have hv := Lib.hid (show xs.take k = xs by rw [List.take_of_length_le (by have := HL.out; omega)])
          go_wp2_with fail
          go_ret2
          rw [e1.out, hv.out]
          exact ⟨rfl, rfl⟩
  · have e1 := Lib.hid (show r = (0, chk xs) by rw [HR.out, wordC, if_neg hz])
    go_wp2_with fail
    go_ret2
    rw [e1.out]
    exact ⟨rfl, rfl⟩

set_option maxHeartbeats 400000 in
theorem Div32_any (w : World) (hi lo y : Nat) (h1 : hi < y) (h2 : lo < 4294967296) (h3 : y < 4294967296) :
    Calls Try.prog 95 #[.int .u32 (hi : Nat), .int .u32 (lo : Nat), .int .u32 (y : Nat)] w fun e w' => e = .returned (.tuple #[.int .u32 (((hi * 4294967296 + lo) / y : Nat) : Int), .int .u32 (((hi * 4294967296 + lo) % y : Nat) : Int)]) ∧ ∃ nq, w' = w.drewN nq := by
  have ho : bits .or .u64 ((hi : Int) * 4294967296) (lo : Int) = ((hi * 4294967296 + lo : Nat) : Int) := by
    have := u64_or_nat (hi * 4294967296) lo (by omega) (by omega)
    rw [nat_join 32 _ _ (by omega) h2, Int.natCast_mul] at this
    exact this
  have hq : (hi * 4294967296 + lo) / y < 4294967296 := by
    rw [Nat.div_lt_iff_lt_mul (by omega)]
    have := Nat.mul_le_mul_right 4294967296 (show hi + 1 ≤ y by omega)
    rw [Nat.mul_comm 4294967296 y]
    omega
  have hr := Nat.mod_lt (hi * 4294967296 + lo) (show 0 < y by omega)
  obtain ⟨v, hv⟩ : ∃ v, v = hi * 4294967296 + lo := ⟨_, rfl⟩
  rw [← hv] at ho hq hr ⊢
  have hvl : v < 18446744073709551616 := by omega
  have HV := Lib.hid hv
  clear hv
  have hy : ((y : Int) != 0) = true := by rw [bne_iff_ne]; omega
  have hy2 : (y : Int) ≠ 0 := by omega
  have hd : decide ((y : Int) ≤ (hi : Int)) = false := by simp; omega
  have hd' : decide (y ≤ hi) = false := by simp; omega
  go_enter Try.func95, Try.ntmps95
  go_wp2_with fail
  go_quiet (fail)
  go_wp2_with fail
  go_ret2
  refine ⟨?_, nq, rfl⟩
  show Ending.returned (.tuple #[.int .u32 (IntKind.u64.wrap ((v : Int) / (y : Int)) % 4294967296), .int .u32 ((v : Int) % (y : Int))]) = _
  rw [IntKind.wrap_u64, ← Int.natCast_ediv, ← Int.natCast_emod]
  have e : ((v / y : Nat) : Int) % 18446744073709551616 % 4294967296 = ((v / y : Nat) : Int) := by
    generalize v / y = q at hq
    omega
  rw [e]

def RetLR (w : World) (r : List Nat) (d : Nat) : Ending → World → Prop := fun e w' =>
  ∃ a m c, e = .returned (.tuple #[.slice a m c, .int .u32 (d : Nat)]) ∧ Rd .u32 w' a m c r ∧ Below w.heap.size w w' ∧ Ty w' a 56

set_option maxHeartbeats 1000000 in
theorem small_any (w : World) {a : Option Addr} {n cap : Nat} {xs : List Nat} (h : Rd .u32 w a n cap xs) (hn : n ≤ 100000) (N : Nat) (h0 : 0 < N) (hN : N < 4294967296) :
    Calls Try.prog 93 #[.slice a n cap, .int .u32 (N : Nat)] w (RetLR w (limbs (val xs / N)) (val xs % N)) := by
  have HL := Lib.hid h.len
  obtain ⟨r, hr0⟩ : ∃ r, r = limbs (val xs / N) := ⟨_, rfl⟩
  obtain ⟨d, hd0⟩ : ∃ d, d = val xs % N := ⟨_, rfl⟩
  rw [← hr0, ← hd0]
  have HR := Lib.hid hr0
  have HD := Lib.hid hd0
  clear hr0 hd0
  have mk : ∀ w, (Instr.makeSlice 25 (.int .i64 (n : Int)) (.int .i64 (n : Int))).run Try.prog w = .ok (.slice (some ⟨w.heap.size, 0, none⟩) n n) (w.alloc (.cells (zeros .u32 n) 56)) := fun w => run_zeros etN n (by omega) (by omega) w
  have HB0 := Blk.made .u32 56 w n
  go_enter Try.func93, Try.ntmps93
  go_wp2_with fail
  go_loopw [5, 6] (fun c i wr => ∃ (k cc : Nat) (out : List Nat), k ≤ n ∧ i = .int .i64 ((k : Int) - 1) ∧ c = .int .u32 (cc : Nat) ∧ cc < N ∧ out.length = n ∧ Hid (Sml xs out N k cc) ∧ Blk .u32 56 wr w.heap.size out ∧ Below w.heap.size w wr) (fun _ i _ => (intOf i + 1).toNat)
  case atStart => exact ⟨n, 0, zs n, Nat.le_refl _, rfl, rfl, h0, zs_length _, Lib.hid ⟨by rw [List.drop_eq_nil_of_le (by have := HL.out; omega), List.drop_eq_nil_of_le (by have := zs_length n; omega)]; simp [val], by rw [zs_length, HL.out], HB0.bd, h0⟩, HB0, (Below.refl _ _).alloc (Nat.le_refl _) _⟩
  case round =>
    obtain ⟨k, cc, out, hk, hi, rfl, hcc, hlen, hS, hB, hb⟩ := hrel
    have hrd := h.below hb
    by_cases h0 : 0 < k
    · obtain ⟨j, rfl⟩ : ∃ j, k = j + 1 := ⟨k - 1, by omega⟩
      subst hi
      have hi2 : (((j + 1 : Nat) : Int) - 1) = (j : Int) := by omega
      rw [hi2]
      clear hi2
      obtain ⟨p, off, rfl, hc, _⟩ := hrd.cell j (by omega)
      have hcell := hB.cell j (by omega)
      have hfree := hB.free j
      have hsm : small32 xs := h.bd
      have b1 := small32_nth hsm j
      obtain ⟨s1, s2⟩ := hS.out.step hsm (Nat.le_of_lt hN) (by have := HL.out; omega)
      have HS := Lib.hid s1
      have HLn := Lib.hid hlen
      have HBn := Lib.hid (hB.set j ((cc * 4294967296 + nth xs j) / N) s2)
      have hb2 := hb.setCell (p := ⟨w.heap.size, j, none⟩) (Nat.le_refl _) (.int .u32 (((cc * 4294967296 + nth xs j) / N : Nat) : Int))
      have hr := Lib.hid (Nat.mod_lt (cc * 4294967296 + nth xs j) (show 0 < N by omega))
      clear hlen hsm s1 s2
      go_wp2_with fail
      refine (Div32_any _ _ _ _ hcc b1 hN).mono ?_
      rintro e w1 ⟨rfl, nq, rfl⟩
      go_wp2_with fail
      go_roundw
      case rel => exact ⟨j, _, _, by omega, by go_num, rfl, hr.out, by have := HLn.out; simp [this], HS, ⟨HBn.out.blk, HBn.out.bd⟩, below_drewN hb2 nq⟩
      case measure => simp [intOf]
    · obtain rfl : k = 0 := by omega
      subst hi
      have hv := hS.out.done
      have hR := hB.rd n hlen (by unfold maxLen; omega)
      have e1 := Lib.hid (show r = limbs (val out) by rw [HR.out, hv.1])
      have e2 := Lib.hid (show d = cc by rw [HD.out, hv.2])
      clear hv hlen
      go_wp2_with fail
      refine (trim_at _ hR).mono ?_
      rintro e w1 ⟨m', rfl, hr', _, rfl⟩
      go_wp2_with fail
      go_ret2
      rw [e1.out, e2.out]
      exact ⟨_, m', m', rfl, hr', hb, hB.ty⟩

end Go.Proofs.Ytfcejgeckcoefaa
