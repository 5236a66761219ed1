/- What the functions of layer 1 (octet) and of its reference compute: one contract a function. Conditions: the lengths that the laws allow. -/
import Derived.Test.YtnjkfjecnicccaaRows
import Derived.Test.YtnjkfjecnicccaaBase
import Derived.Test.YtnjkfjecnicccaaOctPlain
namespace Go.Proofs.Ytnjkfjecnicccaa
open Go.RowKit Go.Suf

theorem etB : ET Try.prog 34 5 (.int .u8 0) 1 := ⟨Try.underlying34, by kernel_rfl, rfl⟩

/-- A call that hands back new bytes, and turns nothing that was there. -/
def RetB (w : World) (xs : List Nat) : Ending → World → Prop := fun e w' =>
  ∃ a n cap, e = .returned (.slice a n cap) ∧ Ow .u8 5 w.heap.size w' a n cap xs ∧ Below w.heap.size w w'

set_option maxHeartbeats 400000 in
theorem twin_any (w : World) {a : Option Addr} {n cap : Nat} {xs : List Nat} (h : Rd .u8 w a n cap xs) (hn : n ≤ 1099511627776) :
    Calls Try.prog 65 #[.slice a n cap] w (RetB w xs) := by
  have hl := Lib.hid h.len
  go_enter Try.func65, Try.ntmps65
  go_wp2_with (at_builtin; refine wpList_app rfl _ _ 34 rfl etB w.heap.size rfl (World.ownsRow_nil w w.heap.size 5 1) rfl (by simpa using h.len) h.sl (by unfold maxLen; omega) (by omega) (Nat.le_refl _) ?_; intro a' cap' w' hown hg hb)
  go_ret
  exact ⟨a', _, cap', rfl, ⟨by simpa using h.len, by simpa using hown, h.bd⟩, hb⟩

/-- slices.Clone. -/
def CloneB (w : World) (n : Nat) (xs : List Nat) : Ending → World → Prop := fun e w' =>
  ∃ a' cap', e = .returned (.slice a' n cap') ∧ Ow .u8 5 w.heap.size w' a' n cap' xs ∧ Below w.heap.size w w'

set_option maxHeartbeats 400000 in
theorem clone_any (w : World) {a : Option Addr} {n cap : Nat} {xs : List Nat} (h : Rd .u8 w a n cap xs) (hn : n ≤ 1099511627776) :
    Calls Try.prog 60 #[.slice a n cap] w (CloneB w n xs) := by
  have hl := Lib.hid h.len
  have heq := fun (w : World) => Lib.run_eql_slice_nil (P := Try.prog) w
  cases a with
  | none =>
    have hc := h.sl.nil rfl
    subst hc
    have hn : n = 0 := by have := h.le; omega
    subst hn
    have hx : xs = [] := List.eq_nil_of_length_eq_zero h.len
    subst hx
    go_enter Try.func60, Try.ntmps60
    go_wp2
    go_ret
    exact ⟨none, 0, rfl, Ow.nil _ _ _ _, Below.refl _ _⟩
  | some ad =>
    go_enter Try.func60, Try.ntmps60
    go_wp2_with (at_builtin; refine wpList_app rfl _ _ 34 rfl etB w.heap.size rfl (World.ownsRow_made w #[] 0 (Nat.le_refl _) (by decide) rfl) rfl (by simpa using h.len) (h.sl.below ((Below.refl _ w).alloc (Nat.le_refl _) _)) (by unfold maxLen; omega) (by omega) (by simp) ?_; intro a' cap' w' hown hg hb)
    go_ret
    exact ⟨a', cap', by simp, ⟨h.len, by simpa using hown, h.bd⟩, ((Below.refl _ w).alloc (Nat.le_refl _) _).trans hb⟩

def RetO (base : Nat) (w : World) (xs : List Nat) : Ending → World → Prop := fun e w' =>
  ∃ a n cap, e = .returned (.slice a n cap) ∧ Ow .u8 5 base w' a n cap xs ∧ Below base w w'

set_option maxHeartbeats 1000000 in
theorem put_any (w : World) {base : Nat} {a : Option Addr} {n cap : Nat} {xs : List Nat} (h : Ow .u8 5 base w a n cap xs) (m s : Nat) (hs : s ≤ 8) (hn : n ≤ 1099511627776) (hb : base ≤ w.heap.size) :
    Calls Try.prog 59 #[.slice a n cap, .int .u64 (m : Nat), .int .i64 (s : Nat)] w (RetO base w (xs ++ dig m s)) := by
  have hl := Lib.hid h.len
  go_enter Try.func59, Try.ntmps59
  go_wp2
  go_loopw [0, 9] (fun v i wr => ∃ k a' cap', k ≤ s ∧ i = .int .i64 (k : Nat) ∧ v = .slice a' (n + k) cap' ∧ Ow .u8 5 base wr a' (n + k) cap' (xs ++ (dig m s).take k) ∧ Below base w wr) (fun _ i _ => s - (intOf i).toNat)
  case atStart => exact ⟨0, a, cap, by omega, rfl, rfl, by simpa using h, Below.refl _ _⟩
  case round =>
    obtain ⟨k, a', cap', hk, rfl, rfl, ho, hbl⟩ := hrel
    by_cases hlt : k < s
    · have hsz := hbl.size
      go_wp2_with (at_builtin; refine wpList_app rfl _ _ 34 rfl etB base rfl (ho.own.alloc _) rfl rfl (sl_new wr _ 5 rfl) (by unfold maxLen; omega) (by omega) (by simp; omega) ?_; intro a2 cap2 w2 hown2 hg hb2)
      refine ⟨⟨k + 1, a2, cap2, by omega, by go_num, rfl, ⟨?_, ?_, ?_⟩, (hbl.alloc (Nat.le_trans hb hsz) _).trans hb2⟩, by simp [intOf]; omega⟩
      · have := hl.out; simp [dig_length]; omega
      · rw [dig_take s m k hlt, ← List.append_assoc, nums_append]
        rw [shr_byte] at hown2
        exact hown2
      · rw [dig_take s m k hlt, ← List.append_assoc]
        intro x hx
        rw [List.mem_append] at hx
        rcases hx with hx | hx
        · exact ho.bd x hx
        · simp at hx; subst hx; exact Nat.mod_lt _ (by decide)
    · obtain rfl : k = s := by omega
      go_wp2
      go_ret
      exact ⟨a', n + k, cap', rfl, by rw [List.take_of_length_le (by simp [dig_length])] at ho; exact ho, hbl⟩

/-- New bytes and an error. -/
def RetBE (w : World) (r : List Nat × Int) : Ending → World → Prop := fun e w' =>
  ∃ a n cap, e = .returned (.tuple #[.slice a n cap, .int .i64 r.2]) ∧ Ow .u8 5 w.heap.size w' a n cap r.1 ∧ Below w.heap.size w w'

set_option maxHeartbeats 1000000 in
theorem Take_any (w : World) {a : Option Addr} {n cap : Nat} {xs : List Nat} (h : Rd .u8 w a n cap xs) (i s : Int) (hi1 : -9223372036854775808 ≤ i) (hi2 : i ≤ 9223372036854775807) (hs1 : -9223372036854775808 ≤ s) (hs2 : s ≤ 9223372036854775807) :
    Calls Try.prog 72 #[.slice a n cap, .int .i64 i, .int .i64 s] w fun e w' => e = .returned (.tuple #[.int .u64 ((takeX xs i s).1 : Nat), .int .i64 (takeX xs i s).2.1, .int .i64 (takeX xs i s).2.2]) ∧ w = w' := by
  have hl := h.len
  have hn := h.lt
  by_cases h1 : s < 1 ∨ 8 < s ∨ i < 0 ∨ (n : Int) < i
  · have e : takeX xs i s = (0, 0, 2) := by unfold takeX; rw [hl, if_pos h1]
    rw [e]
    clear e hl
    rcases h1 with h1 | h1 | h1 | h1
    · go_enter Try.func72, Try.ntmps72
      go_wp2
      go_ret3
      exact ⟨rfl, rfl⟩
    · go_enter Try.func72, Try.ntmps72
      go_wp2
      go_ret3
      exact ⟨rfl, rfl⟩
    · by_cases g1 : s < 1
      · go_enter Try.func72, Try.ntmps72
        go_wp2
        go_ret3
        exact ⟨rfl, rfl⟩
      by_cases g2 : 8 < s
      · go_enter Try.func72, Try.ntmps72
        go_wp2
        go_ret3
        exact ⟨rfl, rfl⟩
      go_enter Try.func72, Try.ntmps72
      go_wp2
      go_ret3
      exact ⟨rfl, rfl⟩
    · by_cases g1 : s < 1
      · go_enter Try.func72, Try.ntmps72
        go_wp2
        go_ret3
        exact ⟨rfl, rfl⟩
      by_cases g2 : 8 < s
      · go_enter Try.func72, Try.ntmps72
        go_wp2
        go_ret3
        exact ⟨rfl, rfl⟩
      have g3 : ¬ i < 0 := by omega
      go_enter Try.func72, Try.ntmps72
      go_wp2
      go_ret3
      exact ⟨rfl, rfl⟩
  · have g1 : ¬ s < 1 := by omega
    have g2 : ¬ 8 < s := by omega
    have g3 : ¬ i < 0 := by omega
    have g4 : ¬ (n : Int) < i := by omega
    by_cases h2 : (n : Int) - i < s
    · have e : takeX xs i s = (0, 0, 10) := by unfold takeX; rw [hl, if_neg h1, if_pos h2]
      rw [e]
      clear e hl h1
      go_enter Try.func72, Try.ntmps72
      go_wp2
      go_ret3
      exact ⟨rfl, rfl⟩
    · have e : takeX xs i s = (num ((xs.drop i.toNat).take s.toNat), i + s, 0) := by unfold takeX; rw [hl, if_neg h1, if_neg h2]
      rw [e]
      clear e h1
      obtain ⟨t, rfl⟩ : ∃ t : Nat, s = t := ⟨s.toNat, by omega⟩
      obtain ⟨i, rfl⟩ : ∃ j : Nat, i = j := ⟨i.toNat, by omega⟩
      have ht : t ≤ 8 := by omega
      have hit : i + t ≤ n := by omega
      have HL := Lib.hid hl
      clear hl
      go_enter Try.func72, Try.ntmps72
      go_wp2
      go_loop [6, 33] (fun v j => ∃ k, k ≤ t ∧ j = .int .i64 (k : Nat) ∧ v = .int .u64 (num ((xs.drop i).take k) : Nat)) (fun _ j => t - (intOf j).toNat)
      case atStart => exact ⟨0, Nat.zero_le _, rfl, rfl⟩
      case round =>
        obtain ⟨k, hk, rfl, rfl⟩ := hrel
        by_cases hlt : k < t
        · obtain ⟨b, off, rfl, hc, hx⟩ := h.cell (i + k) (by omega)
          have HX := Lib.hid (or_step xs h.bd i k (by omega) (by have := HL.out; omega))
          go_wp2
          go_round
          case rel => exact ⟨k + 1, by omega, by go_num, by rw [HX.out]⟩
          case measure => simp [intOf]; omega
        · obtain rfl : k = t := by omega
          go_wp2
          go_ret3
          exact ⟨rfl, rfl⟩

set_option maxHeartbeats 1000000 in
theorem Number_any (w : World) {a : Option Addr} {n cap : Nat} {xs : List Nat} (h : Rd .u8 w a n cap xs) (h8 : n ≤ 8) :
    Calls Try.prog 64 #[.slice a n cap] w fun e w' => e = .returned (.int .u64 (num xs : Nat)) ∧ w = w' := by
  have HL := Lib.hid h.len
  go_enter Try.func64, Try.ntmps64
  go_wp2
  go_loop [3, 4] (fun v j => ∃ k, k ≤ n ∧ j = .int .i64 (k : Nat) ∧ v = .int .u64 (num (xs.take k) : Nat)) (fun _ j => n - (intOf j).toNat)
  case atStart => exact ⟨0, Nat.zero_le _, rfl, rfl⟩
  case round =>
    obtain ⟨k, hk, rfl, rfl⟩ := hrel
    by_cases hlt : k < n
    · obtain ⟨b, off, rfl, hc, hx⟩ := h.cell k hlt
      have HX := Lib.hid (num_step xs h.bd k (by omega) (by have := HL.out; omega))
      go_wp2
      go_round
      case rel => exact ⟨k + 1, by omega, by go_num, by rw [HX.out]⟩
      case measure => simp [intOf]; omega
    · obtain rfl : k = n := by omega
      go_wp2
      go_ret
      have HT := List.take_of_length_le (l := xs) (i := k) (by have := HL.out; omega)
      exact ⟨by simp [HT], rfl⟩

set_option maxHeartbeats 1000000 in
theorem Digits_any (w : World) (m s : Nat) (hm : m < 18446744073709551616) (hs : s ≤ 8) :
    Calls Try.prog 61 #[.int .u64 (m : Nat), .int .i64 (s : Nat)] w (RetB w (dig m s)) := by
  have HM := Lib.hid hm
  clear hm
  go_enter Try.func61, Try.ntmps61
  go_wp2
  go_loopw [0, 5, 6] (fun q v j wr => ∃ k p a cap, k ≤ s ∧ j = .int .i64 (k : Nat) ∧ q = .int .u64 (p : Nat) ∧ Hid (p = m / 256 ^ k) ∧ v = .slice a k cap ∧ Ow .u8 5 w.heap.size wr a k cap (dig m k) ∧ Below w.heap.size w wr) (fun _ _ j _ => s - (intOf j).toNat)
  case atStart => exact ⟨0, m, none, 0, Nat.zero_le _, rfl, rfl, Lib.hid (by simp), rfl, Ow.nil _ _ _ _, Below.refl _ _⟩
  case round =>
    obtain ⟨k, p, a, cap, hk, rfl, rfl, hp, rfl, ho, hb⟩ := hrel
    by_cases hlt : k < s
    · have hz := hb.size
      go_wp2_with (at_builtin; refine wpList_app rfl _ _ 34 rfl etB w.heap.size rfl (World.ownsRow_lit wr #[_] 1 hz (by decide) rfl) rfl (by simpa using ho.len) (ho.rd.sl.below ((Below.refl _ _).alloc (Nat.le_refl _) _)) (by unfold maxLen; omega) (by omega) (by simp; omega) ?_; intro a2 cap2 w2 hown2 hg hb2)
      have hq := hp.out
      have hlt64 : p / 256 < 18446744073709551616 := by
        have h1 := HM.out
        have h2 := Nat.div_le_self m (256 ^ k)
        omega
      have e1 : IntKind.u64.wrap ((p : Int) / 256) = ((p / 256 : Nat) : Int) := by
        rw [← wrap64_nat _ hlt64]; simp
      refine ⟨⟨k + 1, p / 256, a2, cap2, by omega, by go_num, by rw [e1], Lib.hid (by rw [hq, Nat.div_div_eq_div_mul, Nat.pow_succ]), by rw [Nat.add_comm 1 k], ⟨by simp [dig_length], ?_, dig_lt _ _⟩, (hb.alloc hz _).trans hb2⟩, by simp [intOf]; omega⟩
      rw [dig_cons, ← hq]
      rw [Nat.add_comm 1 k] at hown2
      exact hown2
    · obtain rfl : k = s := by omega
      go_wp2
      go_ret
      exact ⟨a, _, cap, rfl, ho, hb⟩

end Go.Proofs.Ytnjkfjecnicccaa
