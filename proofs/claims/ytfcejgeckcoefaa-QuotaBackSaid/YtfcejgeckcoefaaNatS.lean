/- The document's answer: Sub, Cmp, Of, Word, Mul, Long. No condition. -/
import Derived.Test.YtfcejgeckcoefaaNatR
namespace Go.Proofs.Ytfcejgeckcoefaa
open Go.RowKit Go.Suf
set_option linter.unusedVariables false
set_option linter.unusedSimpArgs false

theorem ltC_true {xs ys : List Nat} (h : val xs < val ys) : ltC xs ys = true := by simp [ltC, h]
theorem ltC_false {xs ys : List Nat} (h : ¬ val xs < val ys) : ltC xs ys = false := by simp only [ltC, decide_eq_false_iff_not]; exact h

theorem of_step (out : List Nat) (v k : Nat) (hl : out.length = k) : val (out ++ [v % 4294967296]) + pw (k + 1) * (v / 4294967296) = val out + pw k * v := by
  rw [val_snoc, hl, pw_succ]
  have e : 4294967296 * pw k * (v / 4294967296) = pw k * (4294967296 * (v / 4294967296)) := by rw [Nat.mul_comm 4294967296, Nat.mul_assoc]
  have h := congrArg (pw k * ·) (Nat.mod_add_div v 4294967296)
  simp only [Nat.mul_add] at h
  omega

set_option maxHeartbeats 1000000 in
theorem refOf_any (w : World) (n : Nat) (hn : n < 18446744073709551616) :
    Calls Try.prog 64 #[.int .u64 (n : Nat)] w (RetL w (limbs n)) := by
  obtain ⟨r, hr0⟩ : ∃ r, r = limbs n := ⟨_, rfl⟩
  rw [← hr0]
  have HR := Lib.hid hr0
  clear hr0
  go_enter Try.func64, Try.ntmps64
  go_wp2_with fail
  go_loopw [0, 3] (fun s0 s3 wr => ∃ (v k : Nat) (d : Option Addr) (cp : Nat) (out : List Nat), s0 = .int .u64 (v : Nat) ∧ v < 18446744073709551616 ∧ k ≤ 2 ∧ s3 = .slice d k cp ∧ Ow .u32 56 w.heap.size wr d k cp out ∧ Hid (val out + pw k * v = n ∧ (v = 0 → canon out)) ∧ Below w.heap.size w wr) (fun v _ _ => (intOf v).toNat)
  case atStart => exact ⟨n, 0, none, 0, [], rfl, hn, by decide, rfl, Ow.nil _ _ _ _, Lib.hid ⟨by simp [val, pw], fun _ => by simp [canon]⟩, Below.refl _ _⟩
  case round =>
    obtain ⟨v, k, d, cp, out, rfl, hv, hk, rfl, ho, hE, hb⟩ := hrel
    have hz := hb.size
    by_cases h0 : 0 < v
    · have hk2 : k < 2 := by
        have h1 := hE.out.1
        have h2 := Nat.le_mul_of_pos_right (pw k) h0
        exact pw_lt (i := k) (j := 2) (by show _ < 18446744073709551616; omega)
      have hx := Lib.hid (show ((v : Int) % 4294967296) = ((v % 4294967296 : Nat) : Int) by omega)
      have hy := Lib.hid (show ((v : Int) / 4294967296) = ((v / 4294967296 : Nat) : Int) by omega)
      have HE := Lib.hid (show val (out ++ [v % 4294967296]) + pw (k + 1) * (v / 4294967296) = n ∧ (v / 4294967296 = 0 → canon (out ++ [v % 4294967296])) from ⟨by
        rw [of_step out v k ho.len]
        exact hE.out.1, fun e => by simp [canon]; omega⟩)
      go_wp2_with (at_builtin; refine wpList_app rfl _ _ 25 rfl etN w.heap.size rfl (ho.own.alloc _) rfl rfl (sl_new wr _ 56 rfl) (by unfold maxLen; omega) (by omega) (by simp; omega) ?_; intro a' cap2 w' hown hg hbw)
      rw [hx.out] at hown
      have ho2 := ho.snoc (x := v % 4294967296) (Nat.mod_lt _ (by decide)) rfl hown
      have hbn := hb.trans (((Below.refl w.heap.size wr).alloc hz _).trans hbw)
      clear hown hg hbw ho
      go_roundw
      case rel => exact ⟨v / 4294967296, k + 1, a', cap2, _, by rw [hy.out], by omega, by omega, rfl, ho2, HE, hbn⟩
      case measure => simp [intOf]; omega
    · obtain rfl : v = 0 := by omega
      have e1 := Lib.hid (show r = out by
        have := hE.out.1
        rw [Nat.mul_zero, Nat.add_zero] at this
        rw [HR.out, ← this, limbs_val ho.bd (hE.out.2 rfl)])
      go_wp2_with fail
      go_ret
      rw [e1.out]
      exact ⟨d, k, cp, rfl, ho.rd, hb⟩

set_option maxHeartbeats 1000000 in
theorem refWord_any (w : World) {a : Option Addr} {n cap : Nat} {xs : List Nat} (h : Rd .u32 w a n cap xs) :
    Calls Try.prog 50 #[.slice a n cap] w (RetW w (wordC xs)) := by
  have hn := h.lt
  have HL := Lib.hid h.len
  obtain ⟨r, hr0⟩ : ∃ r, r = wordC xs := ⟨_, rfl⟩
  rw [← hr0]
  have HR := Lib.hid hr0
  clear hr0
  go_enter Try.func50, Try.ntmps50
  go_wp2_with fail
  refine (refCheck_any _ h).mono ?_
  rintro e w1 ⟨rfl, rfl⟩
  by_cases hz : chk xs = 0
  · have HZ := Lib.hid hz
    rw [hz]
    clear hz
    by_cases h2 : 2 < n
    · have e1 := Lib.hid (show r = (0, 30) by rw [HR.out, wordC, if_pos HZ.out, HL.out, if_pos h2])
      go_wp2_with fail
      go_ret2
      rw [e1.out]
      exact ⟨rfl, rfl⟩
    · have e1 := Lib.hid (show r = (val xs, 0) by rw [HR.out, wordC, if_pos HZ.out, HL.out, if_neg h2])
      go_wp2_with fail
      go_loop [5, 6] (fun v i => ∃ k : Nat, k ≤ n ∧ i = .int .i64 ((k : Int) - 1) ∧ v = .int .u64 (val (xs.drop k) : Nat)) (fun _ i => (intOf i + 1).toNat)
      case atStart => exact ⟨n, Nat.le_refl _, rfl, by rw [List.drop_eq_nil_of_le (by have := HL.out; omega)]; rfl⟩
      case round =>
        obtain ⟨k, hk, hi, rfl⟩ := hrel
        by_cases h0 : 0 < k
        · obtain ⟨j, rfl⟩ : ∃ j, k = j + 1 := ⟨k - 1, by omega⟩
          subst hi
          have hi2 : (((j + 1 : Nat) : Int) - 1) = (j : Int) := by omega
          rw [hi2]
          clear hi2
          obtain ⟨p, off, rfl, hc, _⟩ := h.cell j (by omega)
          have b1 := small32_nth (show small32 xs from h.bd) j
          have b2 := val_lt' (small32_drop (show small32 xs from h.bd) (j + 1))
          rw [List.length_drop, HL.out] at b2
          have b3 : val (xs.drop (j + 1)) < 4294967296 := Nat.lt_of_lt_of_le b2 (by
            have := pw_le (show n - (j + 1) ≤ 1 by omega)
            simpa [pw] using this)
          have hs := Lib.hid (show val (xs.drop j) = 4294967296 * val (xs.drop (j + 1)) + nth xs j by
            rw [drop_nth (by have := HL.out; omega), val]; omega)
          clear b2
          go_wp2_with fail
          go_round
          case rel => exact ⟨j, by omega, rfl, by rw [hs.out]; go_num⟩
          case measure => simp [intOf]
        · obtain rfl : k = 0 := by omega
          subst hi
          rw [List.drop_zero]
          go_wp2_with fail
          go_ret2
          rw [e1.out]
          exact ⟨rfl, rfl⟩
  · have e1 := Lib.hid (show r = (0, chk xs) by rw [HR.out, wordC, if_neg hz])
    go_wp2_with fail
    go_ret2
    rw [e1.out]
    exact ⟨rfl, rfl⟩

def longB (xs : List Nat) : Bool := decide (24 < xs.length ∧ xs.length ≤ 96)

end Go.Proofs.Ytfcejgeckcoefaa
