/- Check, limb and trim. No condition. -/
import Derived.Test.YtfcejgeckcoefaaRows
import Derived.Test.YtfcejgeckcoefaaNatPlain
import Derived.Test.YtfcejgeckcoefaaMem
namespace Go.Proofs.Ytfcejgeckcoefaa
open Go.RowKit Go.Suf
set_option linter.unusedVariables false
set_option linter.unusedSimpArgs false

theorem etN : ET Try.prog 25 56 (.int .u32 0) 4 := ⟨Try.underlying25, by kernel_rfl, rfl⟩

theorem last_nth {xs : List Nat} (h : 0 < xs.length) : xs.getLast? = some (nth xs (xs.length - 1)) := by
  rw [List.getLast?_eq_getElem?, getElem?_pos xs (xs.length - 1) (by omega), nth_eq (by omega)]

theorem Check_any (w : World) {a : Option Addr} {n cap : Nat} {xs : List Nat} (h : Rd .u32 w a n cap xs) :
    Calls Try.prog 71 #[.slice a n cap] w fun e w' => e = .returned (.int .i64 (chk xs)) ∧ w = w' := by
  have hn := h.lt
  have HL := Lib.hid h.len
  obtain ⟨r, hr0⟩ : ∃ r, r = chk xs := ⟨_, rfl⟩
  rw [← hr0]
  unfold chk at hr0
  rw [h.len] at hr0
  have HR := Lib.hid hr0
  clear hr0
  by_cases h1 : 96 < n
  · go_enter Try.func71, Try.ntmps71
    go_wp2_with fail
    go_ret
    exact ⟨by rw [HR.out, if_pos h1]; rfl, rfl⟩
  by_cases h2 : 0 < n
  · obtain ⟨b, off, rfl, hc, _⟩ := h.cell (n - 1) (by omega)
    have hi : ((n : Int) - 1) = ((n - 1 : Nat) : Int) := by omega
    by_cases h3 : nth xs (n - 1) = 0
    · have H3 := Lib.hid h3
      rw [h3] at hc
      clear h3
      go_enter Try.func71, Try.ntmps71
      go_wp2_with fail
      go_ret
      exact ⟨by rw [HR.out, if_neg h1, if_pos (by rw [last_nth (by rw [HL.out]; exact h2), HL.out, H3.out])]; rfl, rfl⟩
    · have h4 : ((nth xs (n - 1) : Int) == 0) = false := by rw [beq_eq_false_iff_ne]; omega
      go_enter Try.func71, Try.ntmps71
      go_wp2_with fail
      go_ret
      exact ⟨by rw [HR.out, if_neg h1, if_neg (by rw [last_nth (by rw [HL.out]; exact h2), HL.out]; simpa using h3)]; rfl, rfl⟩
  · obtain rfl : n = 0 := by omega
    obtain rfl : xs = [] := List.eq_nil_of_length_eq_zero HL.out
    go_enter Try.func71, Try.ntmps71
    go_wp2_with fail
    go_ret
    exact ⟨by rw [HR.out]; rfl, rfl⟩

set_option maxHeartbeats 1000000 in
theorem trim_at (w : World) {a : Option Addr} {n cap : Nat} {xs : List Nat} (h : Rd .u32 w a n cap xs) :
    Calls Try.prog 83 #[.slice a n cap] w fun e w' => ∃ m, e = .returned (.slice a m m) ∧ Rd .u32 w a m m (limbs (val xs)) ∧ m ≤ n ∧ w = w' := by
  have hn := h.lt
  have hle := h.le
  have HL := Lib.hid h.len
  have hs : small32 xs := h.bd
  have HS := Lib.hid hs
  clear hs
  go_enter Try.func83, Try.ntmps83
  go_wp2_with fail
  go_loop [3] (fun j => ∃ k, k ≤ n ∧ j = .int .i64 (k : Nat) ∧ Hid (∀ i, k ≤ i → i < n → nth xs i = 0)) (fun j => (intOf j).toNat)
  case atStart => exact ⟨n, Nat.le_refl _, rfl, Lib.hid fun i h1 h2 => absurd h1 (by omega)⟩
  case round =>
    obtain ⟨k, hk, rfl, hZ⟩ := hrel
    by_cases h0 : 0 < k
    · obtain ⟨b, off, rfl, hc, _⟩ := h.cell (k - 1) (by omega)
      have hi : ((k : Int) - 1) = ((k - 1 : Nat) : Int) := by omega
      by_cases h3 : nth xs (k - 1) = 0
      · have H3 := Lib.hid h3
        rw [h3] at hc
        clear h3
        go_wp2
        go_round
        case rel => exact ⟨k - 1, by omega, by go_num, Lib.hid fun i h1 h2 => by
                      by_cases hik : i = k - 1
                      · subst hik; exact H3.out
                      · exact hZ.out i (by omega) h2⟩
        case measure => simp [intOf]; omega
      · have h4 : ((nth xs (k - 1) : Int) == 0) = false := by rw [beq_eq_false_iff_ne]; omega
        have HT := Lib.hid (take_limbs HS.out (k := k) (by have := HL.out; omega) (fun j h1 h2 => hZ.out j h1 (by rw [← HL.out]; exact h2)) (.inr h3))
        clear h3
        have HA := Lib.hid (show Rd .u32 w (some ⟨b, off, none⟩) k k (xs.take k) by
          have := h.part 0 k k (Nat.zero_le _) hk (Nat.le_refl _) (by omega) off (fun _ => rfl)
          simpa using this)
        go_wp2_with (refine wpList_upto3A rfl _ _ _ 25 rfl etN rfl rfl rfl k k rfl rfl (Nat.le_refl _) (by omega) (.inr ⟨b, off, rfl⟩) ?_)
        go_ret
        exact ⟨k, rfl, by rw [HT.out]; exact HA.out, hk, rfl⟩
    · obtain rfl : k = 0 := by omega
      have HT := Lib.hid (take_limbs HS.out (k := 0) (Nat.zero_le _) (fun j h1 h2 => hZ.out j h1 (by rw [← HL.out]; exact h2)) (.inl rfl))
      have HA := Lib.hid (show Rd .u32 w a 0 0 (xs.take 0) from ⟨rfl, Sl.empty w a 0 (Nat.zero_le _) (fun _ => rfl), fun x hx => by simp at hx⟩)
      go_wp2_with (refine wpList_upto3A rfl _ _ _ 25 rfl etN rfl rfl rfl 0 0 rfl rfl (Nat.le_refl _) (by omega) (.inl rfl) ?_)
      go_ret
      exact ⟨0, rfl, by rw [HT.out]; exact HA.out, hk, rfl⟩

theorem trim_any (w : World) {a : Option Addr} {n cap : Nat} {xs : List Nat} (h : Rd .u32 w a n cap xs) :
    Calls Try.prog 83 #[.slice a n cap] w fun e w' => ∃ a' m, e = .returned (.slice a' m m) ∧ Rd .u32 w a' m m (limbs (val xs)) ∧ w = w' := by
  refine (trim_at w h).mono ?_
  rintro e w' ⟨m, rfl, hr, _, rfl⟩
  exact ⟨a, m, rfl, hr, rfl⟩

end Go.Proofs.Ytfcejgeckcoefaa
