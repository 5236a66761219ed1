/- Lists of byte strings: how they read; what Join and SameFields compute. Conditions: the lengths that the laws allow. -/
import Derived.Test.YtnjkfjecnicccaaWOctetTells
namespace Go.Proofs.Ytnjkfjecnicccaa
open Go.RowKit Go.Suf

theorem etL : ET Try.prog 63 34 (.slice none 0 0) 24 := ⟨Try.underlying63, by kernel_rfl, rfl⟩

/-- A slice of byte slices reads as the list of byte strings xss. -/
structure RdL (w : World) (a : Option Addr) (n cap : Nat) (xss : List (List Nat)) : Prop where
  len : xss.length = n
  row : ∃ vs : List Value, vs.length = n ∧ Sl w a cap vs ∧ ∀ i, i < n → ∃ b m c, vs[i]? = some (.slice b m c) ∧ Rd .u8 w b m c (lth xss i)

section
variable {w w' : World} {a : Option Addr} {n cap : Nat} {xss : List (List Nat)}

theorem RdL.lt (h : RdL w a n cap xss) : n ≤ 9223372036854775807 := by
  obtain ⟨vs, hv, hs, _⟩ := h.row
  have h1 := hs.le
  have h2 := hs.max
  unfold maxLen at h2
  omega

theorem RdL.below (h : RdL w a n cap xss) (hb : Below w.heap.size w w') : RdL w' a n cap xss := by
  obtain ⟨vs, hv, hs, hi⟩ := h.row
  exact ⟨h.len, vs, hv, hs.below hb, fun i hn => by obtain ⟨b, m, c, h1, h2⟩ := hi i hn; exact ⟨b, m, c, h1, h2.below hb⟩⟩

theorem RdL.cell (h : RdL w a n cap xss) (i : Nat) (hi : i < n) : ∃ b off d m c, a = some ⟨b, off, none⟩ ∧ w.cell? ⟨b, off + i, none⟩ = some (.slice d m c) ∧ Rd .u8 w d m c (lth xss i) := by
  obtain ⟨vs, hv, hs, hr⟩ := h.row
  obtain ⟨d, m, c, h1, h2⟩ := hr i hi
  obtain ⟨b, off, e, hc⟩ := hs.cell i _ h1
  exact ⟨b, off, d, m, c, e, hc, h2⟩
end

set_option maxHeartbeats 1000000 in
theorem Join_any (w : World) {a : Option Addr} {n cap : Nat} {xss : List (List Nat)} (h : RdL w a n cap xss) (hl : ∀ xs ∈ xss, xs.length ≤ 1099511627776) :
    Calls Try.prog 36 #[.slice a n cap] w (RetBE w (joinX [] xss)) := by
  have hn := h.lt
  have HL := Lib.hid h.len
  go_enter Try.func36, Try.ntmps36
  go_wp2
  go_loopw [2, 3, 8] (fun v e j wr => ∃ k a' n' c' out, k ≤ n ∧ j = .int .i64 (k : Nat) ∧ e = .int .i64 0 ∧ v = .slice a' n' c' ∧ n' ≤ 16384 ∧ Ow .u8 5 w.heap.size wr a' n' c' out ∧ Hid (joinX [] xss = joinX out (xss.drop k)) ∧ Below w.heap.size w wr) (fun _ _ j _ => n - (intOf j).toNat)
  case atStart => exact ⟨0, none, 0, 0, [], Nat.zero_le _, rfl, rfl, rfl, Nat.zero_le _, Ow.nil _ _ _ _, Lib.hid (by simp), Below.refl _ _⟩
  case round =>
    obtain ⟨k, a', n', c', out, hk, rfl, rfl, rfl, hn', ho, hj, hb⟩ := hrel
    by_cases hlt : k < n
    · obtain ⟨b, off, d, m, c, rfl, hc, hr⟩ := (h.below hb).cell k hlt
      have hz := hb.size
      have hm : m ≤ 1099511627776 := by
        rw [← hr.len]
        exact hl _ (lth_mem (by have := HL.out; omega))
      have hd := lth_drop (xss := xss) (i := k) (by have := HL.out; omega)
      have hj2 := hj.out
      rw [hd, joinX] at hj2
      have HJ := Lib.hid hj2
      clear hj hj2 hd
      go_wp2_with fail
      refine (PutField_any _ ho.rd hr (by omega) hm).mono ?_
      rintro e w2 ⟨a2, n2, c2, rfl, ho2, hb2⟩
      have hn2 : n2 ≤ 16384 := by have := ho2.len; have := putFieldX_length out (lth xss k); omega
      clear hc hr
      by_cases he : (putFieldX out (lth xss k)).2 = 0
      · have HE := Lib.hid he
        have hj2 := HJ.out
        rw [if_pos he] at hj2
        have HJ2 := Lib.hid hj2
        rw [he]
        clear he hj2 HJ
        go_wp2
        go_roundw
        case rel => exact ⟨k + 1, a2, n2, c2, _, by omega, by go_num, rfl, rfl, hn2, ho2.base_le hz, HJ2, hb.trans (hb2.mono hz)⟩
        case measure => simp [intOf]; omega
      · have HE : ((putFieldX out (lth xss k)).2 == 0) = false := by simpa using he
        have HE2 : ((putFieldX out (lth xss k)).2 != 0) = true := by simpa using he
        have hj2 := HJ.out
        rw [if_neg he] at hj2
        have HJ2 := Lib.hid hj2
        clear he hj2 HJ
        go_wp2
        go_ret2
        rw [HJ2.out]
        exact ⟨none, 0, 0, rfl, Ow.nil _ _ _ _, hb.trans (hb2.mono hz)⟩
    · obtain rfl : k = n := by omega
      have hj2 := hj.out
      rw [List.drop_eq_nil_of_le (by have := HL.out; omega), joinX] at hj2
      have HJ2 := Lib.hid hj2
      clear hj hj2
      go_wp2
      go_ret2
      rw [HJ2.out]
      exact ⟨a', n', c', rfl, ho, hb⟩

end Go.Proofs.Ytnjkfjecnicccaa
