/- What Put, Take and the fields of layer 1's reference compute, and the fields of octet: one contract a function. Conditions: the lengths that the laws allow. -/
import Derived.Test.YtnjkfjecnicccaaOctet
namespace Go.Proofs.Ytnjkfjecnicccaa
open Go.RowKit Go.Suf

set_option maxHeartbeats 1000000 in
theorem Field_any (w : World) {a : Option Addr} {n cap : Nat} {xs : List Nat} (h : Rd .u8 w a n cap xs) (hn : n ≤ 1099511627776) :
    Calls Try.prog 49 #[.slice a n cap] w (RetB w (field xs)) := by
  have HL := Lib.hid h.len
  go_enter Try.func49, Try.ntmps49
  go_wp2_with fail
  refine (Digits_any w n 2 (by omega) (by omega)).mono ?_
  rintro e w1 ⟨a1, n1, cap1, rfl, ho1, hb1⟩
  have hz := hb1.size
  have h1 := h.below hb1
  obtain rfl : n1 = 2 := by rw [← ho1.len, dig_length]
  go_wp2_with (at_builtin; refine wpList_app rfl _ _ 34 rfl etB w.heap.size rfl ho1.own rfl (by simpa using h.len) h1.sl (by unfold maxLen; omega) (by omega) hz ?_; intro a2 cap2 w2 hown2 hg hb2)
  go_ret
  refine ⟨a2, _, cap2, rfl, ⟨by rw [field_length, h.len]; omega, ?_, field_lt _ h.bd⟩, hb1.trans hb2⟩
  rw [field, nums_append, HL.out]
  exact hown2

set_option maxHeartbeats 1000000 in
theorem PutField_any (w : World) {a : Option Addr} {n cap : Nat} {xs : List Nat} (h : Rd .u8 w a n cap xs) {a' : Option Addr} {n' cap' : Nat} {ys : List Nat} (h' : Rd .u8 w a' n' cap' ys) (hn : n ≤ 1099511627776) (hn' : n' ≤ 1099511627776) :
    Calls Try.prog 48 #[.slice a n cap, .slice a' n' cap'] w (RetBE w (putFieldX xs ys)) := by
  have hl := h.len
  have hl' := h'.len
  by_cases g1 : 65535 < n'
  · have e : putFieldX xs ys = ([], 4) := by unfold putFieldX; rw [if_pos (by omega)]
    rw [e]
    clear e hl hl'
    go_enter Try.func48, Try.ntmps48
    go_wp2
    go_ret2
    exact ⟨none, 0, 0, rfl, Ow.nil _ _ _ _, Below.refl _ _⟩
  by_cases g2 : 16384 < n + 2 + n'
  · have e : putFieldX xs ys = ([], 4) := by unfold putFieldX; rw [if_pos (by omega)]
    rw [e]
    clear e hl hl'
    go_enter Try.func48, Try.ntmps48
    go_wp2
    go_ret2
    exact ⟨none, 0, 0, rfl, Ow.nil _ _ _ _, Below.refl _ _⟩
  have e : putFieldX xs ys = (xs ++ field ys, 0) := by unfold putFieldX; rw [if_neg (by omega)]
  rw [e]
  have HL := Lib.hid hl
  have HL' := Lib.hid hl'
  clear e hl hl'
  go_enter Try.func48, Try.ntmps48
  go_wp2_with fail
  refine (clone_any _ h hn).mono ?_
  rintro e w1 ⟨a1, cap1, rfl, ho1, hb1⟩
  have hz := hb1.size
  go_wp2_with fail
  refine (put_any _ ho1 n' 2 (by omega) hn hz).mono ?_
  rintro e w2 ⟨a2, n2, cap2, rfl, ho2, hb2⟩
  obtain rfl : n2 = n + 2 := by rw [← ho2.len]; simp [dig_length, HL.out]
  have hz2 := hb2.size
  have h2 := h'.below (hb1.trans hb2)
  go_wp2_with (at_builtin; refine wpList_app rfl _ _ 34 rfl etB w.heap.size rfl ho2.own rfl (by simpa using h'.len) h2.sl (by unfold maxLen; omega) (by omega) (by omega) ?_; intro a3 cap3 w3 hown3 hg hb3)
  go_ret2
  refine ⟨a3, _, cap3, rfl, ⟨by simp [field_length, HL.out, HL'.out]; omega, ?_, append_lt h.bd (field_lt _ h'.bd)⟩, (hb1.trans hb2).trans hb3⟩
  rw [field, ← List.append_assoc, nums_append, HL'.out]
  exact hown3

/-- New bytes, a place, an error. -/
def RetFN (w : World) (r : List Nat × Int × Int) : Ending → World → Prop := fun e w' =>
  ∃ a n cap, e = .returned (.tuple #[.slice a n cap, .int .i64 r.2.1, .int .i64 r.2.2]) ∧ Ow .u8 5 w.heap.size w' a n cap r.1 ∧ Below w.heap.size w w'

end Go.Proofs.Ytnjkfjecnicccaa
