/- What Bytes computes in the program; the chapter's example. No condition. -/
import Derived.Test.YtnkbkcmphgejkaaConH
import Derived.Test.YtnkbkcmphgejkaaConC
set_option linter.unusedVariables false
set_option linter.unusedSimpArgs false
namespace Go.Proofs.Ytnkbkcmphgejkaa
open Go.RowKit Go.Suf

/-- What Bytes answers. -/
def bytesC (nm : ByteArray) (ss : List ByteArray) (seats : Int) (rule : Nat) : List Nat × Int :=
  if checkC nm ss seats rule = 0 then joinX [] (fieldsC nm ss seats.toNat rule) else ([], checkC nm ss seats rule)

theorem odd_size {s : ByteArray} (h : oddS s = false) : s.size ≤ 40 := by
  simp [oddS] at h
  omega

theorem check_ok {nm : ByteArray} {ss : List ByteArray} {seats : Int} {rule : Nat} (h : checkC nm ss seats rule = 0) : ss.length ≤ 10 ∧ ss.length ≠ 0 ∧ 1 ≤ seats ∧ seats ≤ 10 ∧ nm.size ≤ 40 ∧ (∀ s ∈ ss, s.size ≤ 40) ∧ oddS nm = false ∧ oddL ss = false ∧ twiceL ss = false ∧ fitsC ss.length seats rule = true := by
  unfold checkC at h
  by_cases h1 : 10 < ss.length
  · rw [if_pos h1] at h; omega
  rw [if_neg h1] at h
  split at h
  · omega
  rename_i h2
  simp only [not_or, Bool.not_eq_true, Bool.not_eq_false] at h2
  obtain ⟨a1, a2, a3, a4, a5⟩ := h2
  have e0 : oddL [nm] = oddS nm := by simp [oddL]
  rw [e0] at a2
  have hf := a5
  unfold fitsC at hf
  split at hf
  · simp at hf
  refine ⟨by omega, a1, by omega, by omega, odd_size a2, fun s hs => odd_size ?_, a2, a3, a4, a5⟩
  unfold oddL at a3
  rw [List.any_eq_false] at a3
  simpa using a3 s hs

theorem fieldsC_le {nm : ByteArray} {ss : List ByteArray} {seats rule : Nat} (hnm : nm.size ≤ 40) (hss : ∀ s ∈ ss, s.size ≤ 40) : ∀ xs ∈ fieldsC nm ss seats rule, xs.length ≤ 1099511627776 := by
  intro xs hx
  simp only [fieldsC, List.mem_cons, List.mem_map] at hx
  rcases hx with rfl | rfl | ⟨s, hs, rfl⟩
  · rw [byts_length]; omega
  · simp
  · rw [byts_length]; have := hss s hs; omega

set_option maxRecDepth 100000 in
set_option maxHeartbeats 2000000 in
theorem Bytes_any (w : World) (nm : ByteArray) {a : Option Addr} {n cap : Nat} {ss : List ByteArray} (h : RdS w a n cap ss) (seats : Int) (hs1 : -9223372036854775808 ≤ seats) (hs2 : seats ≤ 9223372036854775807) (rule : Nat) (hr : rule < 256) :
    Calls Try.prog 28 #[.agg #[.string nm, .slice a n cap, .int .i64 seats, .int .u8 (rule : Nat)]] w (RetBE w (bytesC nm ss seats rule)) := by
  have HL := Lib.hid h.len
  obtain ⟨r, hr0⟩ : ∃ r, r = bytesC nm ss seats rule := ⟨_, rfl⟩
  rw [← hr0]
  have HR := Lib.hid hr0
  clear hr0
  have hA : Below w.heap.size w (w.alloc (.cells #[.string nm, .slice a n cap, .int .i64 seats, .int .u8 (rule : Nat)] 40)) := (Below.refl _ _).alloc (Nat.le_refl _) _
  have hz0 := hA.size
  go_enter Try.func28, Try.ntmps28
  go_wp2_with fail
  refine (Check_any _ nm (h.below hA) seats hs1 hs2 rule hr).mono ?_
  rintro e w1 ⟨rfl, hb1⟩
  have hB1 := hA.trans (hb1.mono hz0)
  have c (i : Nat) (v : Value) (hv : (#[.string nm, .slice a n cap, .int .i64 seats, .int .u8 (rule : Nat)] : Array Value)[i]? = some v) := cell_below hb1 (new_cell w _ 40 i v hv)
  have c0 := c 0 _ rfl
  have c1 := c 1 _ rfl
  have c2 := c 2 _ rfl
  have c3 := c 3 _ rfl
  clear c
  by_cases hz : checkC nm ss seats rule = 0
  · obtain ⟨k1, k2, k3, k4, k5, k6, _⟩ := check_ok hz
    obtain ⟨s, rfl⟩ : ∃ s : Nat, seats = (s : Int) := ⟨seats.toNat, by omega⟩
    have HZ := Lib.hid hz
    rw [hz]
    clear hz
    go_wp2_with fail
    refine (fields_any _ nm (h.below hB1) s (by omega) rule hr k5 k6 (by have := HL.out; omega)).mono ?_
    rintro e w2 ⟨a2, n2, c2', rfl, hrd, hb2⟩
    have hB2 := hB1.trans (hb2.mono hB1.size)
    go_wp2_with fail
    refine (Join_any _ hrd (fieldsC_le k5 k6)).mono ?_
    rintro e w3 ⟨a3, n3, c3', rfl, ho, hb3⟩
    go_wp2_with fail
    go_ret2
    refine ⟨a3, n3, c3', ?_, ?_, hB2.trans (hb3.mono hB2.size)⟩
    · rw [HR.out, bytesC, if_pos HZ.out]
      rfl
    · rw [HR.out, bytesC, if_pos HZ.out]
      exact ho.base_le hB2.size
  · have HZ := Lib.hid hz
    go_wp2_with fail
    go_ret2
    refine ⟨none, 0, 0, ?_, ?_, hB1⟩
    · rw [HR.out, bytesC, if_neg HZ.out]
      rfl
    · rw [HR.out, bytesC, if_neg HZ.out]
      exact Ow.nil _ _ _ _

end Go.Proofs.Ytnkbkcmphgejkaa
