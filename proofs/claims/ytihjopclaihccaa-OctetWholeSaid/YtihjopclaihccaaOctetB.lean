/- What Put, Take and the fields of layer 1's reference compute, and the fields of octet: one contract a function. Conditions: the lengths that the laws allow. -/
import Derived.Test.YtihjopclaihccaaOctet
namespace Go.Proofs.Ytihjopclaihccaa
open Go.RowKit Go.Suf

set_option maxHeartbeats 1000000 in
theorem refPut_any (w : World) {a : Option Addr} {n cap : Nat} {xs : List Nat} (h : Rd .u8 w a n cap xs) (m : Nat) (hm : m < 18446744073709551616) (s : Int) (hs1 : -9223372036854775808 ≤ s) (hs2 : s ≤ 9223372036854775807) (hn : n ≤ 1099511627776) :
    Calls Try.prog 13 #[.slice a n cap, .int .u64 (m : Nat), .int .i64 s] w (RetBE w (putX xs m s)) := by
  have hl := h.len
  have HM := Lib.hid hm
  clear hm
  by_cases h1 : s < 1
  · have e : putX xs m s = ([], 2) := by simp only [putX]; rw [if_neg (by simp [okSize]; omega)]
    rw [e]
    clear e hl
    go_enter Try.func13, Try.ntmps13
    go_wp2
    go_ret2
    exact ⟨none, 0, 0, rfl, Ow.nil _ _ _ _, Below.refl _ _⟩
  by_cases h2 : 8 < s
  · have e : putX xs m s = ([], 2) := by simp only [putX]; rw [if_neg (by simp [okSize]; omega)]
    rw [e]
    clear e hl
    go_enter Try.func13, Try.ntmps13
    go_wp2
    go_ret2
    exact ⟨none, 0, 0, rfl, Ow.nil _ _ _ _, Below.refl _ _⟩
  obtain ⟨t, rfl⟩ : ∃ t : Nat, s = t := ⟨s.toNat, by omega⟩
  have ht : t ≤ 8 := by omega
  have ht1 : 1 ≤ t := by omega
  by_cases h3 : m < 256 ^ t
  · have ok : okSize m t = true := by simp [okSize, h3]; omega
    have e3 : (((num (dig m t) : Nat) : Int) != ((m : Nat) : Int)) = false := by rw [num_dig, Nat.mod_eq_of_lt h3]; simp
    have E3 := Lib.hid e3
    clear e3
    by_cases h4 : 16384 < n + t
    · have e : putX xs m t = ([], 4) := by simp only [putX]; rw [if_pos ok, if_pos (by omega)]
      rw [e]
      clear e hl h3 ok
      go_enter Try.func13, Try.ntmps13
      go_wp2_with fail
      refine (Digits_any w m t HM.out ht).mono ?_
      rintro e w1 ⟨a1, n1, cap1, rfl, ho1, hb1⟩
      have hn1 : n1 ≤ 8 := by have := ho1.len; rw [dig_length] at this; omega
      have e3 := E3.out
      go_wp2_with (go_at_call 30; refine (Number_any _ ho1.rd hn1).mono ?_; rintro e w' ⟨rfl, rfl⟩)
      go_ret2
      exact ⟨none, 0, 0, rfl, Ow.nil _ _ _ _, hb1⟩
    · have e : putX xs m t = (xs ++ dig m t, 0) := by simp only [putX, Int.toNat_natCast]; rw [if_pos ok, if_neg (by omega)]
      rw [e]
      clear e hl h3 ok
      go_enter Try.func13, Try.ntmps13
      go_wp2_with fail
      refine (Digits_any w m t HM.out ht).mono ?_
      rintro e w1 ⟨a1, n1, cap1, rfl, ho1, hb1⟩
      have hn1 : n1 ≤ 8 := by have := ho1.len; rw [dig_length] at this; omega
      have e3 := E3.out
      go_wp2_with (go_at_call 30; refine (Number_any _ ho1.rd hn1).mono ?_; rintro e w' ⟨rfl, rfl⟩)
      clear e3
      refine (twin_any w1 (h.below hb1) hn).mono ?_
      rintro e w2 ⟨a2, n2, cap2, rfl, ho2, hb2⟩
      have hz1 := hb1.size
      have hz2 := hb2.size
      have hn2 : n2 = n := by rw [← ho2.len, h.len]
      subst hn2
      go_wp2_with fail
      refine (Digits_any w2 m t HM.out ht).mono ?_
      rintro e w3 ⟨a3, n3, cap3, rfl, ho3, hb3⟩
      have hz3 := hb3.size
      have hn3 : n3 = t := by rw [← ho3.len, dig_length]
      subst hn3
      have ho2' := (ho2.base_le hz1).below hb3
      go_wp2_with (at_builtin; refine wpList_app rfl _ _ 22 rfl etB w.heap.size rfl ho2'.own rfl (by simpa using ho3.len) ho3.rd.sl (by unfold maxLen; omega) (by omega) (by omega) ?_; intro a4 cap4 w4 hown4 hg hb4)
      go_ret2
      exact ⟨a4, _, cap4, rfl, ⟨by simp [ho2.len, dig_length], by rw [nums_append]; exact hown4, fun x hx => by rw [List.mem_append] at hx; rcases hx with hx | hx; exact ho2.bd x hx; exact dig_lt _ _ x hx⟩, ((hb1.trans (hb2.mono hz1)).trans (hb3.mono (by omega))).trans hb4⟩
  · have e : putX xs m t = ([], 2) := by simp only [putX]; rw [if_neg (by simp [okSize, h3])]
    have e3 : (((num (dig m t) : Nat) : Int) != ((m : Nat) : Int)) = true := by
      rw [num_dig, bne_iff_ne]
      have := Nat.mod_lt m (show 0 < 256 ^ t from Nat.pow_pos (by decide))
      omega
    have E3 := Lib.hid e3
    rw [e]
    clear e hl h3 e3
    go_enter Try.func13, Try.ntmps13
    go_wp2_with fail
    refine (Digits_any w m t HM.out ht).mono ?_
    rintro e w1 ⟨a1, n1, cap1, rfl, ho1, hb1⟩
    have hn1 : n1 ≤ 8 := by have := ho1.len; rw [dig_length] at this; omega
    have e3 := E3.out
    go_wp2_with (go_at_call 30; refine (Number_any _ ho1.rd hn1).mono ?_; rintro e w' ⟨rfl, rfl⟩)
    go_ret2
    exact ⟨none, 0, 0, rfl, Ow.nil _ _ _ _, hb1⟩

set_option maxHeartbeats 1000000 in
theorem refTake_any (w : World) {a : Option Addr} {n cap : Nat} {xs : List Nat} (h : Rd .u8 w a n cap xs) (i s : Int) (hi1 : -9223372036854775808 ≤ i) (hi2 : i ≤ 9223372036854775807) (hs1 : -9223372036854775808 ≤ s) (hs2 : s ≤ 9223372036854775807) (hn : n ≤ 1099511627776) :
    Calls Try.prog 15 #[.slice a n cap, .int .i64 i, .int .i64 s] w fun e w' => e = .returned (.tuple #[.int .u64 ((takeX xs i s).1 : Nat), .int .i64 (takeX xs i s).2.1, .int .i64 (takeX xs i s).2.2]) ∧ w = w' := by
  have hl := h.len
  by_cases h1 : s < 1 ∨ 8 < s ∨ i < 0 ∨ (n : Int) < i
  · have e : takeX xs i s = (0, 0, 2) := by unfold takeX; rw [hl, if_pos h1]
    rw [e]
    clear e hl
    by_cases g1 : s < 1
    · go_enter Try.func15, Try.ntmps15
      go_wp2
      go_ret3
      exact ⟨rfl, rfl⟩
    by_cases g2 : 8 < s
    · go_enter Try.func15, Try.ntmps15
      go_wp2
      go_ret3
      exact ⟨rfl, rfl⟩
    by_cases g3 : i < 0
    · go_enter Try.func15, Try.ntmps15
      go_wp2
      go_ret3
      exact ⟨rfl, rfl⟩
    have g4 : (n : Int) < i := by omega
    clear h1
    go_enter Try.func15, Try.ntmps15
    go_wp2
    go_ret3
    exact ⟨rfl, rfl⟩
  · have g1 : ¬ s < 1 := by omega
    have g2 : ¬ 8 < s := by omega
    have g3 : ¬ i < 0 := by omega
    have g4 : ¬ (n : Int) < i := by omega
    by_cases h2 : (n : Int) - i < s
    · have e : takeX xs i s = (0, 0, 10) := by unfold takeX; rw [hl, if_neg h1, if_pos h2]
      rw [e]
      have h2' : (n : Int) < i + s := by omega
      clear e hl h1 h2
      go_enter Try.func15, Try.ntmps15
      go_wp2
      go_ret3
      exact ⟨rfl, rfl⟩
    · have e : takeX xs i s = (num ((xs.drop i.toNat).take s.toNat), i + s, 0) := by unfold takeX; rw [hl, if_neg h1, if_neg h2]
      rw [e]
      clear e h1
      obtain ⟨t, rfl⟩ : ∃ t : Nat, s = t := ⟨s.toNat, by omega⟩
      obtain ⟨i, rfl⟩ : ∃ j : Nat, i = j := ⟨i.toNat, by omega⟩
      have h2' : ¬ (n : Int) < i + t := by omega
      have ht : t ≤ 8 := by omega
      have HE : Hid ((xs.take (i + t)).drop i = (xs.drop i).take t) := Lib.hid (by rw [List.take_drop])
      clear h2 hl
      go_enter Try.func15, Try.ntmps15
      go_wp2_with (first | (refine wpList_part rfl _ _ _ 22 rfl etB h rfl rfl rfl i (i + t) t rfl (by simp) (by omega) (by omega) (by omega) ?_; intro a' c' hr) | (go_at_call 30; (with_reducible refine (Number_any _ hr ht).mono ?_); rintro e w' ⟨rfl, rfl⟩))
      go_ret3
      exact ⟨by rw [HE.out]; simp, rfl⟩

set_option maxHeartbeats 1000000 in
theorem Field_any (w : World) {a : Option Addr} {n cap : Nat} {xs : List Nat} (h : Rd .u8 w a n cap xs) (hn : n ≤ 1099511627776) :
    Calls Try.prog 32 #[.slice a n cap] w (RetB w (field xs)) := by
  have HL := Lib.hid h.len
  go_enter Try.func32, Try.ntmps32
  go_wp2_with fail
  refine (Digits_any w n 2 (by omega) (by omega)).mono ?_
  rintro e w1 ⟨a1, n1, cap1, rfl, ho1, hb1⟩
  have hz := hb1.size
  have h1 := h.below hb1
  obtain rfl : n1 = 2 := by rw [← ho1.len, dig_length]
  go_wp2_with (at_builtin; refine wpList_app rfl _ _ 22 rfl etB w.heap.size rfl ho1.own rfl (by simpa using h.len) h1.sl (by unfold maxLen; omega) (by omega) hz ?_; intro a2 cap2 w2 hown2 hg hb2)
  go_ret
  refine ⟨a2, _, cap2, rfl, ⟨by rw [field_length, h.len]; omega, ?_, field_lt _ h.bd⟩, hb1.trans hb2⟩
  rw [field, nums_append, HL.out]
  exact hown2

set_option maxHeartbeats 1000000 in
theorem PutField_any (w : World) {a : Option Addr} {n cap : Nat} {xs : List Nat} (h : Rd .u8 w a n cap xs) {a' : Option Addr} {n' cap' : Nat} {ys : List Nat} (h' : Rd .u8 w a' n' cap' ys) (hn : n ≤ 1099511627776) (hn' : n' ≤ 1099511627776) :
    Calls Try.prog 17 #[.slice a n cap, .slice a' n' cap'] w (RetBE w (putFieldX xs ys)) := by
  have hl := h.len
  have hl' := h'.len
  by_cases g1 : 65535 < n'
  · have e : putFieldX xs ys = ([], 4) := by unfold putFieldX; rw [if_pos (by omega)]
    rw [e]
    clear e hl hl'
    go_enter Try.func17, Try.ntmps17
    go_wp2
    go_ret2
    exact ⟨none, 0, 0, rfl, Ow.nil _ _ _ _, Below.refl _ _⟩
  by_cases g2 : 16384 < n + 2 + n'
  · have e : putFieldX xs ys = ([], 4) := by unfold putFieldX; rw [if_pos (by omega)]
    rw [e]
    clear e hl hl'
    go_enter Try.func17, Try.ntmps17
    go_wp2
    go_ret2
    exact ⟨none, 0, 0, rfl, Ow.nil _ _ _ _, Below.refl _ _⟩
  have e : putFieldX xs ys = (xs ++ field ys, 0) := by unfold putFieldX; rw [if_neg (by omega)]
  rw [e]
  have HL := Lib.hid hl
  have HL' := Lib.hid hl'
  clear e hl hl'
  go_enter Try.func17, Try.ntmps17
  go_wp2_with fail
  refine (clone_any _ h hn).mono ?_
  rintro e w1 ⟨a1, cap1, rfl, ho1, hb1⟩
  have hz := hb1.size
  go_wp2_with fail
  refine (put_any _ ho1 n' 2 (by omega) hn hz).mono ?_
  rintro e w2 ⟨a2, n2, cap2, rfl, ho2, hb2⟩
  obtain rfl : n2 = n + 2 := by rw [← ho2.len]; simp [dig_length, HL.out]
  have hz2 := hb2.size
  have h2 := h'.below (hb1.trans hb2)
  go_wp2_with (at_builtin; refine wpList_app rfl _ _ 22 rfl etB w.heap.size rfl ho2.own rfl (by simpa using h'.len) h2.sl (by unfold maxLen; omega) (by omega) (by omega) ?_; intro a3 cap3 w3 hown3 hg hb3)
  go_ret2
  refine ⟨a3, _, cap3, rfl, ⟨by simp [field_length, HL.out, HL'.out]; omega, ?_, append_lt h.bd (field_lt _ h'.bd)⟩, (hb1.trans hb2).trans hb3⟩
  rw [field, ← List.append_assoc, nums_append, HL'.out]
  exact hown3

set_option maxHeartbeats 1000000 in
theorem refPutField_any (w : World) {a : Option Addr} {n cap : Nat} {xs : List Nat} (h : Rd .u8 w a n cap xs) {a' : Option Addr} {n' cap' : Nat} {ys : List Nat} (h' : Rd .u8 w a' n' cap' ys) (hn : n ≤ 1099511627776) (hn' : n' ≤ 1099511627776) :
    Calls Try.prog 18 #[.slice a n cap, .slice a' n' cap'] w (RetBE w (putFieldX xs ys)) := by
  have hl := h.len
  have hl' := h'.len
  by_cases g1 : 65535 < n'
  · have e : putFieldX xs ys = ([], 4) := by unfold putFieldX; rw [if_pos (by omega)]
    rw [e]
    clear e hl hl'
    go_enter Try.func18, Try.ntmps18
    go_wp2
    go_ret2
    exact ⟨none, 0, 0, rfl, Ow.nil _ _ _ _, Below.refl _ _⟩
  by_cases g2 : 16384 < n + 2 + n'
  · have e : putFieldX xs ys = ([], 4) := by unfold putFieldX; rw [if_pos (by omega)]
    rw [e]
    clear e hl hl'
    go_enter Try.func18, Try.ntmps18
    go_wp2
    go_ret2
    exact ⟨none, 0, 0, rfl, Ow.nil _ _ _ _, Below.refl _ _⟩
  have e : putFieldX xs ys = (xs ++ field ys, 0) := by unfold putFieldX; rw [if_neg (by omega)]
  rw [e]
  have HL := Lib.hid hl
  have HL' := Lib.hid hl'
  clear e hl hl'
  go_enter Try.func18, Try.ntmps18
  go_wp2_with fail
  refine (twin_any _ h hn).mono ?_
  rintro e w1 ⟨a1, n1, cap1, rfl, ho1, hb1⟩
  obtain rfl : n1 = n := by rw [← ho1.len, HL.out]
  have hz := hb1.size
  go_wp2_with fail
  refine (Field_any _ (h'.below hb1) hn').mono ?_
  rintro e w2 ⟨a2, n2, cap2, rfl, ho2, hb2⟩
  obtain rfl : n2 = n' + 2 := by rw [← ho2.len, field_length, HL'.out]
  have hz2 := hb2.size
  have h1 := ho1.below hb2
  go_wp2_with (at_builtin; refine wpList_app rfl _ _ 22 rfl etB w.heap.size rfl h1.own rfl (by simpa using ho2.len) ho2.rd.sl (by unfold maxLen; omega) (by omega) (by omega) ?_; intro a3 cap3 w3 hown3 hg hb3)
  go_ret2
  refine ⟨a3, _, cap3, rfl, ⟨by simp [field_length, HL.out, HL'.out], ?_, append_lt h.bd (field_lt _ h'.bd)⟩, (hb1.trans (hb2.mono hz)).trans hb3⟩
  rw [nums_append]
  exact hown3

/-- New bytes, a place, an error. -/
def RetFN (w : World) (r : List Nat × Int × Int) : Ending → World → Prop := fun e w' =>
  ∃ a n cap, e = .returned (.tuple #[.slice a n cap, .int .i64 r.2.1, .int .i64 r.2.2]) ∧ Ow .u8 5 w.heap.size w' a n cap r.1 ∧ Below w.heap.size w w'
end Go.Proofs.Ytihjopclaihccaa
