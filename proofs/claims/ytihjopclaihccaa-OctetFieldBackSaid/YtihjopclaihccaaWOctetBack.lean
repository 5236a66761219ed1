/- The walks of the laws OctetBack and OctetFieldBack: they return true and turn nothing that was there. No condition. -/
import Derived.Test.YtihjopclaihccaaOctetG
import Derived.Deep.QuietTactic
import Derived.BigQuiet
namespace Go.Proofs.Ytihjopclaihccaa
open Go.RowKit Go.Suf

set_option maxHeartbeats 1000000 in
theorem octetBack_walk (w : World) {a : Option Addr} {n cap : Nat} {xs : List Nat} (h : Rd .u8 w a n cap xs) (m : Nat) (hm : m < lim .u64) (s : Int) (hs1 : -9223372036854775808 ≤ s) (hs2 : s ≤ 9223372036854775807) {a' : Option Addr} {n' cap' : Nat} {ys : List Nat} (h' : Rd .u8 w a' n' cap' ys) :
    Calls Try.prog 6 #[.slice a n cap, .int .u64 (m : Nat), .int .i64 s, .slice a' n' cap'] w fun e w' => e = .returned (.bool true) ∧ Below w.heap.size w w' := by
  have HM : Hid (m < 18446744073709551616) := hm
  clear hm
  go_enter Try.func6, Try.ntmps6
  go_wp2_with fail
  refine (alive_any _).mono ?_
  rintro e w1 ⟨rfl, hb1⟩
  have z1 := hb1.size
  by_cases hbig : 20000 < n
  · go_wp2
    go_ret
    exact ⟨rfl, hb1⟩
  by_cases hbig' : 20000 < n'
  · go_wp2
    go_ret
    exact ⟨rfl, hb1⟩
  have hn : n ≤ 1099511627776 := by omega
  have h1 := h.below hb1
  go_wp2_with fail
  refine (Put_any _ h1 m HM.out s hs1 hs2 hn).mono ?_
  rintro e w2 ⟨a2, n2, c2, rfl, ho2, hb2⟩
  have z2 := hb2.size
  have b2 : Below w.heap.size w w2 := hb1.trans (hb2.mono z1)
  by_cases hok : okSize m s = true
  · by_cases hmany : 16384 - s < n
    · have e : putX xs m s = ([], 4) := by simp only [putX, h.len]; rw [if_pos hok, if_pos hmany]
      rw [e] at ho2 ⊢
      obtain rfl : n2 = 0 := by rw [← ho2.len]; rfl
      clear e hok hmany
      go_wp2
      go_ret
      exact ⟨rfl, b2⟩
    · have e : putX xs m s = (xs ++ dig m s.toNat, 0) := by simp only [putX, h.len]; rw [if_pos hok, if_neg hmany]
      rw [e] at ho2 ⊢
      obtain ⟨t, rfl⟩ : ∃ t : Nat, s = t := ⟨s.toNat, by simp [okSize] at hok; omega⟩
      have ht : t ≤ 8 := by simp [okSize] at hok; omega
      simp only [Int.toNat_natCast] at ho2
      obtain rfl : n2 = n + t := by rw [← ho2.len]; simp [dig_length, h.len]
      have hnt : n + t ≤ 16384 := by omega
      have ex := takeX_put xs ys m t hok
      rw [h.len] at ex
      have EX := Lib.hid ex
      have h2' := h'.below b2
      clear e hok hmany ex
      go_wp2_with (at_builtin; refine wpList_app2 rfl _ _ 22 rfl etB w1.heap.size rfl ho2.own (nums_one _ _) rfl (by simpa using h'.len) h2'.sl (by unfold maxLen; omega) (by omega) z2 ?_; intro a3 c3 w3 hown3 hg3 hb3 hs3)
      have z3 := hb3.size
      have r3 : Rd .u8 w3 a3 (n + t + n') c3 (xs ++ dig m t ++ ys) := ⟨by simp [dig_length, h.len, h'.len]; omega, by rw [nums_append]; exact sl_of_own hown3 (fun u hu => by rw [List.mem_append] at hu; rcases hu with hu | hu; exact nums_one _ _ u hu; exact nums_one _ _ u hu), append_lt (append_lt h.bd (dig_lt _ _)) h'.bd⟩
      have r2 : Rd .u8 w3 a2 (n + t) c2 (xs ++ dig m t) := ⟨ho2.len, hs3, ho2.bd⟩
      refine (Take_any _ r3 n t (by omega) (by omega) (by omega) (by omega)).mono ?_
      rintro e w' ⟨rfl, rfl⟩
      rw [EX.out]
      obtain ⟨a4, r4, f1, f2⟩ := run_upto etB r2 n (by omega)
      have e4 : (xs ++ dig m t).take n = xs := by rw [← h.len]; exact List.take_left
      rw [e4] at r4
      have v1 := fun j => convB (r4.below (below_drewN (Below.refl _ w3) j))
      have b3 : Below w.heap.size w w3 := b2.trans (hb3.mono z1)
      have v2 := fun j => convB ((h.below b3).below (below_drewN (Below.refl _ w3) j))
      go_wp2
      go_quiet (fail)
      go_wp2
      go_ret
      exact ⟨rfl, below_drewN b3 _⟩
  · have e : putX xs m s = ([], 2) := by simp only [putX]; rw [if_neg hok]
    rw [e] at ho2 ⊢
    obtain rfl : n2 = 0 := by rw [← ho2.len]; rfl
    clear e hok
    go_wp2
    go_ret
    exact ⟨rfl, b2⟩

set_option maxHeartbeats 1000000 in
theorem octetFieldBack_walk (w : World) {a : Option Addr} {n cap : Nat} {xs : List Nat} (h : Rd .u8 w a n cap xs) {a' : Option Addr} {n' cap' : Nat} {ys : List Nat} (h' : Rd .u8 w a' n' cap' ys) {a'' : Option Addr} {n'' cap'' : Nat} {zs : List Nat} (h'' : Rd .u8 w a'' n'' cap'' zs) :
    Calls Try.prog 7 #[.slice a n cap, .slice a' n' cap', .slice a'' n'' cap''] w fun e w' => e = .returned (.bool true) ∧ Below w.heap.size w w' := by
  go_enter Try.func7, Try.ntmps7
  go_wp2_with fail
  refine (alive_any _).mono ?_
  rintro e w1 ⟨rfl, hb1⟩
  have z1 := hb1.size
  by_cases hbig : 20000 < n
  · go_wp2
    go_ret
    exact ⟨rfl, hb1⟩
  by_cases hbig' : 70000 < n'
  · go_wp2
    go_ret
    exact ⟨rfl, hb1⟩
  by_cases hbig'' : 20000 < n''
  · go_wp2
    go_ret
    exact ⟨rfl, hb1⟩
  have hn : n ≤ 1099511627776 := by omega
  have hn' : n' ≤ 1099511627776 := by omega
  have h1 := h.below hb1
  have h1' := h'.below hb1
  go_wp2_with fail
  refine (PutField_any _ h1 h1' hn hn').mono ?_
  rintro e w2 ⟨a2, n2, c2, rfl, ho2, hb2⟩
  have z2 := hb2.size
  have b2 : Below w.heap.size w w2 := hb1.trans (hb2.mono z1)
  by_cases hmany : 65535 < n' ∨ 16384 < n + 2 + n'
  · have e : putFieldX xs ys = ([], 4) := by unfold putFieldX; rw [h.len, h'.len, if_pos hmany]
    rw [e] at ho2 ⊢
    obtain rfl : n2 = 0 := by rw [← ho2.len]; rfl
    have hgt : 16384 < n + n' + 2 := by omega
    have hgt2 : decide ((16384 : Int) < (n : Int) + (n' : Int) + 2) = true := by simp; omega
    clear e hmany
    go_wp2
    go_ret
    exact ⟨by simp, b2⟩
  · have e : putFieldX xs ys = (xs ++ field ys, 0) := by unfold putFieldX; rw [h.len, h'.len, if_neg hmany]
    rw [e] at ho2 ⊢
    simp only at ho2
    obtain rfl : n2 = n + 2 + n' := by rw [← ho2.len]; simp [field_length, h.len, h'.len]; omega
    have hnt : n + 2 + n' ≤ 16384 := by omega
    have ex := takeFieldX_put xs ys zs (by have := h'.len; omega)
    rw [h.len, h'.len] at ex
    have EX := Lib.hid ex
    have h2' := h''.below b2
    clear e hmany ex
    go_wp2_with (at_builtin; refine wpList_app2 rfl _ _ 22 rfl etB w1.heap.size rfl ho2.own (nums_one _ _) rfl (by simpa using h''.len) h2'.sl (by unfold maxLen; omega) (by omega) z2 ?_; intro a3 c3 w3 hown3 hg3 hb3 hs3)
    have z3 := hb3.size
    have r3 : Rd .u8 w3 a3 (n + 2 + n' + n'') c3 (xs ++ field ys ++ zs) := ⟨by simp [field_length, h.len, h'.len, h''.len]; omega, by rw [nums_append]; exact sl_of_own hown3 (fun u hu => by rw [List.mem_append] at hu; rcases hu with hu | hu; exact nums_one _ _ u hu; exact nums_one _ _ u hu), append_lt (append_lt h.bd (field_lt _ h'.bd)) h''.bd⟩
    refine (TakeField_any _ r3 n (by omega) (by omega) (by omega)).mono ?_
    rintro e w4 ⟨a4, n4, c4, rfl, ho4, hb4⟩
    have z4 := hb4.size
    rw [EX.out] at ho4 ⊢
    have b4 : Below w.heap.size w w4 := (b2.trans (hb3.mono z1)).trans (hb4.mono (by omega))
    have v1 := convB ho4.rd
    have v2 := convB (h'.below b4)
    go_wp2
    go_ret
    exact ⟨rfl, b4⟩
end Go.Proofs.Ytihjopclaihccaa
