/- The walk of the law OctetOrder: it returns true and turns nothing that was there. No condition. -/
import Derived.Test.YtihjopclaihccaaOctetG
namespace Go.Proofs.Ytihjopclaihccaa
open Go.RowKit Go.Suf

set_option maxHeartbeats 1000000 in
theorem octetOrder_walk (w : World) (n : Nat) (hn : n < lim .u64) (m : Nat) (hm : m < lim .u64) (s : Int) (hs1 : -9223372036854775808 ≤ s) (hs2 : s ≤ 9223372036854775807) :
    Calls Try.prog 8 #[.int .u64 (n : Nat), .int .u64 (m : Nat), .int .i64 s] w fun e w' => e = .returned (.bool true) ∧ Below w.heap.size w w' := by
  have HN : Hid (n < 18446744073709551616) := hn
  have HM : Hid (m < 18446744073709551616) := hm
  clear hn hm
  have put : ∀ n s, (okSize n s = true ∧ putX [] n s = (dig n s.toNat, 0)) ∨ (okSize n s = false ∧ putX [] n s = ([], 2)) := by
    intro n s
    by_cases h : okSize n s = true
    · have : s ≤ 8 := by simp [okSize] at h; omega
      exact .inl ⟨h, by unfold putX; rw [if_pos h, if_neg (by simp; omega)]; simp⟩
    · exact .inr ⟨by simpa using h, by unfold putX; rw [if_neg h]⟩
  go_enter Try.func8, Try.ntmps8
  go_wp2_with fail
  refine (alive_any _).mono ?_
  rintro e w1 ⟨rfl, hb1⟩
  have z1 := hb1.size
  go_wp2_with fail
  refine (Put_any _ (Rd.nil .u8 _) n HN.out s hs1 hs2 (by omega)).mono ?_
  rintro e w2 ⟨a2, n2, c2, rfl, ho2, hb2⟩
  have z2 := hb2.size
  go_wp2_with fail
  refine (Put_any _ (Rd.nil .u8 _) m HM.out s hs1 hs2 (by omega)).mono ?_
  rintro e w3 ⟨a3, n3, c3, rfl, ho3, hb3⟩
  have z3 := hb3.size
  have b3 : Below w.heap.size w w3 := (hb1.trans (hb2.mono z1)).trans (hb3.mono (by omega))
  have ho2' := ho2.below hb3
  rcases put n s with ⟨k1, e1⟩ | ⟨k1, e1⟩
  · rcases put m s with ⟨k2, e2⟩ | ⟨k2, e2⟩
    · rw [e1] at ho2' ⊢
      rw [e2] at ho3 ⊢
      obtain ⟨t, rfl⟩ : ∃ t : Nat, s = t := ⟨s.toNat, by simp [okSize] at k1; omega⟩
      have v1 := convB ho2'.rd
      have v2 := convB ho3.rd
      have hn2 : n2 = t := by rw [← ho2'.len]; simp [dig_length]
      have hn3 : n3 = t := by rw [← ho3.len]; simp [dig_length]
      subst hn2
      subst hn3
      have l1 : n < 256 ^ n3 := by simp [okSize] at k1; exact k1.2.2
      have l2 : m < 256 ^ n3 := by simp [okSize] at k2; exact k2.2.2
      have d1 := dig_less l1 l2
      have d2 := dig_same l1 l2
      simp only [Int.toNat_natCast] at v1 v2
      clear e1 e2 k1 k2 put ho2 ho2' ho3 l1 l2
      rcases Nat.lt_trichotomy n m with h | h | h
      · have q1 : decide (n < m) = true := by simpa using h
        have q2 : decide (n = m) = false := by simp; omega
        have q3 : ((n : Int) == (m : Int)) = false := by simp; omega
        rw [q1] at d1
        rw [q2] at d2
        go_wp2
        go_ret
        exact ⟨rfl, b3⟩
      · subst h
        have q1 : decide (n < n) = false := by simp
        have q2 : decide (n = n) = true := by simp
        rw [q1] at d1
        clear d2
        go_wp2
        go_ret
        exact ⟨rfl, b3⟩
      · have q1 : decide (n < m) = false := by simp; omega
        have q2 : decide (n = m) = false := by simp; omega
        have q3 : ((n : Int) == (m : Int)) = false := by simp; omega
        rw [q1] at d1
        rw [q2] at d2
        go_wp2
        go_ret
        exact ⟨rfl, b3⟩
    · rw [e1, e2]
      clear e1 e2 k1 k2 put
      go_wp2
      go_ret
      exact ⟨rfl, b3⟩
  · rw [e1]
    clear e1 k1 put
    go_wp2
    go_ret
    exact ⟨rfl, b3⟩
end Go.Proofs.Ytihjopclaihccaa
