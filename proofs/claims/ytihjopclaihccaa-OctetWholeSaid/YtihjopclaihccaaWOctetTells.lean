/- The walk of the law OctetTells: it returns true and turns nothing that was there. No condition. -/
import Derived.Test.YtihjopclaihccaaOctetC
namespace Go.Proofs.Ytihjopclaihccaa
open Go.RowKit Go.Suf

theorem convB {w : World} {a : Option Addr} {n cap : Nat} {xs : List Nat} (h : Rd .u8 w a n cap xs) :
    Sem.run Try.prog (convert 22 9 (.slice a n cap)) w = .ok (.string (strB xs)) w :=
  conv_str h Try.underlying22 Try.underlying5 Try.underlying9

set_option maxHeartbeats 1000000 in
theorem octetTells_walk (w : World) {a : Option Addr} {n cap : Nat} {xs : List Nat} (h : Rd .u8 w a n cap xs) (m : Nat) (hm : m < lim .u64) (i : Int) (hi1 : -9223372036854775808 ≤ i) (hi2 : i ≤ 9223372036854775807) (s : Int) (hs1 : -9223372036854775808 ≤ s) (hs2 : s ≤ 9223372036854775807) :
    Calls Try.prog 3 #[.slice a n cap, .int .u64 (m : Nat), .int .i64 i, .int .i64 s] w fun e w' => e = .returned (.bool true) ∧ Below w.heap.size w w' := by
  have HM : Hid (m < 18446744073709551616) := hm
  clear hm
  by_cases hbig : 20000 < n
  · go_enter Try.func3, Try.ntmps3
    go_wp2
    go_ret
    exact ⟨rfl, Below.refl _ _⟩
  have hn : n ≤ 1099511627776 := by omega
  go_enter Try.func3, Try.ntmps3
  go_wp2_with fail
  refine (twin_any _ h hn).mono ?_
  rintro e w1 ⟨a1, n1, c1, rfl, ho1, hb1⟩
  have hn1 : n1 ≤ 1099511627776 := by have := ho1.len; have := h.len; omega
  have hz1 := hb1.size
  have h1 := h.below hb1
  go_wp2_with fail
  refine (Put_any _ ho1.rd m HM.out s hs1 hs2 hn1).mono ?_
  rintro e w2 ⟨a2, n2, c2, rfl, ho2, hb2⟩
  have hz2 := hb2.size
  have h2 := h1.below hb2
  go_wp2_with fail
  refine (refPut_any _ h2 m HM.out s hs1 hs2 hn).mono ?_
  rintro e w3 ⟨a3, n3, c3, rfl, ho3, hb3⟩
  have hz3 := hb3.size
  have h3 := h2.below hb3
  have r1 := ho1.rd.below (hb2.trans (hb3.mono hz2))
  go_wp2_with fail
  refine (Take_any _ r1 i s hi1 hi2 hs1 hs2).mono ?_
  rintro e w' ⟨rfl, rfl⟩
  go_wp2_with fail
  refine (refTake_any _ h3 i s hi1 hi2 hs1 hs2 hn).mono ?_
  rintro e w' ⟨rfl, rfl⟩
  have v1 := convB (ho2.below hb3).rd
  have v2 := convB ho3.rd
  have hn2 : n2 ≤ 1099511627776 := by have := ho2.len; have := putX_length xs m s; omega
  go_wp2_with fail
  refine (spoil_any _ ((Wb.of_own ho2).below hb3) hn2).mono ?_
  rintro e w4 ⟨rfl, sp⟩
  clear v1 v2
  have hb4 : Below w1.heap.size w1 w4 := (hb2.trans (hb3.mono hz2)).trans sp.below
  have v3 := convB (ho1.rd.below hb4)
  have v4 := convB (h.below (hb1.trans (hb4.mono hz1)))
  go_wp2
  go_ret
  exact ⟨rfl, hb1.trans (hb4.mono hz1)⟩
end Go.Proofs.Ytihjopclaihccaa
