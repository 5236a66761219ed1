/- The walk of the law OctetFields: it returns true and turns nothing that was there. No condition. -/
import Derived.Test.YtihjopclaihccaaWOctetTells
namespace Go.Proofs.Ytihjopclaihccaa
open Go.RowKit Go.Suf

set_option maxHeartbeats 1000000 in
theorem octetFields_walk (w : World) {a : Option Addr} {n cap : Nat} {xs : List Nat} (h : Rd .u8 w a n cap xs) {a' : Option Addr} {n' cap' : Nat} {ys : List Nat} (h' : Rd .u8 w a' n' cap' ys) (i : Int) (hi1 : -9223372036854775808 ≤ i) (hi2 : i ≤ 9223372036854775807) :
    Calls Try.prog 4 #[.slice a n cap, .slice a' n' cap', .int .i64 i] w fun e w' => e = .returned (.bool true) ∧ Below w.heap.size w w' := by
  by_cases hbig : 20000 < n
  · go_enter Try.func4, Try.ntmps4
    go_wp2
    go_ret
    exact ⟨rfl, Below.refl _ _⟩
  by_cases hbig' : 70000 < n'
  · go_enter Try.func4, Try.ntmps4
    go_wp2
    go_ret
    exact ⟨rfl, Below.refl _ _⟩
  have hn : n ≤ 1099511627776 := by omega
  have hn' : n' ≤ 1099511627776 := by omega
  go_enter Try.func4, Try.ntmps4
  go_wp2_with fail
  refine (twin_any _ h hn).mono ?_
  rintro e w1 ⟨a1, n1, c1, rfl, ho1, hb1⟩
  have hn1 : n1 ≤ 1099511627776 := by have := ho1.len; have := h.len; omega
  have hz1 := hb1.size
  have h1' := h'.below hb1
  go_wp2_with fail
  refine (twin_any _ h1' hn').mono ?_
  rintro e w2 ⟨a2, n2, c2, rfl, ho2, hb2⟩
  have hn2 : n2 ≤ 1099511627776 := by have := ho2.len; have := h'.len; omega
  have hz2 := hb2.size
  go_wp2_with fail
  refine (PutField_any _ (ho1.rd.below hb2) ho2.rd hn1 hn2).mono ?_
  rintro e w3 ⟨a3, n3, c3, rfl, ho3, hb3⟩
  have hz3 := hb3.size
  have b13 : Below w.heap.size w w3 := (hb1.trans (hb2.mono hz1)).trans (hb3.mono (by omega))
  go_wp2_with fail
  refine (refPutField_any _ (h.below b13) (h'.below b13) hn hn').mono ?_
  rintro e w4 ⟨a4, n4, c4, rfl, ho4, hb4⟩
  have hz4 := hb4.size
  go_wp2_with fail
  refine (TakeField_any _ (((ho1.rd.below hb2).below hb3).below hb4) i hi1 hi2 hn1).mono ?_
  rintro e w5 ⟨a5, n5, c5, rfl, ho5, hb5⟩
  have hz5 := hb5.size
  have b15 : Below w.heap.size w w5 := (b13.trans (hb4.mono (by omega))).trans (hb5.mono (by omega))
  go_wp2_with fail
  refine (refTakeField_any _ (h.below b15) i hi1 hi2 hn).mono ?_
  rintro e w6 ⟨a6, n6, c6, rfl, ho6, hb6⟩
  have hz6 := hb6.size
  have v1 := convB (((ho3.rd.below hb4).below hb5).below hb6)
  have v2 := convB ((ho4.rd.below hb5).below hb6)
  have v3 := convB (ho5.rd.below hb6)
  have v4 := convB ho6.rd
  have hn3 : n3 ≤ 1099511627776 := by have := ho3.len; have := putFieldX_length xs ys; omega
  have hn5 : n5 ≤ 1099511627776 := by have := ho5.len; have := takeFieldX_length xs i; have := h.len; omega
  have wb3 := ((((Wb.of_own ho3).below hb4).below hb5).below hb6)
  have wb5 := ((Wb.of_own ho5).below hb6).mono (show w2.heap.size ≤ w4.heap.size by omega)
  go_wp2_with fail
  refine (spoil_any _ wb3 hn3).mono ?_
  rintro e w7 ⟨rfl, sp⟩
  clear v1 v2 v3 v4
  go_wp2_with fail
  refine (spoil_any _ (sp.rows _ _ wb5) hn5).mono ?_
  rintro e w8 ⟨rfl, sp'⟩
  have hb8 : Below w2.heap.size w2 w8 := (hb3.trans (((hb4.mono (by omega)).trans (hb5.mono (by omega))).trans (hb6.mono (by omega)))).trans (sp.below.trans sp'.below)
  have b8 : Below w.heap.size w w8 := (hb1.trans (hb2.mono hz1)).trans (hb8.mono (by omega))
  have u1 := convB ((ho1.rd.below hb2).below hb8)
  have u2 := convB (h.below b8)
  have u3 := convB (ho2.rd.below hb8)
  have u4 := convB (h'.below b8)
  go_wp2
  go_ret
  exact ⟨rfl, b8⟩
end Go.Proofs.Ytihjopclaihccaa
