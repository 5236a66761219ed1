/- The walk of the law ContestRules: it returns true and turns nothing that was there. No condition. -/
import Derived.Test.YtnkbkcmphgejkaaConC
namespace Go.Proofs.Ytnkbkcmphgejkaa
open Go.RowKit Go.Suf

set_option maxRecDepth 100000 in
set_option maxHeartbeats 1000000 in
theorem contestRules_walk (w : World) (n : Nat) (hn0 : n < lim .u8) (c : Int) (hc1 : -9223372036854775808 ≤ c) (hc2 : c ≤ 9223372036854775807) (s : ByteArray) (_hs : s.size ≤ maxLen) :
    Calls Try.prog 3 #[.int .u8 (n : Nat), .int .i64 c, .string s] w fun e w' => e = .returned (.bool true) ∧ Below w.heap.size w w' := by
  have hn : n < 256 := hn0
  clear hn0
  by_cases hbig : 1000 < s.size
  · go_enter Try.func3, Try.ntmps3
    go_wp2
    go_ret
    exact ⟨rfl, Below.refl _ _⟩
  go_enter Try.func3, Try.ntmps3
  go_wp2_with fail
  refine (Kind_any _ n hn).mono ?_
  rintro e w1 ⟨rfl, hb1⟩
  have hz1 := hb1.size
  go_wp2_with fail
  refine (refKind_any _ n hn).mono ?_
  rintro e w' ⟨rfl, rfl⟩
  go_wp2_with fail
  refine (Most_any _ n hn c hc1 hc2).mono ?_
  rintro e w2 ⟨rfl, hb2⟩
  have hz2 := hb2.size
  go_wp2_with fail
  refine (refMost_any _ n hn c hc1 hc2).mono ?_
  rintro e w' ⟨rfl, rfl⟩
  go_wp2_with fail
  refine (Word_any _ n hn).mono ?_
  rintro e w3 ⟨rfl, hb3⟩
  have hz3 := hb3.size
  go_wp2_with fail
  refine (refWord_any _ n hn).mono ?_
  rintro e w4 ⟨rfl, hb4⟩
  have hz4 := hb4.size
  go_wp2_with fail
  refine (Rule_any _ s).mono ?_
  rintro e w5 ⟨rfl, hb5⟩
  have hz5 := hb5.size
  go_wp2_with fail
  refine (refRule_any _ s).mono ?_
  rintro e w6 ⟨rfl, hb6⟩
  have hb : Below w.heap.size w w6 := (((((hb1.trans (hb2.mono hz1)).trans (hb3.mono (by omega))).trans (hb4.mono (by omega))).trans (hb5.mono (by omega))).trans (hb6.mono (by omega)))
  go_wp2
  go_ret
  exact ⟨rfl, hb⟩
end Go.Proofs.Ytnkbkcmphgejkaa
