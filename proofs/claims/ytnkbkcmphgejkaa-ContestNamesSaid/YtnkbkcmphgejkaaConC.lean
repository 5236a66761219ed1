/- What Rule computes, in the program and in the document's answer. No condition. -/
import Derived.Test.YtnkbkcmphgejkaaConB
set_option linter.unusedVariables false
set_option linter.unusedSimpArgs false
namespace Go.Proofs.Ytnkbkcmphgejkaa
open Go.RowKit Go.Suf

set_option maxRecDepth 100000 in
set_option maxHeartbeats 1000000 in
theorem refRule_any (w : World) (s : ByteArray) : Calls Try.prog 17 #[.string s] w fun e w' => e = .returned (.tuple #[.int .u8 ((ruleC s).1 : Nat), .int .i64 (ruleC s).2]) ∧ Below w.heap.size w w' := by
  go_enter Try.func17, Try.ntmps17
  go_wp2_with fail
  refine (words_any _).mono ?_
  rintro e w2 ⟨rfl, rfl⟩
  go_wp2_with fail
  go_loop [5] (fun j => ∃ i, 1 ≤ i ∧ i ≤ 17 ∧ j = .int .i64 (i : Nat) ∧ Hid (∀ k, k < i → isWord s k = false)) (fun j => 17 - (intOf j).toNat)
  case atStart => exact ⟨1, by omega, by omega, rfl, Lib.hid fun k hk => by obtain rfl : k = 0 := by omega
                                                                            rfl⟩
  case round =>
    obtain ⟨i, hi1, hi2, rfl, hS⟩ := hrel
    by_cases hlt : i < 17
    · have hc : (w.alloc (.cells wordsTab.toArray 9)).cell? ⟨w.heap.size, i, none⟩ = some (.string (wordN i)) := by
        simp only [World.cell?, heap_alloc_new, List.getElem?_toArray, wordsTab_at i hlt]
        rfl
      cases hb : ((wordN i).toList == s.toList)
      · have HB := Lib.hid hb
        go_wp2
        go_round
        case rel => exact ⟨i + 1, by omega, by omega, by go_num, Lib.hid fun k hk => by
                      by_cases hki : k < i
                      · exact hS.out k hki
                      · obtain rfl : k = i := by omega
                        simp [isWord, HB.out]⟩
        case measure => simp [intOf]; omega
      · have HB := Lib.hid hb
        go_wp2
        go_ret2
        rw [ruleC_at hlt (by simp [isWord, HB.out, hi1]) hS.out]
        exact ⟨rfl, (Below.refl _ _).alloc (Nat.le_refl _) _⟩
    · obtain rfl : i = 17 := by omega
      go_wp2
      go_ret2
      rw [ruleC_none hS.out]
      exact ⟨rfl, (Below.refl _ _).alloc (Nat.le_refl _) _⟩

theorem row_extract (i : Nat) (h : i < 17) : ruleTab.toArray.extract (i * 4) (i * 4 + 4) = #[.string (wordN i), .int .u8 (kindN i : Nat), .int .i64 (seatsN i : Nat), .bool (aloneN i)] := by
  rw [← ruleRow_eq, ← ruleTab_at i h]
  simp [Nat.mul_comm]

theorem row_one (i : Nat) : ∀ u ∈ (#[.string (wordN i), .int .u8 (kindN i : Nat), .int .i64 (seatsN i : Nat), .bool (aloneN i)] : Array Value).toList, u.oneCell' = true := ruleRow_one i

set_option maxRecDepth 100000 in
set_option maxHeartbeats 1000000 in
theorem Rule_any (w : World) (s : ByteArray) : Calls Try.prog 16 #[.string s] w fun e w' => e = .returned (.tuple #[.int .u8 ((ruleC s).1 : Nat), .int .i64 (ruleC s).2]) ∧ Below w.heap.size w w' := by
  go_enter Try.func16, Try.ntmps16
  go_wp2_with fail
  refine (rules_any _).mono ?_
  rintro e w2 ⟨rfl, hb2⟩
  go_wp2_with fail
  go_loopw [7] (fun j wr => ∃ i, i ≤ 17 ∧ j = .int .i64 (i : Nat) ∧ Below w.heap.size w wr ∧ Hid (∀ k, k < i → isWord s k = false)) (fun j _ => 17 - (intOf j).toNat)
  case atStart => exact ⟨0, by omega, rfl, hb2, Lib.hid fun k hk => absurd hk (by omega)⟩
  case round =>
    rename_i wr _
    obtain ⟨i, hi2, rfl, hb, hS⟩ := hrel
    have hz := hb.size
    by_cases hlt : i < 17
    · have hx := row_extract i hlt
      have hsl := seats_le i
      by_cases hs0 : seatsN i = 0
      · have hw : isWord s i = false := by
          have := (isR_not i).1 ((seats_zero i).1 hs0)
          simp [isWord, show ¬ 1 ≤ i by omega]
        have HW := Lib.hid hw
        clear hw
        go_wp2_with first | refine wpList_index_agg rfl 74 _ _ rfl Try.underlying74 atRule _ _ i rfl rfl hlt hx ?_ | refine wpList_store_new rfl 68 _ _ rfl atRule _ _ _ rfl rfl rfl rfl (row_one i) ?_
        go_roundw
        case rel => exact ⟨i + 1, by omega, by go_num, hb.alloc hz _, Lib.hid fun k hk => by
                      by_cases hki : k < i
                      · exact hS.out k hki
                      · obtain rfl : k = i := by omega
                        exact HW.out⟩
        case measure => simp [intOf]; omega
      have h1 : 1 ≤ i := ((isR_iff i).1 (by
        cases h : isR i
        · exact absurd ((seats_zero i).2 h) hs0
        · rfl)).1
      cases hq : ((wordN i).toList == s.toList)
      · have HQ := Lib.hid hq
        go_wp2_with first | refine wpList_index_agg rfl 74 _ _ rfl Try.underlying74 atRule _ _ i rfl rfl hlt hx ?_ | refine wpList_store_new rfl 68 _ _ rfl atRule _ _ _ rfl rfl rfl rfl (row_one i) ?_
        go_roundw
        case rel => exact ⟨i + 1, by omega, by go_num, hb.alloc hz _, Lib.hid fun k hk => by
                      by_cases hki : k < i
                      · exact hS.out k hki
                      · obtain rfl : k = i := by omega
                        simp [isWord, HQ.out]⟩
        case measure => simp [intOf]; omega
      · have HQ := Lib.hid hq
        go_wp2_with first | refine wpList_index_agg rfl 74 _ _ rfl Try.underlying74 atRule _ _ i rfl rfl hlt hx ?_ | refine wpList_store_new rfl 68 _ _ rfl atRule _ _ _ rfl rfl rfl rfl (row_one i) ?_
        go_ret2
        rw [ruleC_at hlt (by simp [isWord, HQ.out, h1]) hS.out]
        exact ⟨rfl, hb.alloc hz _⟩
    · obtain rfl : i = 17 := by omega
      go_wp2
      go_ret2
      rw [ruleC_none hS.out]
      exact ⟨rfl, hb⟩

end Go.Proofs.Ytnkbkcmphgejkaa
