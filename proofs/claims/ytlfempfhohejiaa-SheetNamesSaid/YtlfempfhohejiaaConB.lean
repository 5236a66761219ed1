/- What Kind, Most and Word compute, in the program and in the document's answer. No condition. -/
import Derived.Test.YtlfempfhohejiaaConA
set_option linter.unusedVariables false
set_option linter.unusedSimpArgs false
namespace Go.Proofs.Ytlfempfhohejiaa
open Go.RowKit Go.Suf

theorem f1 : fieldOk Try.prog 93 0 0 = true := by kernel_rfl
theorem f2 : fieldOk Try.prog 93 1 1 = true := by kernel_rfl
theorem f3 : fieldOk Try.prog 93 2 2 = true := by kernel_rfl
theorem f4 : fieldOk Try.prog 93 3 3 = true := by kernel_rfl

theorem Is_any (w : World) (n : Nat) (hn : n < 256) : Calls Try.prog 69 #[.int .u8 (n : Nat)] w fun e w' => e = .returned (.bool (isR n)) ∧ w = w' := by
  by_cases h1 : 1 ≤ n <;> by_cases h2 : n ≤ 16
  all_goals
    go_enter Try.func69, Try.ntmps69
    go_wp2
    all_goals
      go_ret
      exact ⟨by simp [isR, h1, h2] <;> omega, rfl⟩

theorem Lists_any (w : World) (n : Nat) (hn : n < 256) : Calls Try.prog 61 #[.int .u8 (n : Nat)] w fun e w' => e = .returned (.bool (listsN n)) ∧ w = w' := by
  by_cases h1 : 14 ≤ n <;> by_cases h2 : n ≤ 16
  all_goals
    go_enter Try.func61, Try.ntmps61
    go_wp2
    all_goals
      go_ret
      exact ⟨by simp [listsN, h1, h2] <;> omega, rfl⟩

theorem KindOf_any (w : World) (n : Nat) (_hn : n < 256) : Calls Try.prog 41 #[.int .u8 (n : Nat)] w fun e w' => e = .returned (.int .u8 (kindOf n : Nat)) ∧ w = w' := by
  go_enter Try.func41, Try.ntmps41
  go_wp2
  all_goals
    go_ret
    refine ⟨congrArg (fun x : Int => Ending.returned (Value.int .u8 x)) ?_, rfl⟩
    simp only [beq_iff_eq, beq_eq_false_iff_ne, ne_eq] at *
    unfold kindOf
    split
    · omega
    · split <;> omega

/-- The word of a rule, out of the table. -/
def wordsTab : List Value := (List.range 17).map fun i => .string (wordN i)

set_option maxRecDepth 100000 in
theorem Kind_any (w : World) (n : Nat) (hn : n < 256) : Calls Try.prog 24 #[.int .u8 (n : Nat)] w fun e w' => e = .returned (.tuple #[.int .u8 ((kindC n).1 : Nat), .int .i64 (kindC n).2]) ∧ Below w.heap.size w w' := by
  have hz := seats_zero n
  have hs := seats_le n
  have hk := kind_le n
  go_enter Try.func24, Try.ntmps24
  go_wp2_with first | refine wpList_field rfl 93 _ 0 0 rfl f1 _ _ rfl rfl ?_ | refine wpList_field rfl 93 _ 1 1 rfl f2 _ _ rfl rfl ?_ | refine wpList_field rfl 93 _ 2 2 rfl f3 _ _ rfl rfl ?_ | refine wpList_field rfl 93 _ 3 3 rfl f4 _ _ rfl rfl ?_
  refine (of_any _ _ hn).mono ?_
  rintro e w1 ⟨rfl, hb1⟩
  by_cases h : seatsN n = 0
  · have hi := hz.1 h
    go_wp2_with first | refine wpList_field rfl 93 _ 0 0 rfl f1 _ _ rfl rfl ?_ | refine wpList_field rfl 93 _ 1 1 rfl f2 _ _ rfl rfl ?_ | refine wpList_field rfl 93 _ 2 2 rfl f3 _ _ rfl rfl ?_ | refine wpList_field rfl 93 _ 3 3 rfl f4 _ _ rfl rfl ?_
    go_ret2
    exact ⟨by simp [kindC, hi], hb1⟩
  · have hi : isR n = true := by simpa using mt hz.2 h
    go_wp2_with first | refine wpList_field rfl 93 _ 0 0 rfl f1 _ _ rfl rfl ?_ | refine wpList_field rfl 93 _ 1 1 rfl f2 _ _ rfl rfl ?_ | refine wpList_field rfl 93 _ 2 2 rfl f3 _ _ rfl rfl ?_ | refine wpList_field rfl 93 _ 3 3 rfl f4 _ _ rfl rfl ?_
    refine (of_any _ _ hn).mono ?_
    rintro e w2 ⟨rfl, hb2⟩
    go_wp2_with first | refine wpList_field rfl 93 _ 0 0 rfl f1 _ _ rfl rfl ?_ | refine wpList_field rfl 93 _ 1 1 rfl f2 _ _ rfl rfl ?_ | refine wpList_field rfl 93 _ 2 2 rfl f3 _ _ rfl rfl ?_ | refine wpList_field rfl 93 _ 3 3 rfl f4 _ _ rfl rfl ?_
    go_ret2
    exact ⟨by simp [kindC, hi], hb1.trans (hb2.mono hb1.size)⟩

set_option maxRecDepth 100000 in
theorem Most_any (w : World) (n : Nat) (hn : n < 256) (c : Int) (hc1 : -9223372036854775808 ≤ c) (hc2 : c ≤ 9223372036854775807) :
    Calls Try.prog 25 #[.int .u8 (n : Nat), .int .i64 c] w fun e w' => e = .returned (.tuple #[.int .i64 (mostC n c).1, .int .i64 (mostC n c).2]) ∧ Below w.heap.size w w' := by
  have hs := seats_le n
  cases hi : isR n
  · have h := (seats_zero n).2 hi
    go_enter Try.func25, Try.ntmps25
    go_wp2_with first | refine wpList_field rfl 93 _ 0 0 rfl f1 _ _ rfl rfl ?_ | refine wpList_field rfl 93 _ 1 1 rfl f2 _ _ rfl rfl ?_ | refine wpList_field rfl 93 _ 2 2 rfl f3 _ _ rfl rfl ?_ | refine wpList_field rfl 93 _ 3 3 rfl f4 _ _ rfl rfl ?_
    refine (of_any _ _ hn).mono ?_
    rintro e w1 ⟨rfl, hb1⟩
    go_wp2_with first | refine wpList_field rfl 93 _ 0 0 rfl f1 _ _ rfl rfl ?_ | refine wpList_field rfl 93 _ 1 1 rfl f2 _ _ rfl rfl ?_ | refine wpList_field rfl 93 _ 2 2 rfl f3 _ _ rfl rfl ?_ | refine wpList_field rfl 93 _ 3 3 rfl f4 _ _ rfl rfl ?_
    go_ret2
    exact ⟨by simp [mostC, hi], hb1⟩
  have h : ¬ seatsN n = 0 := fun h => by rw [(seats_zero n).1 h] at hi; simp at hi
  have hf : mostC n c = if c < 1 ∨ 10 < c then (0, 2) else if aloneN n = true then (1, 0) else (c, 0) := by
    unfold mostC
    by_cases h1 : c < 1
    · simp [h1, show ¬ 1 ≤ c by omega]
    by_cases h2 : 10 < c
    · simp [h2, show ¬ c ≤ 10 by omega]
    rw [if_pos ⟨hi, by omega, by omega⟩, if_neg (by omega)]
    have := alone_marks n hi
    cases hal : aloneN n
    · rw [hal] at this
      simp at this
      simp [marksN, this]
    · rw [hal] at this
      simp at this
      simp [marksN, this]
  generalize mostC n c = r at hf ⊢
  have HF := Lib.hid hf
  clear hf hi
  go_enter Try.func25, Try.ntmps25
  go_wp2_with first | refine wpList_field rfl 93 _ 0 0 rfl f1 _ _ rfl rfl ?_ | refine wpList_field rfl 93 _ 1 1 rfl f2 _ _ rfl rfl ?_ | refine wpList_field rfl 93 _ 2 2 rfl f3 _ _ rfl rfl ?_ | refine wpList_field rfl 93 _ 3 3 rfl f4 _ _ rfl rfl ?_
  refine (of_any _ _ hn).mono ?_
  rintro e w1 ⟨rfl, hb1⟩
  by_cases h1 : c < 1
  · go_wp2_with first | refine wpList_field rfl 93 _ 0 0 rfl f1 _ _ rfl rfl ?_ | refine wpList_field rfl 93 _ 1 1 rfl f2 _ _ rfl rfl ?_ | refine wpList_field rfl 93 _ 2 2 rfl f3 _ _ rfl rfl ?_ | refine wpList_field rfl 93 _ 3 3 rfl f4 _ _ rfl rfl ?_
    go_ret2
    exact ⟨by rw [HF.out, if_pos (Or.inl h1)]; rfl, hb1⟩
  by_cases h2 : 10 < c
  · go_wp2_with first | refine wpList_field rfl 93 _ 0 0 rfl f1 _ _ rfl rfl ?_ | refine wpList_field rfl 93 _ 1 1 rfl f2 _ _ rfl rfl ?_ | refine wpList_field rfl 93 _ 2 2 rfl f3 _ _ rfl rfl ?_ | refine wpList_field rfl 93 _ 3 3 rfl f4 _ _ rfl rfl ?_
    go_ret2
    exact ⟨by rw [HF.out, if_pos (Or.inr h2)]; rfl, hb1⟩
  go_wp2_with first | refine wpList_field rfl 93 _ 0 0 rfl f1 _ _ rfl rfl ?_ | refine wpList_field rfl 93 _ 1 1 rfl f2 _ _ rfl rfl ?_ | refine wpList_field rfl 93 _ 2 2 rfl f3 _ _ rfl rfl ?_ | refine wpList_field rfl 93 _ 3 3 rfl f4 _ _ rfl rfl ?_
  · exfalso
    simp only [beq_iff_eq] at *
    omega
  refine (of_any _ _ hn).mono ?_
  rintro e w2 ⟨rfl, hb2⟩
  cases hal : aloneN n
  · go_wp2_with first | refine wpList_field rfl 93 _ 0 0 rfl f1 _ _ rfl rfl ?_ | refine wpList_field rfl 93 _ 1 1 rfl f2 _ _ rfl rfl ?_ | refine wpList_field rfl 93 _ 2 2 rfl f3 _ _ rfl rfl ?_ | refine wpList_field rfl 93 _ 3 3 rfl f4 _ _ rfl rfl ?_
    go_ret2
    have hl : ¬ (c < 1 ∨ 10 < c) := by omega
    exact ⟨by rw [HF.out, if_neg hl, hal]; rfl, hb1.trans (hb2.mono hb1.size)⟩
  · go_wp2_with first | refine wpList_field rfl 93 _ 0 0 rfl f1 _ _ rfl rfl ?_ | refine wpList_field rfl 93 _ 1 1 rfl f2 _ _ rfl rfl ?_ | refine wpList_field rfl 93 _ 2 2 rfl f3 _ _ rfl rfl ?_ | refine wpList_field rfl 93 _ 3 3 rfl f4 _ _ rfl rfl ?_
    go_ret2
    have hl : ¬ (c < 1 ∨ 10 < c) := by omega
    exact ⟨by rw [HF.out, if_neg hl, hal]; rfl, hb1.trans (hb2.mono hb1.size)⟩

theorem Marks_any (w : World) (n : Nat) (hn : n < 256) (c : Int) (_hc1 : -9223372036854775808 ≤ c) (_hc2 : c ≤ 9223372036854775807) :
    Calls Try.prog 44 #[.int .u8 (n : Nat), .int .i64 c] w fun e w' => e = .returned (.int .i64 (marksN n c)) ∧ w = w' := by
  by_cases h : n = 1
  · subst h
    go_enter Try.func44, Try.ntmps44
    go_wp2_with fail
    go_ret
    exact ⟨rfl, rfl⟩
  · go_enter Try.func44, Try.ntmps44
    go_wp2_with fail
    refine (Lists_any _ _ hn).mono ?_
    rintro e w1 ⟨rfl, rfl⟩
    cases hi : listsN n
    · go_wp2_with fail
      go_ret
      exact ⟨by simp [marksN, h, hi], rfl⟩
    · go_wp2_with fail
      go_ret
      exact ⟨by simp [marksN, hi], rfl⟩

theorem wordsTab_at (n : Nat) (h : n < 17) : wordsTab[n]? = some (.string (wordN n)) := by simp [wordsTab, h]

end Go.Proofs.Ytlfempfhohejiaa
