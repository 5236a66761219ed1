/- What Check computes in the document's answer. No condition. -/
import Derived.Test.YtlfempfhohejiaaConE
import Derived.Deep.QuietTactic
import Derived.BigQuiet
set_option linter.unusedVariables false
set_option linter.unusedSimpArgs false
namespace Go.Proofs.Ytlfempfhohejiaa
open Go.RowKit Go.Suf

theorem One_any (w : World) (n : Nat) (hn : n < 256) : Calls Try.prog 70 #[.int .u8 (n : Nat)] w fun e w' => e = .returned (.bool (oneN n)) ∧ w = w' := by
  by_cases h1 : 5 ≤ n <;> by_cases h2 : n ≤ 10
  all_goals
    go_enter Try.func70, Try.ntmps70
    go_wp2
    all_goals
      go_ret
      exact ⟨by simp [oneN, h1, h2] <;> omega, rfl⟩

theorem str_at (s : ByteArray) (i : Nat) (hi : i < s.size) : s[i].toNat = nth (byts s) i := by
  have hd : i < s.data.size := hi
  simp only [nth, byts, List.getD, List.getElem?_map, Array.getElem?_toList, getElem?_pos s.data i hd]
  rfl

theorem byts_any_none {s : ByteArray} (h : ∀ k, k < s.size → badC (nth (byts s) k) = false) : (byts s).any badC = false := by
  rw [← any_nth, byts_length, List.any_eq_false]
  intro x hx
  simp [h x (List.mem_range.1 hx)]

theorem byts_any_at {s : ByteArray} {k : Nat} (hk : k < s.size) (h : badC (nth (byts s) k) = true) : (byts s).any badC = true := by
  rw [← any_nth, byts_length, List.any_eq_true]
  exact ⟨k, List.mem_range.2 hk, h⟩

set_option maxHeartbeats 1000000 in
theorem Name_any (w : World) (s : ByteArray) : Calls Try.prog 68 #[.string s] w fun e w' => e = .returned (.bool (!oddS s)) ∧ w = w' := by
  by_cases h1 : s.size < 1
  · go_enter Try.func68, Try.ntmps68
    go_wp2
    go_ret
    exact ⟨by simp [oddS, show s.size = 0 by omega], rfl⟩
  by_cases h2 : 40 < s.size
  · go_enter Try.func68, Try.ntmps68
    go_wp2
    go_ret
    exact ⟨by simp [oddS, h2], rfl⟩
  obtain ⟨r, hr0⟩ : ∃ r, r = oddS s := ⟨_, rfl⟩
  rw [← hr0]
  have HR := Lib.hid hr0
  clear hr0
  go_enter Try.func68, Try.ntmps68
  go_wp2_with fail
  go_loop [3] (fun j => ∃ i, i ≤ s.size ∧ j = .int .i64 (i : Nat) ∧ Hid (∀ k, k < i → badC (nth (byts s) k) = false)) (fun j => s.size - (intOf j).toNat)
  case atStart => exact ⟨0, by omega, rfl, Lib.hid fun k hk => absurd hk (by omega)⟩
  case round =>
    obtain ⟨i, hi, rfl, hS⟩ := hrel
    by_cases hlt : i < s.size
    · have hbn := Lib.hid (str_at s i hlt)
      have hb2 := s[i].toNat_lt
      by_cases g1 : s[i].toNat < 33
      · go_wp2
        go_ret
        refine ⟨?_, rfl⟩
        rw [HR.out]
        simp [oddS, byts_any_at hlt (by rw [← hbn.out]; simp [badC, g1])]
      by_cases g2 : 126 < s[i].toNat
      · go_wp2
        go_ret
        refine ⟨?_, rfl⟩
        rw [HR.out]
        simp [oddS, byts_any_at hlt (by rw [← hbn.out]; simp [badC, g2])]
      have HB : Hid (badC (nth (byts s) i) = false) := Lib.hid (by rw [← hbn.out]; simp [badC]; omega)
      go_wp2
      go_round
      case rel => exact ⟨i + 1, by omega, by go_num, Lib.hid fun k hk => by
                    by_cases hki : k < i
                    · exact hS.out k hki
                    · obtain rfl : k = i := by omega
                      exact HB.out⟩
      case measure => simp [intOf]; omega
    · obtain rfl : i = s.size := by omega
      go_wp2
      go_ret
      refine ⟨?_, rfl⟩
      rw [HR.out]
      simp only [oddS, byts_any_none hS.out, show decide (40 < s.size) = false from by simp; omega, show decide (s.size = 0) = false from by rw [decide_eq_false_iff_not]; omega]
      rfl

/-! ### May -/
theorem has_take {ss : List ByteArray} {i : Nat} (hi : i < ss.length) (s : ByteArray) : hasS (ss.take i) s = (List.range i).any fun k => eqS s (sth ss k) := by
  unfold hasS
  rw [← any_sth (ss := ss.take i) (eqS s), List.length_take, Nat.min_eq_left (by omega), Bool.eq_iff_iff, List.any_eq_true, List.any_eq_true]
  constructor
  · rintro ⟨k, hk, h⟩
    have := List.mem_range.1 hk
    exact ⟨k, hk, by rwa [show sth (ss.take i) k = sth ss k from by simp [sth, List.getD, List.getElem?_take, this]] at h⟩
  · rintro ⟨k, hk, h⟩
    have := List.mem_range.1 hk
    exact ⟨k, hk, by rwa [show sth (ss.take i) k = sth ss k from by simp [sth, List.getD, List.getElem?_take, this]]⟩

theorem eqS_comm (s t : ByteArray) : eqS s t = eqS t s := by
  unfold eqS
  exact Bool.beq_comm

def mayC (nm : ByteArray) (ss : List ByteArray) (seats : Int) (rule : Nat) : Bool :=
  !oddS nm && decide (1 ≤ ss.length) && decide (ss.length ≤ 10) && isR rule && decide (1 ≤ seats) && decide (seats ≤ 10) && !oddL ss && !twiceL ss && (if oneN rule = true then decide (seats = 1) else listsN rule || decide (seats ≤ ss.length))

theorem odd_at {ss : List ByteArray} {i : Nat} (hi : i < ss.length) (h : oddS (sth ss i) = true) : oddL ss = true := List.any_eq_true.2 ⟨_, sth_mem hi, h⟩
theorem odd_none {ss : List ByteArray} (h : ∀ i, i < ss.length → oddS (sth ss i) = false) : oddL ss = false := by
  unfold oddL
  rw [← any_sth, List.any_eq_false]
  intro x hx
  simp [h x (List.mem_range.1 hx)]

theorem fits_rule : ∀ rule, isR rule = true → (seatsN rule = 1 ↔ oneN rule = true) ∧ (seatsN rule = 3 ↔ listsN rule = true) ∧ (seatsN rule = 2 ↔ oneN rule = false ∧ listsN rule = false) :=
  upto17 (by decide) (fun n h => absurd ((isR_iff _).1 h).2 (by omega))

/-- The document's Check answers what the program's answers. -/
theorem check_may (nm : ByteArray) (ss : List ByteArray) (seats : Int) (rule : Nat) : checkC nm ss seats rule = if 10 < ss.length then 4 else if mayC nm ss seats rule = true then 0 else 8 := by
  unfold checkC
  by_cases h1 : 10 < ss.length
  · rw [if_pos h1, if_pos h1]
  rw [if_neg h1, if_neg h1]
  have e0 : oddL [nm] = oddS nm := by simp [oddL]
  rw [e0]
  by_cases h2 : ss.length = 0
  · rw [if_pos (Or.inl h2), if_neg (by simp [mayC, h2])]
  cases q1 : oddS nm
  case true => simp [mayC, q1]
  cases q2 : oddL ss
  case true => simp [mayC, q2]
  cases q3 : twiceL ss
  case true => simp [mayC, q3]
  have hm : mayC nm ss seats rule = fitsC ss.length seats rule := by
    have h3 : decide (1 ≤ ss.length) = true := by rw [decide_eq_true_eq]; omega
    have h4 : decide (ss.length ≤ 10) = true := by rw [decide_eq_true_eq]; omega
    unfold mayC fitsC
    rw [q1, q2, q3, h3, h4]
    cases hi : isR rule
    · have := (seats_zero rule).2 hi
      simp [this]
    obtain ⟨f1, f2, f3⟩ := fits_rule rule hi
    by_cases g1 : seats < 1
    · rw [if_pos (Or.inl g1)]
      simp [show ¬ 1 ≤ seats by omega]
    by_cases g2 : 10 < seats
    · rw [if_pos (Or.inr g2)]
      simp [show ¬ seats ≤ 10 by omega]
    rw [if_neg (show ¬ (seats < 1 ∨ 10 < seats) by omega)]
    simp only [show decide (1 ≤ seats) = true from by rw [decide_eq_true_eq]; omega, show decide (seats ≤ 10) = true from by rw [decide_eq_true_eq]; omega, Bool.not_false, Bool.true_and, Bool.and_true]
    cases o1 : oneN rule
    · have n1 : ¬ seatsN rule = 1 := fun h => by rw [f1.1 h] at o1; simp at o1
      rw [if_neg n1]
      cases l1 : listsN rule
      · rw [if_pos (f3.2 ⟨o1, l1⟩)]
        simp
      · have n3 := f2.2 l1
        rw [if_neg (show ¬ seatsN rule = 2 by omega)]
        simp [n3]
    · rw [if_pos (f1.2 o1)]
      simp
  rw [hm]
  cases q4 : fitsC ss.length seats rule <;> simp [h2]

end Go.Proofs.Ytlfempfhohejiaa
