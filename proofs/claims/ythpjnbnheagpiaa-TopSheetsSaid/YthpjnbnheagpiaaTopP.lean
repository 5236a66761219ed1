/- Names of batches: named (over strings.ContainsFunc). No condition. Printed by gen_topp.py from XRolA. -/
import Derived.Test.YthpjnbnheagpiaaRows
import Derived.Test.YthpjnbnheagpiaaConPlain
import Derived.Test.YthpjnbnheagpiaaConD
import Derived.Laws.RangeAny
set_option linter.unusedVariables false
set_option linter.unusedSimpArgs false
namespace Go.Proofs.Ythpjnbnheagpiaa
open Go.RowKit Go.Suf

theorem str_atT (s : ByteArray) (i : Nat) (hi : i < s.size) : s[i].toNat = nth (byts s) i := by
  have hd : i < s.data.size := hi
  simp only [nth, byts, List.getD, List.getElem?_map, Array.getElem?_toList, getElem?_pos s.data i hd]
  rfl

theorem byts_any_noneT {s : ByteArray} (h : ∀ k, k < s.size → badC (nth (byts s) k) = false) : (byts s).any badC = false := by
  rw [← any_nth, byts_length, List.any_eq_false]
  intro x hx
  simp [h x (List.mem_range.1 hx)]

theorem byts_any_atT {s : ByteArray} {k : Nat} (hk : k < s.size) (h : badC (nth (byts s) k) = true) : (byts s).any badC = true := by
  rw [← any_nth, byts_length, List.any_eq_true]
  exact ⟨k, List.mem_range.2 hk, h⟩

theorem badR_any (w : World) (c : Int) (h1 : -2147483648 ≤ c) (h2 : c ≤ 2147483647) : Calls Try.prog 73 #[.int .i32 c] w fun e w' => e = .returned (.bool (decide (c < 33) || decide (126 < c))) ∧ w = w' := by
  by_cases g1 : c < 33
  · go_enter Try.func73, Try.ntmps73
    go_wp2
    go_ret
    exact ⟨by simp [g1], rfl⟩
  · go_enter Try.func73, Try.ntmps73
    go_wp2
    go_ret
    exact ⟨by simp; omega, rfl⟩

theorem bad_int (n : Nat) : (decide (((n : Nat) : Int) < 33) || decide (126 < ((n : Nat) : Int))) = badC n := by
  unfold badC
  rw [show decide (((n : Nat) : Int) < 33) = decide (n < 33) from decide_eq_decide.2 (by omega), show decide (126 < ((n : Nat) : Int)) = decide (126 < n) from decide_eq_decide.2 (by omega)]

abbrev badTV : Value := .func (.func 73) #[] #[]

theorem below_iter (w : World) (s : ByteArray) (p : Nat) : Below w.heap.size w (w.iter s p) := (Below.refl _ _).alloc (Nat.le_refl _) _

set_option maxHeartbeats 2000000 in
theorem indexFunc_any (w : World) (s : ByteArray) (hs : s.size ≤ 4611686018427387904) :
    Calls Try.prog 93 #[.string s, badTV, .bool true] w fun e w' => ∃ z : Int, e = .returned (.int .i64 z) ∧ decide (0 ≤ z) = (byts s).any badC ∧ Below w.heap.size w w' := by
  go_enter Try.func93, Try.ntmps93
  go_wp2_with fail
  go_loopw [7, 8] (fun v7 v8 wr => ∃ i, i ≤ s.size ∧ wr = w.iter s i ∧ Hid (∀ k, k < i → badC (nth (byts s) k) = false)) (fun _ _ wr => s.size - wr.iterPos w.heap.size)
  case atStart => exact ⟨0, Nat.zero_le _, rfl, Lib.hid fun k hk => absurd hk (by omega)⟩
  case round =>
    rename_i wr _
    obtain ⟨i, hi, rfl, hS⟩ := hrel
    by_cases hlt : i < s.size
    case pos =>
      have hbn := Lib.hid (str_atT s i hlt)
      by_cases ha : s[i].toNat < 128
      case pos =>
        have nx := fun ty => run_next_ascii (P := Try.prog) w s i ty hlt ha
        have BI := Lib.hid (below_iter w s (i + 1))
        go_wp2_with fail
        refine (badR_any _ _ (by omega) (by omega)).mono ?_
        rintro e w1 ⟨rfl, rfl⟩
        by_cases g : badC (nth (byts s) i) = true
        case pos =>
          have hb : (decide (((s[i].toNat : Nat) : Int) < 33) || decide (126 < ((s[i].toNat : Nat) : Int))) = true := by rw [bad_int, hbn.out, g]
          have hz := Lib.hid (byts_any_atT hlt g)
          rw [hb]
          go_wp2_with fail
          go_ret
          exact ⟨_, rfl, by rw [hz.out]; simp, BI.out⟩
        case neg =>
          have g' : badC (nth (byts s) i) = false := by simpa using g
          have hb : (decide (((s[i].toNat : Nat) : Int) < 33) || decide (126 < ((s[i].toNat : Nat) : Int))) = false := by rw [bad_int, hbn.out, g']
          have HG := Lib.hid g'
          rw [hb]
          clear g g'
          go_wp2_with fail
          go_roundw
          case rel => exact ⟨i + 1, by omega, rfl, Lib.hid fun k hk => by
                        by_cases hki : k < i
                        · exact hS.out k hki
                        · obtain rfl : k = i := by omega
                          exact HG.out⟩
          case measure => simp; omega
      case neg =>
        have nx := fun ty => run_next_any (P := Try.prog) w s i ty hlt
        have hd := decode_high s i hlt (by omega)
        have hl := decode_le s i
        have hz := Lib.hid (byts_any_atT hlt (show badC (nth (byts s) i) = true by rw [← hbn.out]; simp [badC]; omega))
        have BI := Lib.hid (below_iter w s (i + (Utf8.decode s i).2))
        generalize Utf8.decode s i = dc at *
        obtain ⟨c, q⟩ := dc
        simp only at hd hl nx BI
        go_wp2_with fail
        refine (badR_any _ _ (by omega) (by omega)).mono ?_
        rintro e w1 ⟨rfl, rfl⟩
        have hb : (decide (((c : Nat) : Int) < 33) || decide (126 < ((c : Nat) : Int))) = true := by simp; omega
        rw [hb]
        go_wp2_with fail
        go_ret
        exact ⟨_, rfl, by rw [hz.out]; simp, BI.out⟩
    case neg =>
      obtain rfl : i = s.size := by omega
      have nx := fun ty => run_next_end (P := Try.prog) w s s.size ty (Nat.lt_irrefl _)
      have hz := Lib.hid (byts_any_noneT hS.out)
      have BI := Lib.hid (below_iter w s s.size)
      go_wp2_with fail
      go_ret
      exact ⟨_, rfl, by rw [hz.out]; simp, BI.out⟩

theorem indexS_any (w : World) (s : ByteArray) (hs : s.size ≤ 4611686018427387904) :
    Calls Try.prog 83 #[.string s, badTV] w fun e w' => ∃ z : Int, e = .returned (.int .i64 z) ∧ decide (0 ≤ z) = (byts s).any badC ∧ Below w.heap.size w w' := by
  go_enter Try.func83, Try.ntmps83
  go_wp2_with fail
  refine (indexFunc_any _ s hs).mono ?_
  rintro e w1 ⟨z, rfl, hz, hb⟩
  have HZ := Lib.hid hz
  clear hz
  go_wp2_with fail
  go_ret
  exact ⟨z, rfl, HZ.out, hb⟩

theorem containsS_any (w : World) (s : ByteArray) (hs : s.size ≤ 4611686018427387904) :
    Calls Try.prog 72 #[.string s, badTV] w fun e w' => e = .returned (.bool ((byts s).any badC)) ∧ Below w.heap.size w w' := by
  go_enter Try.func72, Try.ntmps72
  go_wp2_with fail
  refine (indexS_any _ s hs).mono ?_
  rintro e w1 ⟨z, rfl, hz, hb⟩
  have HZ := Lib.hid hz
  clear hz
  go_wp2_with fail
  go_ret
  exact ⟨by rw [← HZ.out]; rfl, hb⟩

set_option maxRecDepth 100000 in
theorem named_any (w : World) (s : ByteArray) : Calls Try.prog 50 #[.string s] w fun e w' => e = .returned (.bool (!oddS s)) ∧ Below w.heap.size w w' := by
  by_cases h1 : s.size = 0
  · obtain rfl : s = ⟨#[]⟩ := by
      cases s with
      | mk d => simp [ByteArray.size] at h1; simp [h1]
    go_enter Try.func50, Try.ntmps50
    go_wp2
    go_ret
    exact ⟨rfl, Below.refl _ _⟩
  have hq : s.toList.isEmpty = false := by
    cases s with
    | mk d =>
      rw [ByteArray.toList_eq]
      cases hd : d.toList.isEmpty
      · rfl
      · simp at hd
        subst hd
        exact absurd rfl h1
  by_cases h2 : 40 < s.size
  · go_enter Try.func50, Try.ntmps50
    go_wp2
    go_ret
    exact ⟨by simp [oddS, h2], Below.refl _ _⟩
  obtain ⟨o, ho⟩ : ∃ o, oddS s = o := ⟨_, rfl⟩
  have hx : (byts s).any badC = o := by rw [← ho]; simp [oddS, h1, h2]
  rw [ho]
  have HX := Lib.hid hx
  clear hx ho
  go_enter Try.func50, Try.ntmps50
  go_wp2_with fail
  have c := containsS_any w s (by omega)
  rw [HX.out] at c
  refine c.mono ?_
  rintro e w1 ⟨rfl, hb⟩
  clear c
  cases o
  all_goals (go_wp2_with fail; go_ret; exact ⟨rfl, hb⟩)

end Go.Proofs.Ythpjnbnheagpiaa
