/- Which lists of strings are names: what the program computes. No condition. -/
import Derived.Test.YtlfempfhohejiaaRows
import Derived.Test.YtlfempfhohejiaaStr
set_option linter.unusedVariables false
set_option linter.unusedSimpArgs false
namespace Go.Proofs.Ytlfempfhohejiaa
open Go.RowKit Go.Suf

theorem bad_any (w : World) (n : Nat) (hn : n < 256) : Calls Try.prog 66 #[.int .u8 (n : Nat)] w fun e w' => e = .returned (.bool (badC n)) ∧ w = w' := by
  by_cases h1 : n < 33 <;> by_cases h2 : 126 < n
  all_goals
    go_enter Try.func66, Try.ntmps66
    go_wp2
    all_goals
      go_ret
      exact ⟨by simp [badC, h1, h2] <;> omega, rfl⟩

/-- The first index at which p holds, or -1. -/
def fstI (p : Nat → Bool) (n : Nat) : Int := match (List.range n).find? p with
  | some i => (i : Int)
  | none => -1

theorem fstI_at {p : Nat → Bool} {m i : Nat} (hi : i < m) (hp : p i = true) (hn : ∀ j, j < i → p j = false) : fstI p m = i := by
  unfold fstI
  rw [show (List.range m).find? p = some i from by
    rw [List.find?_eq_some_iff_getElem]
    exact ⟨hp, i, by simpa using hi, by simp, fun j hj => by simp [hn j hj]⟩]

theorem fstI_none {p : Nat → Bool} {m : Nat} (hn : ∀ j, j < m → p j = false) : fstI p m = -1 := by
  unfold fstI
  rw [List.find?_eq_none.2 (fun x hx => by simp [hn x (List.mem_range.1 hx)])]

theorem fstI_neg (p : Nat → Bool) (n : Nat) : fstI p n = -1 ∨ ∃ i, i < n ∧ fstI p n = (i : Int) ∧ p i = true := by
  unfold fstI
  cases h : (List.range n).find? p with
  | none => exact .inl rfl
  | some i => exact .inr ⟨i, List.mem_range.1 (List.mem_of_find?_eq_some h), rfl, List.find?_some h⟩

theorem fstI_ge (p : Nat → Bool) (n : Nat) : decide (0 ≤ fstI p n) = (List.range n).any p := by
  rcases fstI_neg p n with h | ⟨i, hi, h, hp⟩
  · rw [h]
    have : (List.range n).any p = false := by
      rw [List.any_eq_false]
      intro x hx hpx
      unfold fstI at h
      cases hf : (List.range n).find? p with
      | none => exact (List.find?_eq_none.1 hf) x hx hpx
      | some j => rw [hf] at h; simp at h
    rw [this]
    decide
  · rw [h]
    have : (List.range n).any p = true := List.any_eq_true.2 ⟨i, List.mem_range.2 hi, hp⟩
    rw [this]
    simp

theorem any_nth {xs : List Nat} (p : Nat → Bool) : (List.range xs.length).any (fun i => p (nth xs i)) = xs.any p := by
  rw [Bool.eq_iff_iff, List.any_eq_true, List.any_eq_true]
  constructor
  · rintro ⟨i, hi, hp⟩
    have hi := List.mem_range.1 hi
    exact ⟨xs[i], List.getElem_mem _, by rwa [nth_eq hi] at hp⟩
  · rintro ⟨x, hx, hp⟩
    obtain ⟨i, hi, rfl⟩ := List.getElem_of_mem hx
    exact ⟨i, List.mem_range.2 hi, by rwa [nth_eq hi]⟩

theorem any_sth {ss : List ByteArray} (p : ByteArray → Bool) : (List.range ss.length).any (fun i => p (sth ss i)) = ss.any p := by
  rw [Bool.eq_iff_iff, List.any_eq_true, List.any_eq_true]
  constructor
  · rintro ⟨i, hi, hp⟩
    have hi := List.mem_range.1 hi
    exact ⟨ss[i], List.getElem_mem _, by rwa [sth_eq hi] at hp⟩
  · rintro ⟨x, hx, hp⟩
    obtain ⟨i, hi, rfl⟩ := List.getElem_of_mem hx
    exact ⟨i, List.mem_range.2 hi, by rwa [sth_eq hi]⟩

/-- The function at which 'bad' lies, as a value. -/
abbrev badV : Value := .func (.func 66) #[] #[]
abbrev oddV : Value := .func (.func 65) #[] #[]

set_option maxHeartbeats 1000000 in
theorem indexBad_any (w : World) {a : Option Addr} {n cap : Nat} {xs : List Nat} (h : Rd .u8 w a n cap xs) :
    Calls Try.prog 53 #[.slice a n cap, badV] w fun e w' => e = .returned (.int .i64 (fstI (fun i => badC (nth xs i)) n)) ∧ w = w' := by
  have hn := h.lt
  go_enter Try.func53, Try.ntmps53
  go_wp2_with fail
  go_loop [8] (fun j => ∃ i, i ≤ n ∧ j = .int .i64 (i : Nat) ∧ Hid (∀ k, k < i → badC (nth xs k) = false)) (fun j => n - (intOf j).toNat)
  case atStart => exact ⟨0, by omega, rfl, Lib.hid fun k hk => absurd hk (by omega)⟩
  case round =>
    obtain ⟨i, hi, rfl, hS⟩ := hrel
    by_cases hlt : i < n
    · obtain ⟨b, off, rfl, hc, hb⟩ := h.cell i hlt
      have hb' : nth xs i < 256 := hb
      clear hb
      go_wp2_with fail
      refine (bad_any _ _ hb').mono ?_
      rintro e w1 ⟨rfl, rfl⟩
      cases hq : badC (nth xs i)
      · have HQ := Lib.hid hq
        go_wp2
        go_round
        case rel => exact ⟨i + 1, by omega, by go_num, Lib.hid fun k hk => by
                      by_cases hki : k < i
                      · exact hS.out k hki
                      · obtain rfl : k = i := by omega
                        exact HQ.out⟩
        case measure => simp [intOf]; omega
      · have HQ := Lib.hid hq
        go_wp2
        go_ret
        rw [fstI_at hlt HQ.out hS.out]
        exact ⟨rfl, rfl⟩
    · obtain rfl : i = n := by omega
      go_wp2
      go_ret
      rw [fstI_none hS.out]
      exact ⟨rfl, rfl⟩

theorem containsBad_any (w : World) {a : Option Addr} {n cap : Nat} {xs : List Nat} (h : Rd .u8 w a n cap xs) :
    Calls Try.prog 34 #[.slice a n cap, badV] w fun e w' => e = .returned (.bool (xs.any badC)) ∧ w = w' := by
  have e := any_nth (xs := xs) badC
  rw [h.len, ← fstI_ge] at e
  rw [← e]
  clear e
  go_enter Try.func34, Try.ntmps34
  go_wp2_with fail
  refine (indexBad_any _ h).mono ?_
  rintro e w1 ⟨rfl, rfl⟩
  go_wp2
  go_ret
  exact ⟨rfl, rfl⟩

set_option maxRecDepth 100000 in
theorem odd1_any (w : World) (s : ByteArray) : Calls Try.prog 65 #[.string s] w fun e w' => e = .returned (.bool (oddS s)) ∧ Below w.heap.size w w' := by
  by_cases h1 : s.size = 0
  · obtain rfl : s = ⟨#[]⟩ := by
      cases s with
      | mk d => simp [ByteArray.size] at h1; simp [h1]
    go_enter Try.func65, Try.ntmps65
    go_wp2
    go_ret
    exact ⟨rfl, Below.refl _ _⟩
  have hq : s.toList.isEmpty = false := by
    cases s with
    | mk d =>
      rw [ByteArray.toList_eq]
      cases hd : d.toList.isEmpty
      · rfl
      · simp at hd
        subst hd
        exact absurd rfl h1
  by_cases h2 : 40 < s.size
  · go_enter Try.func65, Try.ntmps65
    go_wp2
    go_ret
    exact ⟨by simp [oddS, h2], Below.refl _ _⟩
  obtain ⟨a', c', w', hcv, hr, hb, hz⟩ := conv_bytes Try.prog w Try.underlying9 Try.underlying25 Try.underlying5 s (by unfold maxLen; omega)
  go_enter Try.func65, Try.ntmps65
  go_wp2_with fail
  refine (containsBad_any _ hr).mono ?_
  rintro e w1 ⟨rfl, rfl⟩
  go_wp2_with fail
  go_ret
  exact ⟨by
    simp [oddS, h1, h2]
    intro h
    omega, hb⟩

set_option maxHeartbeats 1000000 in
theorem indexOdd_any (w : World) {a : Option Addr} {n cap : Nat} {ss : List ByteArray} (h : RdS w a n cap ss) :
    Calls Try.prog 78 #[.slice a n cap, oddV] w fun e w' => e = .returned (.int .i64 (fstI (fun i => oddS (sth ss i)) n)) ∧ Below w.heap.size w w' := by
  have hn := h.lt
  go_enter Try.func78, Try.ntmps78
  go_wp2_with fail
  go_loopw [8] (fun j wr => ∃ i, i ≤ n ∧ j = .int .i64 (i : Nat) ∧ Below w.heap.size w wr ∧ Hid (∀ k, k < i → oddS (sth ss k) = false)) (fun j _ => n - (intOf j).toNat)
  case atStart => exact ⟨0, by omega, rfl, Below.refl _ _, Lib.hid fun k hk => absurd hk (by omega)⟩
  case round =>
    obtain ⟨i, hi, rfl, hb, hS⟩ := hrel
    by_cases hlt : i < n
    · obtain ⟨b, off, rfl, hc⟩ := h.cell i hlt
      have hc' := cell_below hb hc
      have hz := hb.size
      go_wp2_with fail
      refine (odd1_any _ _).mono ?_
      rintro e w1 ⟨rfl, hb1⟩
      have hb2 := hb.trans (hb1.mono hz)
      cases hq : oddS (sth ss i)
      · have HQ := Lib.hid hq
        go_wp2
        go_roundw
        case rel => exact ⟨i + 1, by omega, by go_num, hb2, Lib.hid fun k hk => by
                      by_cases hki : k < i
                      · exact hS.out k hki
                      · obtain rfl : k = i := by omega
                        exact HQ.out⟩
        case measure => simp [intOf]; omega
      · have HQ := Lib.hid hq
        go_wp2
        go_ret
        rw [fstI_at hlt HQ.out hS.out]
        exact ⟨rfl, hb2⟩
    · obtain rfl : i = n := by omega
      go_wp2
      go_ret
      rw [fstI_none hS.out]
      exact ⟨rfl, hb⟩

theorem containsOdd_any (w : World) {a : Option Addr} {n cap : Nat} {ss : List ByteArray} (h : RdS w a n cap ss) :
    Calls Try.prog 64 #[.slice a n cap, oddV] w fun e w' => e = .returned (.bool (oddL ss)) ∧ Below w.heap.size w w' := by
  have e := any_sth (ss := ss) oddS
  rw [h.len, ← fstI_ge] at e
  unfold oddL
  rw [← e]
  clear e
  go_enter Try.func64, Try.ntmps64
  go_wp2_with fail
  refine (indexOdd_any _ h).mono ?_
  rintro e w1 ⟨rfl, hb⟩
  go_wp2
  go_ret
  exact ⟨rfl, hb⟩

theorem odd_any (w : World) {a : Option Addr} {n cap : Nat} {ss : List ByteArray} (h : RdS w a n cap ss) :
    Calls Try.prog 49 #[.slice a n cap] w fun e w' => e = .returned (.bool (oddL ss)) ∧ Below w.heap.size w w' := by
  go_enter Try.func49, Try.ntmps49
  go_wp2_with fail
  refine (containsOdd_any _ h).mono ?_
  rintro e w1 ⟨rfl, hb⟩
  go_wp2
  go_ret
  exact ⟨rfl, hb⟩

/-- slices.Index. -/
def idxI (ss : List ByteArray) (s : ByteArray) : Int := fstI (fun i => eqS s (sth ss i)) ss.length

set_option maxHeartbeats 1000000 in
theorem index_any (w : World) {a : Option Addr} {n cap : Nat} {ss : List ByteArray} (h : RdS w a n cap ss) (s : ByteArray) :
    Calls Try.prog 79 #[.slice a n cap, .string s] w fun e w' => e = .returned (.int .i64 (idxI ss s)) ∧ w = w' := by
  have hn := h.lt
  unfold idxI
  rw [h.len]
  go_enter Try.func79, Try.ntmps79
  go_wp2_with fail
  go_loop [8] (fun j => ∃ i, i ≤ n ∧ j = .int .i64 (i : Nat) ∧ Hid (∀ k, k < i → eqS s (sth ss k) = false)) (fun j => n - (intOf j).toNat)
  case atStart => exact ⟨0, by omega, rfl, Lib.hid fun k hk => absurd hk (by omega)⟩
  case round =>
    obtain ⟨i, hi, rfl, hS⟩ := hrel
    by_cases hlt : i < n
    · obtain ⟨b, off, rfl, hc⟩ := h.cell i hlt
      cases hq : (s.toList == (sth ss i).toList)
      · have HQ := Lib.hid hq
        go_wp2
        go_round
        case rel => exact ⟨i + 1, by omega, by go_num, Lib.hid fun k hk => by
                      by_cases hki : k < i
                      · exact hS.out k hki
                      · obtain rfl : k = i := by omega
                        exact HQ.out⟩
        case measure => simp [intOf]; omega
      · have HQ := Lib.hid hq
        go_wp2
        go_ret
        rw [fstI_at hlt HQ.out hS.out]
        exact ⟨rfl, rfl⟩
    · obtain rfl : i = n := by omega
      go_wp2
      go_ret
      rw [fstI_none hS.out]
      exact ⟨rfl, rfl⟩

theorem contains_any (w : World) {a : Option Addr} {n cap : Nat} {ss : List ByteArray} (h : RdS w a n cap ss) (s : ByteArray) :
    Calls Try.prog 67 #[.slice a n cap, .string s] w fun e w' => e = .returned (.bool (hasS ss s)) ∧ w = w' := by
  have e := any_sth (ss := ss) (eqS s)
  rw [← fstI_ge] at e
  unfold hasS
  rw [← e]
  clear e
  go_enter Try.func67, Try.ntmps67
  go_wp2_with fail
  refine (index_any _ h s).mono ?_
  rintro e w1 ⟨rfl, rfl⟩
  go_wp2
  go_ret
  exact ⟨rfl, rfl⟩

end Go.Proofs.Ytlfempfhohejiaa
