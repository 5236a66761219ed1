/- Which lists of strings are names: what the program computes. No condition. -/
import Derived.Test.YthpjnbnheagpiaaRows
import Derived.Test.YthpjnbnheagpiaaConPlain
import Derived.Deep.QuietTactic
import Derived.BigQuiet
set_option linter.unusedVariables false
set_option linter.unusedSimpArgs false
namespace Go.Proofs.Ythpjnbnheagpiaa
open Go.RowKit Go.Suf

theorem bad_any (w : World) (n : Nat) (hn : n < 256) : Calls Try.prog 38 #[.int .u8 (n : Nat)] w fun e w' => e = .returned (.bool (badC n)) ∧ w = w' := by
  by_cases h1 : n < 33 <;> by_cases h2 : 126 < n
  all_goals
    go_enter Try.func38, Try.ntmps38
    go_wp2
    all_goals
      go_ret
      exact ⟨by simp [badC, h1, h2] <;> omega, rfl⟩

/-- The first index at which p holds, or -1. -/
def fstI (p : Nat → Bool) (n : Nat) : Int := match (List.range n).find? p with
  | some i => (i : Int)
  | none => -1

theorem fstI_at {p : Nat → Bool} {m i : Nat} (hi : i < m) (hp : p i = true) (hn : ∀ j, j < i → p j = false) : fstI p m = i := by
  unfold fstI
  rw [show (List.range m).find? p = some i from by
    rw [List.find?_eq_some_iff_getElem]
    exact ⟨hp, i, by simpa using hi, by simp, fun j hj => by simp [hn j hj]⟩]

theorem fstI_none {p : Nat → Bool} {m : Nat} (hn : ∀ j, j < m → p j = false) : fstI p m = -1 := by
  unfold fstI
  rw [List.find?_eq_none.2 (fun x hx => by simp [hn x (List.mem_range.1 hx)])]

theorem fstI_neg (p : Nat → Bool) (n : Nat) : fstI p n = -1 ∨ ∃ i, i < n ∧ fstI p n = (i : Int) ∧ p i = true := by
  unfold fstI
  cases h : (List.range n).find? p with
  | none => exact .inl rfl
  | some i => exact .inr ⟨i, List.mem_range.1 (List.mem_of_find?_eq_some h), rfl, List.find?_some h⟩

theorem fstI_ge (p : Nat → Bool) (n : Nat) : decide (0 ≤ fstI p n) = (List.range n).any p := by
  rcases fstI_neg p n with h | ⟨i, hi, h, hp⟩
  · rw [h]
    have : (List.range n).any p = false := by
      rw [List.any_eq_false]
      intro x hx hpx
      unfold fstI at h
      cases hf : (List.range n).find? p with
      | none => exact (List.find?_eq_none.1 hf) x hx hpx
      | some j => rw [hf] at h; simp at h
    rw [this]
    decide
  · rw [h]
    have : (List.range n).any p = true := List.any_eq_true.2 ⟨i, List.mem_range.2 hi, hp⟩
    rw [this]
    simp

theorem any_nth {xs : List Nat} (p : Nat → Bool) : (List.range xs.length).any (fun i => p (nth xs i)) = xs.any p := by
  rw [Bool.eq_iff_iff, List.any_eq_true, List.any_eq_true]
  constructor
  · rintro ⟨i, hi, hp⟩
    have hi := List.mem_range.1 hi
    exact ⟨xs[i], List.getElem_mem _, by rwa [nth_eq hi] at hp⟩
  · rintro ⟨x, hx, hp⟩
    obtain ⟨i, hi, rfl⟩ := List.getElem_of_mem hx
    exact ⟨i, List.mem_range.2 hi, by rwa [nth_eq hi]⟩

theorem any_sth {ss : List ByteArray} (p : ByteArray → Bool) : (List.range ss.length).any (fun i => p (sth ss i)) = ss.any p := by
  rw [Bool.eq_iff_iff, List.any_eq_true, List.any_eq_true]
  constructor
  · rintro ⟨i, hi, hp⟩
    have hi := List.mem_range.1 hi
    exact ⟨ss[i], List.getElem_mem _, by rwa [sth_eq hi] at hp⟩
  · rintro ⟨x, hx, hp⟩
    obtain ⟨i, hi, rfl⟩ := List.getElem_of_mem hx
    exact ⟨i, List.mem_range.2 hi, by rwa [sth_eq hi]⟩

/-- The function at which 'bad' lies, as a value. -/
abbrev badV : Value := .func (.func 38) #[] #[]
abbrev oddV : Value := .func (.func 37) #[] #[]

set_option maxHeartbeats 1000000 in
theorem indexBad_any (w : World) {a : Option Addr} {n cap : Nat} {xs : List Nat} (h : Rd .u8 w a n cap xs) :
    Calls Try.prog 64 #[.slice a n cap, badV] w fun e w' => e = .returned (.int .i64 (fstI (fun i => badC (nth xs i)) n)) ∧ w = w' := by
  have hn := h.lt
  go_enter Try.func64, Try.ntmps64
  go_wp2_with fail
  go_loop [8] (fun j => ∃ i, i ≤ n ∧ j = .int .i64 (i : Nat) ∧ Hid (∀ k, k < i → badC (nth xs k) = false)) (fun j => n - (intOf j).toNat)
  case atStart => exact ⟨0, by omega, rfl, Lib.hid fun k hk => absurd hk (by omega)⟩
  case round =>
    obtain ⟨i, hi, rfl, hS⟩ := hrel
    by_cases hlt : i < n
    · obtain ⟨b, off, rfl, hc, hb⟩ := h.cell i hlt
      have hb' : nth xs i < 256 := hb
      clear hb
      go_wp2_with fail
      refine (bad_any _ _ hb').mono ?_
      rintro e w1 ⟨rfl, rfl⟩
      cases hq : badC (nth xs i)
      · have HQ := Lib.hid hq
        go_wp2
        go_round
        case rel => exact ⟨i + 1, by omega, by go_num, Lib.hid fun k hk => by
                      by_cases hki : k < i
                      · exact hS.out k hki
                      · obtain rfl : k = i := by omega
                        exact HQ.out⟩
        case measure => simp [intOf]; omega
      · have HQ := Lib.hid hq
        go_wp2
        go_ret
        rw [fstI_at hlt HQ.out hS.out]
        exact ⟨rfl, rfl⟩
    · obtain rfl : i = n := by omega
      go_wp2
      go_ret
      rw [fstI_none hS.out]
      exact ⟨rfl, rfl⟩

theorem containsBad_any (w : World) {a : Option Addr} {n cap : Nat} {xs : List Nat} (h : Rd .u8 w a n cap xs) :
    Calls Try.prog 39 #[.slice a n cap, badV] w fun e w' => e = .returned (.bool (xs.any badC)) ∧ w = w' := by
  have e := any_nth (xs := xs) badC
  rw [h.len, ← fstI_ge] at e
  rw [← e]
  clear e
  go_enter Try.func39, Try.ntmps39
  go_wp2_with fail
  refine (indexBad_any _ h).mono ?_
  rintro e w1 ⟨rfl, rfl⟩
  go_wp2
  go_ret
  exact ⟨rfl, rfl⟩

set_option maxRecDepth 100000 in
theorem odd1_any (w : World) (s : ByteArray) : Calls Try.prog 37 #[.string s] w fun e w' => e = .returned (.bool (oddS s)) ∧ Below w.heap.size w w' := by
  by_cases h1 : s.size = 0
  · obtain rfl : s = ⟨#[]⟩ := by
      cases s with
      | mk d => simp [ByteArray.size] at h1; simp [h1]
    go_enter Try.func37, Try.ntmps37
    go_wp2
    go_ret
    exact ⟨rfl, Below.refl _ _⟩
  have hq : s.toList.isEmpty = false := by
    cases s with
    | mk d =>
      rw [ByteArray.toList_eq]
      cases hd : d.toList.isEmpty
      · rfl
      · simp at hd
        subst hd
        exact absurd rfl h1
  by_cases h2 : 40 < s.size
  · go_enter Try.func37, Try.ntmps37
    go_wp2
    go_ret
    exact ⟨by simp [oddS, h2], Below.refl _ _⟩
  obtain ⟨a', c', w', hcv, hr, hb, hz⟩ := conv_bytes Try.prog w Try.underlying9 Try.underlying38 Try.underlying5 s (by unfold maxLen; omega)
  go_enter Try.func37, Try.ntmps37
  go_wp2_with fail
  refine (containsBad_any _ hr).mono ?_
  rintro e w1 ⟨rfl, rfl⟩
  go_wp2_with fail
  go_ret
  exact ⟨by
    simp [oddS, h1, h2]
    intro h
    omega, hb⟩

set_option maxHeartbeats 1000000 in
theorem indexOdd_any (w : World) {a : Option Addr} {n cap : Nat} {ss : List ByteArray} (h : RdS w a n cap ss) :
    Calls Try.prog 63 #[.slice a n cap, oddV] w fun e w' => e = .returned (.int .i64 (fstI (fun i => oddS (sth ss i)) n)) ∧ Below w.heap.size w w' := by
  have hn := h.lt
  go_enter Try.func63, Try.ntmps63
  go_wp2_with fail
  go_loopw [8] (fun j wr => ∃ i, i ≤ n ∧ j = .int .i64 (i : Nat) ∧ Below w.heap.size w wr ∧ Hid (∀ k, k < i → oddS (sth ss k) = false)) (fun j _ => n - (intOf j).toNat)
  case atStart => exact ⟨0, by omega, rfl, Below.refl _ _, Lib.hid fun k hk => absurd hk (by omega)⟩
  case round =>
    obtain ⟨i, hi, rfl, hb, hS⟩ := hrel
    by_cases hlt : i < n
    · obtain ⟨b, off, rfl, hc⟩ := h.cell i hlt
      have hc' := cell_below hb hc
      have hz := hb.size
      go_wp2_with fail
      refine (odd1_any _ _).mono ?_
      rintro e w1 ⟨rfl, hb1⟩
      have hb2 := hb.trans (hb1.mono hz)
      cases hq : oddS (sth ss i)
      · have HQ := Lib.hid hq
        go_wp2
        go_roundw
        case rel => exact ⟨i + 1, by omega, by go_num, hb2, Lib.hid fun k hk => by
                      by_cases hki : k < i
                      · exact hS.out k hki
                      · obtain rfl : k = i := by omega
                        exact HQ.out⟩
        case measure => simp [intOf]; omega
      · have HQ := Lib.hid hq
        go_wp2
        go_ret
        rw [fstI_at hlt HQ.out hS.out]
        exact ⟨rfl, hb2⟩
    · obtain rfl : i = n := by omega
      go_wp2
      go_ret
      rw [fstI_none hS.out]
      exact ⟨rfl, hb⟩

theorem containsOdd_any (w : World) {a : Option Addr} {n cap : Nat} {ss : List ByteArray} (h : RdS w a n cap ss) :
    Calls Try.prog 36 #[.slice a n cap, oddV] w fun e w' => e = .returned (.bool (oddL ss)) ∧ Below w.heap.size w w' := by
  have e := any_sth (ss := ss) oddS
  rw [h.len, ← fstI_ge] at e
  unfold oddL
  rw [← e]
  clear e
  go_enter Try.func36, Try.ntmps36
  go_wp2_with fail
  refine (indexOdd_any _ h).mono ?_
  rintro e w1 ⟨rfl, hb⟩
  go_wp2
  go_ret
  exact ⟨rfl, hb⟩

theorem odd_any (w : World) {a : Option Addr} {n cap : Nat} {ss : List ByteArray} (h : RdS w a n cap ss) :
    Calls Try.prog 14 #[.slice a n cap] w fun e w' => e = .returned (.bool (oddL ss)) ∧ Below w.heap.size w w' := by
  go_enter Try.func14, Try.ntmps14
  go_wp2_with fail
  refine (containsOdd_any _ h).mono ?_
  rintro e w1 ⟨rfl, hb⟩
  go_wp2
  go_ret
  exact ⟨rfl, hb⟩

/-- slices.Index. -/
def idxI (ss : List ByteArray) (s : ByteArray) : Int := fstI (fun i => eqS s (sth ss i)) ss.length

set_option maxHeartbeats 1000000 in
theorem index_any (w : World) {a : Option Addr} {n cap : Nat} {ss : List ByteArray} (h : RdS w a n cap ss) (s : ByteArray) :
    Calls Try.prog 65 #[.slice a n cap, .string s] w fun e w' => e = .returned (.int .i64 (idxI ss s)) ∧ w = w' := by
  have hn := h.lt
  unfold idxI
  rw [h.len]
  go_enter Try.func65, Try.ntmps65
  go_wp2_with fail
  go_loop [8] (fun j => ∃ i, i ≤ n ∧ j = .int .i64 (i : Nat) ∧ Hid (∀ k, k < i → eqS s (sth ss k) = false)) (fun j => n - (intOf j).toNat)
  case atStart => exact ⟨0, by omega, rfl, Lib.hid fun k hk => absurd hk (by omega)⟩
  case round =>
    obtain ⟨i, hi, rfl, hS⟩ := hrel
    by_cases hlt : i < n
    · obtain ⟨b, off, rfl, hc⟩ := h.cell i hlt
      cases hq : (s.toList == (sth ss i).toList)
      · have HQ := Lib.hid hq
        go_wp2
        go_round
        case rel => exact ⟨i + 1, by omega, by go_num, Lib.hid fun k hk => by
                      by_cases hki : k < i
                      · exact hS.out k hki
                      · obtain rfl : k = i := by omega
                        exact HQ.out⟩
        case measure => simp [intOf]; omega
      · have HQ := Lib.hid hq
        go_wp2
        go_ret
        rw [fstI_at hlt HQ.out hS.out]
        exact ⟨rfl, rfl⟩
    · obtain rfl : i = n := by omega
      go_wp2
      go_ret
      rw [fstI_none hS.out]
      exact ⟨rfl, rfl⟩

theorem contains_any (w : World) {a : Option Addr} {n cap : Nat} {ss : List ByteArray} (h : RdS w a n cap ss) (s : ByteArray) :
    Calls Try.prog 40 #[.slice a n cap, .string s] w fun e w' => e = .returned (.bool (hasS ss s)) ∧ w = w' := by
  have e := any_sth (ss := ss) (eqS s)
  rw [← fstI_ge] at e
  unfold hasS
  rw [← e]
  clear e
  go_enter Try.func40, Try.ntmps40
  go_wp2_with fail
  refine (index_any _ h s).mono ?_
  rintro e w1 ⟨rfl, rfl⟩
  go_wp2
  go_ret
  exact ⟨rfl, rfl⟩

end Go.Proofs.Ythpjnbnheagpiaa
/- What Check computes in the program. No condition. -/
set_option linter.unusedVariables false
set_option linter.unusedSimpArgs false
namespace Go.Proofs.Ythpjnbnheagpiaa
open Go.RowKit Go.Suf

theorem etS : ET Try.prog 22 9 (.string ⟨#[]⟩) 16 := ⟨Try.underlying22, by kernel_rfl, rfl⟩

theorem twice_at {ss : List ByteArray} {i : Nat} (hi : i < ss.length) (hp : hasS (ss.take i) (sth ss i) = true) : twiceL ss = true :=
  List.any_eq_true.2 ⟨i, List.mem_range.2 hi, hp⟩
theorem twice_none {ss : List ByteArray} (hn : ∀ i, i < ss.length → hasS (ss.take i) (sth ss i) = false) : twiceL ss = false := by
  unfold twiceL
  rw [List.any_eq_false]
  intro x hx
  simp [hn x (List.mem_range.1 hx)]

set_option maxHeartbeats 1000000 in
theorem twice_any (w : World) {a : Option Addr} {n cap : Nat} {ss : List ByteArray} (h : RdS w a n cap ss) :
    Calls Try.prog 15 #[.slice a n cap] w fun e w' => e = .returned (.bool (twiceL ss)) ∧ w = w' := by
  have hn := h.lt
  have HL := Lib.hid h.len
  go_enter Try.func15, Try.ntmps15
  go_wp2_with fail
  go_loop [7] (fun j => ∃ i, i ≤ n ∧ j = .int .i64 (i : Nat) ∧ Hid (∀ k, k < i → hasS (ss.take k) (sth ss k) = false)) (fun j => n - (intOf j).toNat)
  case atStart => exact ⟨0, by omega, rfl, Lib.hid fun k hk => absurd hk (by omega)⟩
  case round =>
    obtain ⟨i, hi, rfl, hS⟩ := hrel
    by_cases hlt : i < n
    · obtain ⟨b, off, rfl, hc⟩ := h.cell i hlt
      go_wp2_with (refine wpList_uptoS rfl _ _ 22 rfl etS h rfl rfl i rfl (by omega) ?_; intro a' ha')
      refine (contains_any _ ha' _).mono ?_
      rintro e w1 ⟨rfl, rfl⟩
      cases hq : hasS (ss.take i) (sth ss i)
      · have HQ := Lib.hid hq
        go_wp2
        go_round
        case rel => exact ⟨i + 1, by omega, by go_num, Lib.hid fun k hk => by
                      by_cases hki : k < i
                      · exact hS.out k hki
                      · obtain rfl : k = i := by omega
                        exact HQ.out⟩
        case measure => simp [intOf]; omega
      · have HQ := Lib.hid hq
        go_wp2
        go_ret
        rw [twice_at (by have := HL.out; omega) HQ.out]
        exact ⟨rfl, rfl⟩
    · obtain rfl : i = n := by omega
      go_wp2
      go_ret
      rw [twice_none (by rw [HL.out]; exact hS.out)]
      exact ⟨rfl, rfl⟩

def fitsC (n : Nat) (seats : Int) (rule : Nat) : Bool :=
  if seats < 1 ∨ 10 < seats then false else if seatsN rule = 1 then decide (seats = 1) else if seatsN rule = 2 then decide (seats ≤ n) else decide (seatsN rule = 3)

theorem new_cell (w : World) (cs : Array Value) (t : TypeId) (i : Nat) (v : Value) (h : cs[i]? = some v) : (w.alloc (.cells cs t)).cell? ⟨w.heap.size, i, none⟩ = some v := by
  simp only [World.cell?, heap_alloc_new, h]
  rfl

set_option maxRecDepth 100000 in
set_option maxHeartbeats 1000000 in
theorem fits_any (w : World) (nm : ByteArray) {a : Option Addr} {n cap : Nat} (hn : n ≤ 9223372036854775807) (seats : Int) (hs1 : -9223372036854775808 ≤ seats) (hs2 : seats ≤ 9223372036854775807) (rule : Nat) (hr : rule < 256) :
    Calls Try.prog 16 #[.agg #[.string nm, .slice a n cap, .int .i64 seats, .int .u8 (rule : Nat)]] w fun e w' => e = .returned (.bool (fitsC n seats rule)) ∧ Below w.heap.size w w' := by
  by_cases h1 : seats < 1
  · go_enter Try.func16, Try.ntmps16
    go_wp2_with fail
    go_ret
    exact ⟨by simp [fitsC, h1], (Below.refl _ _).alloc (Nat.le_refl _) _⟩
  by_cases h2 : 10 < seats
  · go_enter Try.func16, Try.ntmps16
    go_wp2_with fail
    go_ret
    exact ⟨by simp [fitsC, h2], (Below.refl _ _).alloc (Nat.le_refl _) _⟩
  go_enter Try.func16, Try.ntmps16
  go_wp2_with fail
  refine (of_any _ _ hr).mono ?_
  rintro e w1 ⟨rfl, hb1⟩
  have c1 := cell_below hb1 (new_cell w #[.string nm, .slice a n cap, .int .i64 seats, .int .u8 (rule : Nat)] 24 1 _ rfl)
  have c2 := cell_below hb1 (new_cell w #[.string nm, .slice a n cap, .int .i64 seats, .int .u8 (rule : Nat)] 24 2 _ rfl)
  have hb : Below w.heap.size w w1 := ((Below.refl _ w).alloc (Nat.le_refl _) _).trans (hb1.mono (by rw [World.size_alloc]; omega))
  have hsl := seats_le rule
  have hf : fitsC n seats rule = if seatsN rule = 1 then decide (seats = 1) else if seatsN rule = 2 then decide (seats ≤ n) else decide (seatsN rule = 3) := by
    unfold fitsC
    rw [if_neg (by omega)]
  have HF := Lib.hid hf
  clear hf
  by_cases g1 : seatsN rule = 1
  · go_wp2_with first | refine wpList_field rfl 60 _ 2 2 rfl f3 _ _ rfl rfl ?_
    go_ret
    exact ⟨by rw [HF.out, if_pos g1]; rfl, hb⟩
  by_cases g2 : seatsN rule = 2
  · go_wp2_with first | refine wpList_field rfl 60 _ 2 2 rfl f3 _ _ rfl rfl ?_
    go_ret
    exact ⟨by rw [HF.out, if_neg g1, if_pos g2]; rfl, hb⟩
  by_cases g3 : seatsN rule = 3
  · go_wp2_with first | refine wpList_field rfl 60 _ 2 2 rfl f3 _ _ rfl rfl ?_
    go_ret
    exact ⟨by rw [HF.out, if_neg g1, if_neg g2]; simp [g3], hb⟩
  · go_wp2_with first | refine wpList_field rfl 60 _ 2 2 rfl f3 _ _ rfl rfl ?_
    go_ret
    exact ⟨by rw [HF.out, if_neg g1, if_neg g2]; simp [g3], hb⟩

/-- What Check answers. -/
def checkC (nm : ByteArray) (ss : List ByteArray) (seats : Int) (rule : Nat) : Int :=
  if 10 < ss.length then 4 else if ss.length = 0 ∨ oddL [nm] = true ∨ oddL ss = true ∨ twiceL ss = true ∨ fitsC ss.length seats rule = false then 8 else 0

set_option maxRecDepth 100000 in
set_option maxHeartbeats 2000000 in
theorem Check_any (w : World) (nm : ByteArray) {a : Option Addr} {n cap : Nat} {ss : List ByteArray} (h : RdS w a n cap ss) (seats : Int) (hs1 : -9223372036854775808 ≤ seats) (hs2 : seats ≤ 9223372036854775807) (rule : Nat) (hr : rule < 256) :
    Calls Try.prog 5 #[.agg #[.string nm, .slice a n cap, .int .i64 seats, .int .u8 (rule : Nat)]] w fun e w' => e = .returned (.int .i64 (checkC nm ss seats rule)) ∧ Below w.heap.size w w' := by
  have hn := h.lt
  obtain ⟨r, hr0⟩ : ∃ r, r = checkC nm ss seats rule := ⟨_, rfl⟩
  rw [← hr0]
  unfold checkC at hr0
  rw [h.len] at hr0
  have HR := Lib.hid hr0
  clear hr0
  by_cases h1 : 10 < n
  · go_enter Try.func5, Try.ntmps5
    go_wp2_with fail
    go_ret
    exact ⟨by rw [HR.out, if_pos h1]; rfl, (Below.refl _ _).alloc (Nat.le_refl _) _⟩
  by_cases h2 : n = 0
  · go_enter Try.func5, Try.ntmps5
    go_wp2_with fail
    go_ret
    exact ⟨by rw [HR.out, if_neg h1, if_pos (Or.inl h2)]; rfl, (Below.refl _ _).alloc (Nat.le_refl _) _⟩
  go_enter Try.func5, Try.ntmps5
  go_wp2_with fail
  have hA : Below w.heap.size w ((w.alloc (.cells #[.string nm, .slice a n cap, .int .i64 seats, .int .u8 (rule : Nat)] 24)).alloc (.cells #[.string nm] 9)) := ((Below.refl _ _).alloc (Nat.le_refl _) _).alloc (by rw [World.size_alloc]; omega) _
  have c (i : Nat) (v : Value) (hv : (#[.string nm, .slice a n cap, .int .i64 seats, .int .u8 (rule : Nat)] : Array Value)[i]? = some v) := cell_below ((Below.refl _ _).alloc (Nat.le_refl _) (.cells #[.string nm] 9)) (new_cell w _ 24 i v hv)
  have hl1 : RdS ((w.alloc (.cells #[.string nm, .slice a n cap, .int .i64 seats, .int .u8 (rule : Nat)] 24)).alloc (.cells #[.string nm] 9)) (some ⟨w.heap.size + 1, 0, none⟩) 1 1 [nm] := by
    have := rdS_lit (w.alloc (.cells #[.string nm, .slice a n cap, .int .i64 seats, .int .u8 (rule : Nat)] 24)) [nm] 9 (by unfold maxLen; simp)
    rw [World.size_alloc] at this
    exact this
  refine (odd_any _ hl1).mono ?_
  rintro e w1 ⟨rfl, hb1⟩
  have hB1 := hA.trans (hb1.mono hA.size)
  have c0 := cell_below hb1 (c 0 _ rfl)
  have c1 := cell_below hb1 (c 1 _ rfl)
  have c2 := cell_below hb1 (c 2 _ rfl)
  have c3 := cell_below hb1 (c 3 _ rfl)
  clear c
  cases q1 : oddL [nm]
  · have Q1 := Lib.hid q1
    go_wp2_with fail
    refine (odd_any _ (h.below hB1)).mono ?_
    rintro e w2 ⟨rfl, hb2⟩
    have hB2 := hB1.trans (hb2.mono hB1.size)
    have d0 := cell_below hb2 c0
    have d1 := cell_below hb2 c1
    have d2 := cell_below hb2 c2
    have d3 := cell_below hb2 c3
    clear c0 c1 c2 c3
    cases q2 : oddL ss
    · have Q2 := Lib.hid q2
      go_wp2_with fail
      refine (twice_any _ (h.below hB2)).mono ?_
      rintro e w3 ⟨rfl, rfl⟩
      cases q3 : twiceL ss
      · have Q3 := Lib.hid q3
        go_wp2_with fail
        refine (fits_any _ nm hn seats hs1 hs2 rule hr).mono ?_
        rintro e w3 ⟨rfl, hb3⟩
        have hB3 := hB2.trans (hb3.mono hB2.size)
        cases q4 : fitsC n seats rule
        · have Q4 := Lib.hid q4
          go_wp2_with fail
          go_ret
          exact ⟨by rw [HR.out, if_neg h1, if_pos (Or.inr (Or.inr (Or.inr (Or.inr Q4.out))))]; rfl, hB3⟩
        · have Q4 := Lib.hid q4
          go_wp2_with fail
          go_ret
          exact ⟨by rw [HR.out, if_neg h1, if_neg (by rw [Q1.out, Q2.out, Q3.out, Q4.out]; simp [h2])]; rfl, hB3⟩
      · have Q3 := Lib.hid q3
        go_wp2_with fail
        go_ret
        exact ⟨by rw [HR.out, if_neg h1, if_pos (Or.inr (Or.inr (Or.inr (Or.inl Q3.out))))]; rfl, hB2⟩
    · have Q2 := Lib.hid q2
      go_wp2_with fail
      go_ret
      exact ⟨by rw [HR.out, if_neg h1, if_pos (Or.inr (Or.inr (Or.inl Q2.out)))]; rfl, hB2⟩
  · have Q1 := Lib.hid q1
    go_wp2_with fail
    go_ret
    exact ⟨by rw [HR.out, if_neg h1, if_pos (Or.inr (Or.inl Q1.out))]; rfl, hB1⟩

end Go.Proofs.Ythpjnbnheagpiaa
/- What Check computes in the document's answer. No condition. -/
set_option linter.unusedVariables false
set_option linter.unusedSimpArgs false
namespace Go.Proofs.Ythpjnbnheagpiaa
open Go.RowKit Go.Suf

theorem str_at (s : ByteArray) (i : Nat) (hi : i < s.size) : s[i].toNat = nth (byts s) i := by
  have hd : i < s.data.size := hi
  simp only [nth, byts, List.getD, List.getElem?_map, Array.getElem?_toList, getElem?_pos s.data i hd]
  rfl

theorem byts_any_none {s : ByteArray} (h : ∀ k, k < s.size → badC (nth (byts s) k) = false) : (byts s).any badC = false := by
  rw [← any_nth, byts_length, List.any_eq_false]
  intro x hx
  simp [h x (List.mem_range.1 hx)]

theorem byts_any_at {s : ByteArray} {k : Nat} (hk : k < s.size) (h : badC (nth (byts s) k) = true) : (byts s).any badC = true := by
  rw [← any_nth, byts_length, List.any_eq_true]
  exact ⟨k, List.mem_range.2 hk, h⟩

/-! ### May -/
theorem has_take {ss : List ByteArray} {i : Nat} (hi : i < ss.length) (s : ByteArray) : hasS (ss.take i) s = (List.range i).any fun k => eqS s (sth ss k) := by
  unfold hasS
  rw [← any_sth (ss := ss.take i) (eqS s), List.length_take, Nat.min_eq_left (by omega), Bool.eq_iff_iff, List.any_eq_true, List.any_eq_true]
  constructor
  · rintro ⟨k, hk, h⟩
    have := List.mem_range.1 hk
    exact ⟨k, hk, by rwa [show sth (ss.take i) k = sth ss k from by simp [sth, List.getD, List.getElem?_take, this]] at h⟩
  · rintro ⟨k, hk, h⟩
    have := List.mem_range.1 hk
    exact ⟨k, hk, by rwa [show sth (ss.take i) k = sth ss k from by simp [sth, List.getD, List.getElem?_take, this]]⟩

theorem eqS_comm (s t : ByteArray) : eqS s t = eqS t s := by
  unfold eqS
  exact Bool.beq_comm

def mayC (nm : ByteArray) (ss : List ByteArray) (seats : Int) (rule : Nat) : Bool :=
  !oddS nm && decide (1 ≤ ss.length) && decide (ss.length ≤ 10) && isR rule && decide (1 ≤ seats) && decide (seats ≤ 10) && !oddL ss && !twiceL ss && (if oneN rule = true then decide (seats = 1) else listsN rule || decide (seats ≤ ss.length))

theorem odd_at {ss : List ByteArray} {i : Nat} (hi : i < ss.length) (h : oddS (sth ss i) = true) : oddL ss = true := List.any_eq_true.2 ⟨_, sth_mem hi, h⟩
theorem odd_none {ss : List ByteArray} (h : ∀ i, i < ss.length → oddS (sth ss i) = false) : oddL ss = false := by
  unfold oddL
  rw [← any_sth, List.any_eq_false]
  intro x hx
  simp [h x (List.mem_range.1 hx)]

theorem fits_rule : ∀ rule, isR rule = true → (seatsN rule = 1 ↔ oneN rule = true) ∧ (seatsN rule = 3 ↔ listsN rule = true) ∧ (seatsN rule = 2 ↔ oneN rule = false ∧ listsN rule = false) :=
  upto17 (by decide) (fun n h => absurd ((isR_iff _).1 h).2 (by omega))

/-- The document's Check answers what the program's answers. -/
theorem check_may (nm : ByteArray) (ss : List ByteArray) (seats : Int) (rule : Nat) : checkC nm ss seats rule = if 10 < ss.length then 4 else if mayC nm ss seats rule = true then 0 else 8 := by
  unfold checkC
  by_cases h1 : 10 < ss.length
  · rw [if_pos h1, if_pos h1]
  rw [if_neg h1, if_neg h1]
  have e0 : oddL [nm] = oddS nm := by simp [oddL]
  rw [e0]
  by_cases h2 : ss.length = 0
  · rw [if_pos (Or.inl h2), if_neg (by simp [mayC, h2])]
  cases q1 : oddS nm
  case true => simp [mayC, q1]
  cases q2 : oddL ss
  case true => simp [mayC, q2]
  cases q3 : twiceL ss
  case true => simp [mayC, q3]
  have hm : mayC nm ss seats rule = fitsC ss.length seats rule := by
    have h3 : decide (1 ≤ ss.length) = true := by rw [decide_eq_true_eq]; omega
    have h4 : decide (ss.length ≤ 10) = true := by rw [decide_eq_true_eq]; omega
    unfold mayC fitsC
    rw [q1, q2, q3, h3, h4]
    cases hi : isR rule
    · have := (seats_zero rule).2 hi
      simp [this]
    obtain ⟨f1, f2, f3⟩ := fits_rule rule hi
    by_cases g1 : seats < 1
    · rw [if_pos (Or.inl g1)]
      simp [show ¬ 1 ≤ seats by omega]
    by_cases g2 : 10 < seats
    · rw [if_pos (Or.inr g2)]
      simp [show ¬ seats ≤ 10 by omega]
    rw [if_neg (show ¬ (seats < 1 ∨ 10 < seats) by omega)]
    simp only [show decide (1 ≤ seats) = true from by rw [decide_eq_true_eq]; omega, show decide (seats ≤ 10) = true from by rw [decide_eq_true_eq]; omega, Bool.not_false, Bool.true_and, Bool.and_true]
    cases o1 : oneN rule
    · have n1 : ¬ seatsN rule = 1 := fun h => by rw [f1.1 h] at o1; simp at o1
      rw [if_neg n1]
      cases l1 : listsN rule
      · rw [if_pos (f3.2 ⟨o1, l1⟩)]
        simp
      · have n3 := f2.2 l1
        rw [if_neg (show ¬ seatsN rule = 2 by omega)]
        simp [n3]
    · rw [if_pos (f1.2 o1)]
      simp
  rw [hm]
  cases q4 : fitsC ss.length seats rule <;> simp [h2]

end Go.Proofs.Ythpjnbnheagpiaa
/- What the document's Check answers. No condition. -/
set_option linter.unusedVariables false
set_option linter.unusedSimpArgs false
namespace Go.Proofs.Ythpjnbnheagpiaa
open Go.RowKit Go.Suf

theorem cell_drew {w : World} {p : Addr} {v : Value} (h : w.cell? p = some v) (q : Nat) : (w.drewN q).cell? p = some v := cell_below (below_drewN (Below.refl _ w) q) h

end Go.Proofs.Ythpjnbnheagpiaa
/- Great and Place, in the program and in the document's answer. No condition. -/
set_option linter.unusedVariables false
set_option linter.unusedSimpArgs false
namespace Go.Proofs.Ythpjnbnheagpiaa
open Go.RowKit Go.Suf

def greatC (nm : ByteArray) (ss : List ByteArray) : Bool := decide (100 < ss.length) || decide (1000 < nm.size) || ss.any fun s => decide (1000 < s.size)

theorem great_at {ss : List ByteArray} {i : Nat} (hi : i < ss.length) (h : 1000 < (sth ss i).size) : (ss.any fun s => decide (1000 < s.size)) = true := List.any_eq_true.2 ⟨_, sth_mem hi, by simpa using h⟩
theorem great_none {ss : List ByteArray} (h : ∀ i, i < ss.length → ¬ 1000 < (sth ss i).size) : (ss.any fun s => decide (1000 < s.size)) = false := by
  rw [← any_sth, List.any_eq_false]
  intro x hx
  simpa using h x (List.mem_range.1 hx)

set_option maxRecDepth 100000 in
set_option maxHeartbeats 1000000 in
theorem Great_any (w : World) (nm : ByteArray) {a : Option Addr} {n cap : Nat} {ss : List ByteArray} (h : RdS w a n cap ss) (seats : Int) (rule : Nat) (_hr : rule < 256) :
    Calls Try.prog 4 #[.agg #[.string nm, .slice a n cap, .int .i64 seats, .int .u8 (rule : Nat)]] w fun e w' => e = .returned (.bool (greatC nm ss)) ∧ Below w.heap.size w w' := by
  have hn := h.lt
  have HL := Lib.hid h.len
  obtain ⟨r, hr0⟩ : ∃ r, r = greatC nm ss := ⟨_, rfl⟩
  rw [← hr0]
  unfold greatC at hr0
  rw [h.len] at hr0
  have HR := Lib.hid hr0
  clear hr0
  have hA : Below w.heap.size w (w.alloc (.cells #[.string nm, .slice a n cap, .int .i64 seats, .int .u8 (rule : Nat)] 24)) := (Below.refl _ _).alloc (Nat.le_refl _) _
  by_cases h1 : 100 < n
  · go_enter Try.func4, Try.ntmps4
    go_wp2_with fail
    go_ret
    exact ⟨by rw [HR.out]; simp [h1], hA⟩
  by_cases h2 : 1000 < nm.size
  · go_enter Try.func4, Try.ntmps4
    go_wp2_with fail
    go_ret
    exact ⟨by rw [HR.out]; simp [h2], hA⟩
  have c1 := new_cell w #[.string nm, .slice a n cap, .int .i64 seats, .int .u8 (rule : Nat)] 24 1 _ rfl
  have hrd := h.below hA
  go_enter Try.func4, Try.ntmps4
  go_wp2_with fail
  generalize hwA : w.alloc (.cells #[.string nm, .slice a n cap, .int .i64 seats, .int .u8 (rule : Nat)] 24) = wA at hA c1 hrd ⊢
  go_loop [3] (fun j => ∃ i, i ≤ n ∧ j = .int .i64 (i : Nat) ∧ Hid (∀ k, k < i → ¬ 1000 < (sth ss k).size)) (fun j => n - (intOf j).toNat)
  case atStart => exact ⟨0, by omega, rfl, Lib.hid fun k hk => absurd hk (by omega)⟩
  case round =>
    obtain ⟨i, hi, rfl, hS⟩ := hrel
    by_cases hlt : i < n
    · obtain ⟨b, off, rfl, hc⟩ := hrd.cell i hlt
      by_cases hq : 1000 < (sth ss i).size
      · have HQ := Lib.hid (great_at (by have := HL.out; omega) hq)
        go_wp2
        go_ret
        exact ⟨by rw [HR.out, HQ.out]; simp, hA⟩
      · have HQ := Lib.hid hq
        go_wp2
        go_round
        case rel => exact ⟨i + 1, by omega, by go_num, Lib.hid fun k hk => by
                      by_cases hki : k < i
                      · exact hS.out k hki
                      · obtain rfl : k = i := by omega
                        exact HQ.out⟩
        case measure => simp [intOf]; omega
    · obtain rfl : i = n := by omega
      have HQ := Lib.hid (great_none (ss := ss) (by rw [HL.out]; exact hS.out))
      go_wp2
      go_ret
      exact ⟨by rw [HR.out, HQ.out]; simp [h1, h2], hA⟩

/-- What Place answers. -/
def placeC (nm : ByteArray) (ss : List ByteArray) (seats : Int) (rule : Nat) (s : ByteArray) : Int × Int :=
  if checkC nm ss seats rule = 0 then (if idxI ss s < 0 then (0, 6) else (idxI ss s, 0)) else (0, checkC nm ss seats rule)

end Go.Proofs.Ythpjnbnheagpiaa
