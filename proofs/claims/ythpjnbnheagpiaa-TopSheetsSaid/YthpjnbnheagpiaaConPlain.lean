/- The rules as plain data. No condition. -/
import Derived.Test.YthpjnbnheagpiaaBase
import Derived.Test.YthpjnbnheagpiaaRows
import Derived.Lib.ConvBytes
set_option linter.unusedVariables false
set_option linter.unusedSimpArgs false
namespace Go.Suf
open Go.RowKit

/-- A rule: its word, its kind, how many seats it fills (0: it is none), whether a ballot has one mark. -/
def ruleOf : Nat → List UInt8 × Nat × Nat × Bool
  | 0 => ([], 0, 0, false)
  | 1 => ([112, 108, 117, 114, 97, 108, 105, 116, 121], 2, 2, true)
  | 2 => ([97, 112, 112, 114, 111, 118, 97, 108], 2, 2, false)
  | 3 => ([115, 99, 111, 114, 101], 3, 2, false)
  | 4 => ([98, 111, 114, 100, 97], 1, 2, false)
  | 5 => ([99, 111, 112, 101, 108, 97, 110, 100], 1, 1, false)
  | 6 => ([109, 105, 110, 105, 109, 97, 120], 1, 1, false)
  | 7 => ([115, 99, 104, 117, 108, 122, 101], 1, 1, false)
  | 8 => ([112, 97, 105, 114, 115], 1, 1, false)
  | 9 => ([114, 117, 110, 111, 102, 102], 1, 1, false)
  | 10 => ([99, 111, 111, 109, 98, 115], 1, 1, false)
  | 11 => ([103, 114, 101, 103, 111, 114, 121], 1, 2, false)
  | 12 => ([109, 101, 101, 107], 1, 2, false)
  | 13 => ([112, 104, 114, 97, 103, 109, 101, 110], 2, 2, false)
  | 14 => ([100, 104, 111, 110, 100, 116], 2, 3, true)
  | 15 => ([115, 97, 105, 110, 116, 101], 2, 3, true)
  | 16 => ([104, 97, 114, 101], 2, 3, true)
  | _ => ([], 0, 0, false)

def ruleRow (n : Nat) : List Value := [.string ⟨(ruleOf n).1.toArray⟩, .int .u8 ((ruleOf n).2.1 : Nat), .int .i64 ((ruleOf n).2.2.1 : Nat), .bool (ruleOf n).2.2.2]

def ruleTab : List Value := (List.range 17).flatMap ruleRow

theorem ruleTab_length : ruleTab.length = 68 := rfl

theorem ruleTab_one : ∀ u ∈ ruleTab, u.oneCell' = true := fun u hu => List.all_eq_true.1 (show ruleTab.all (fun u => u.oneCell') = true from rfl) u hu

theorem ruleRow_one (n : Nat) : ∀ u ∈ (ruleRow n).toArray.toList, u.oneCell' = true := fun u hu => List.all_eq_true.1 (show (ruleRow n).all (fun u => u.oneCell') = true from rfl) u (by simpa using hu)

theorem ruleTab_at (n : Nat) (h : n < 17) : (ruleTab.drop (4 * n)).take 4 = ruleRow n := by
  match n, h with
  | 0, _ => rfl
  | 1, _ => rfl
  | 2, _ => rfl
  | 3, _ => rfl
  | 4, _ => rfl
  | 5, _ => rfl
  | 6, _ => rfl
  | 7, _ => rfl
  | 8, _ => rfl
  | 9, _ => rfl
  | 10, _ => rfl
  | 11, _ => rfl
  | 12, _ => rfl
  | 13, _ => rfl
  | 14, _ => rfl
  | 15, _ => rfl
  | 16, _ => rfl
  | n + 17, h => omega

theorem ruleTab_cell (n j : Nat) (h : n < 17) (u : Value) (hu : (ruleRow n)[j]? = some u) : ruleTab[4 * n + j]? = some u := by
  rw [← ruleTab_at n h, List.getElem?_take, List.getElem?_drop] at hu
  split at hu
  · exact hu
  · simp at hu

/-! ### The parts of a rule -/
def wordN (n : Nat) : ByteArray := ⟨(ruleOf n).1.toArray⟩
def kindN (n : Nat) : Nat := (ruleOf n).2.1
def seatsN (n : Nat) : Nat := (ruleOf n).2.2.1
def aloneN (n : Nat) : Bool := (ruleOf n).2.2.2

theorem ruleRow_eq (n : Nat) : (ruleRow n).toArray = #[.string (wordN n), .int .u8 (kindN n : Nat), .int .i64 (seatsN n : Nat), .bool (aloneN n)] := rfl

def isR (n : Nat) : Bool := decide (1 ≤ n) && decide (n ≤ 16)

theorem upto17 {p : Nat → Prop} (h : ∀ n, n < 17 → p n) (g : ∀ n, p (n + 17)) (n : Nat) : p n := by
  by_cases hn : n < 17
  · exact h n hn
  · obtain ⟨k, rfl⟩ : ∃ k, n = k + 17 := ⟨n - 17, by omega⟩
    exact g k

theorem seats_zero : ∀ n, (seatsN n = 0 ↔ isR n = false) :=
  upto17 (by decide) (fun n => by simp [seatsN, ruleOf, isR])

theorem seats_le : ∀ n, seatsN n ≤ 3 := upto17 (by decide) (fun n => by simp [seatsN, ruleOf])
theorem kind_le : ∀ n, kindN n ≤ 3 := upto17 (by decide) (fun n => by simp [kindN, ruleOf])

theorem isR_iff (n : Nat) : isR n = true ↔ 1 ≤ n ∧ n ≤ 16 := by simp [isR]
theorem isR_not (n : Nat) : isR n = false ↔ ¬(1 ≤ n ∧ n ≤ 16) := by rw [← isR_iff]; simp

def kindC (n : Nat) : Nat × Int := if isR n = true then (kindN n, 0) else (0, 2)
def listsN (n : Nat) : Bool := decide (14 ≤ n) && decide (n ≤ 16)
def oneN (n : Nat) : Bool := decide (5 ≤ n) && decide (n ≤ 10)
def marksN (n : Nat) (c : Int) : Int := if n = 1 ∨ listsN n = true then 1 else c
def mostC (n : Nat) (c : Int) : Int × Int := if isR n = true ∧ 1 ≤ c ∧ c ≤ 10 then (marksN n c, 0) else (0, 2)
def wordC (n : Nat) : ByteArray × Int := if isR n = true then (wordN n, 0) else (⟨#[]⟩, 2)

def isWord (s : ByteArray) (i : Nat) : Bool := decide (1 ≤ i) && ((wordN i).toList == s.toList)
def ruleC (s : ByteArray) : Nat × Int := match (List.range 17).find? (isWord s) with
  | some i => (i, 0)
  | none => (0, 6)

theorem alone_marks : ∀ n, isR n = true → (aloneN n = true ↔ n = 1 ∨ listsN n = true) :=
  upto17 (by decide) (fun n h => absurd ((isR_iff _).1 h).2 (by omega))

def kindOf (n : Nat) : Nat := if n = 1 ∨ n = 2 ∨ n = 13 ∨ n = 14 ∨ n = 15 ∨ n = 16 then 2 else if n = 3 then 3 else 1
theorem kindOf_eq : ∀ n, isR n = true → kindOf n = kindN n := upto17 (by decide) (fun n h => absurd ((isR_iff _).1 h).2 (by omega))

theorem find_range {p : Nat → Bool} {m i : Nat} (hi : i < m) (hp : p i = true) (hn : ∀ j, j < i → p j = false) : (List.range m).find? p = some i := by
  rw [List.find?_eq_some_iff_getElem]
  exact ⟨hp, i, by simpa using hi, by simp, fun j hj => by simp [hn j hj]⟩

theorem ruleC_at {s : ByteArray} {i : Nat} (hi : i < 17) (hp : isWord s i = true) (hn : ∀ j, j < i → isWord s j = false) : ruleC s = (i, 0) := by
  unfold ruleC
  rw [find_range hi hp hn]

theorem ruleC_none {s : ByteArray} (hn : ∀ j, j < 17 → isWord s j = false) : ruleC s = (0, 6) := by
  unfold ruleC
  rw [List.find?_eq_none.2 (fun x hx => by simp [hn x (List.mem_range.1 hx)])]

end Go.Suf
/- What the rules' table and the functions that read it compute. No condition. -/
set_option linter.unusedVariables false
set_option linter.unusedSimpArgs false
namespace Go.Proofs.Ythpjnbnheagpiaa
open Go.RowKit Go.Suf

theorem below_set {B g : Nat} {w0 w : World} (hb : Below B w0 w) (hBg : B ≤ g) (cs : Array Value) : Below B w0 (w.setRow g cs) :=
  ⟨hb.os, hb.tape, hb.output, by rw [setRow_size]; exact hb.size, fun k hk => by rw [setRow_other _ _ _ _ (by omega)]; exact hb.block k hk⟩

theorem atTab : AT Try.prog 101 68 := ⟨⟨_, Try.underlying101, rfl⟩, by kernel_rfl⟩
theorem atRule : AT Try.prog 60 4 := ⟨⟨_, Try.underlying60, rfl⟩, by kernel_rfl⟩

set_option maxRecDepth 100000 in
set_option maxHeartbeats 1000000 in
theorem rules_any (w : World) : Calls Try.prog 41 #[] w fun e w' => e = .returned (.agg ruleTab.toArray) ∧ Below w.heap.size w w' := by
  go_enter Try.func41, Try.ntmps41
  go_wp2_with (refine wpList_store_new rfl 101 _ _ rfl atTab _ ruleTab.toArray _ rfl rfl ruleTab_length rfl ruleTab_one ?_)
  refine bodyPost_ret (results_cell_row rfl _ _ _ _ _ _ _ rfl (heap_alloc_new w _) Try.underlying101 rfl (by kernel_rfl)) rfl ?_
  exact ⟨rfl, (Below.refl _ w).alloc (Nat.le_refl _) _⟩

set_option maxRecDepth 100000 in
theorem of_any (w : World) (n : Nat) (hn : n < 256) : Calls Try.prog 17 #[.int .u8 (n : Nat)] w fun e w' => e = .returned (.agg #[.string (wordN n), .int .u8 (kindN n : Nat), .int .i64 (seatsN n : Nat), .bool (aloneN n)]) ∧ Below w.heap.size w w' := by
  rw [← ruleRow_eq]
  go_enter Try.func17, Try.ntmps17
  go_wp2_with fail
  refine (rules_any _).mono ?_
  rintro e w1 ⟨rfl, hb1⟩
  rw [World.size_alloc] at hb1
  have hr1 : w1.heap[w.heap.size]? = some (.cells #[Value.string ⟨#[]⟩, .int .u8 0, .int .i64 0, .bool false] 60 (0, 0)) := by
    rw [hb1.block _ (by omega), heap_alloc_new]
  have hs1 := hb1.size
  rw [World.size_alloc] at hs1
  have hr2 : ∀ o, (w1.alloc o).heap[w.heap.size]? = some (.cells #[Value.string ⟨#[]⟩, .int .u8 0, .int .i64 0, .bool false] 60 (0, 0)) := fun o => by rw [heap_alloc_old _ _ (by omega), hr1]
  have hb2 : ∀ o cs, Below w.heap.size w ((w1.alloc o).setRow w.heap.size cs) := fun o cs => below_set ((((Below.refl _ w).alloc (Nat.le_refl _) _).trans (hb1.mono (Nat.le_succ _))).alloc (by omega) o) (Nat.le_refl _) cs
  have hc : n < 17 → ∀ j u, (ruleRow n)[j]? = some u → (w1.alloc (.cells ruleTab.toArray 101)).cell? ⟨w1.heap.size, n * 4 + j, none⟩ = some u := by
    intro h j u hu
    have := ruleTab_cell n j h u hu
    simp only [World.cell?, heap_alloc_new, List.getElem?_toArray, Nat.mul_comm n 4, this]
    rfl
  by_cases h17 : n < 17
  · go_wp2_with first | refine wpList_store_new rfl 101 _ _ rfl atTab _ ruleTab.toArray _ rfl rfl ruleTab_length rfl ruleTab_one ?_ | refine wpList_load_agg rfl 60 _ rfl atRule rfl (ruleRow n) rfl (hc h17) ?_ | refine wpList_store_whole rfl 60 _ _ rfl atRule _ _ _ (hr2 _) rfl rfl rfl rfl (ruleRow_one n) ?_
    refine bodyPost_ret (results_cell_row rfl _ _ _ _ _ _ _ rfl (setRow_heap _ _ _ _ _ _ (hr2 _)) Try.underlying60 rfl (by kernel_rfl)) rfl ?_
    exact ⟨rfl, hb2 _ _⟩
  · have hz : ruleRow n = [Value.string ⟨#[]⟩, .int .u8 0, .int .i64 0, .bool false] := by
      match n, h17 with
      | n + 17, _ => rfl
    go_wp2_with first | refine wpList_store_new rfl 101 _ _ rfl atTab _ ruleTab.toArray _ rfl rfl ruleTab_length rfl ruleTab_one ?_ | refine wpList_store_whole rfl 60 _ _ rfl atRule _ _ _ (hr2 _) rfl rfl rfl rfl (ruleRow_one 17) ?_
    refine bodyPost_ret (results_cell_row rfl _ _ _ _ _ _ _ rfl (setRow_heap _ _ _ _ _ _ (hr2 _)) Try.underlying60 rfl (by kernel_rfl)) rfl ?_
    exact ⟨by rw [hz], hb2 _ _⟩

end Go.Proofs.Ythpjnbnheagpiaa
/- What Kind, Most and Word compute, in the program and in the document's answer. No condition. -/
set_option linter.unusedVariables false
set_option linter.unusedSimpArgs false
namespace Go.Proofs.Ythpjnbnheagpiaa
open Go.RowKit Go.Suf

theorem f1 : fieldOk Try.prog 60 0 0 = true := by kernel_rfl
theorem f2 : fieldOk Try.prog 60 1 1 = true := by kernel_rfl
theorem f3 : fieldOk Try.prog 60 2 2 = true := by kernel_rfl
theorem f4 : fieldOk Try.prog 60 3 3 = true := by kernel_rfl

/-- The word of a rule, out of the table. -/
def wordsTab : List Value := (List.range 17).map fun i => .string (wordN i)

set_option maxRecDepth 100000 in
theorem Kind_any (w : World) (n : Nat) (hn : n < 256) : Calls Try.prog 6 #[.int .u8 (n : Nat)] w fun e w' => e = .returned (.tuple #[.int .u8 ((kindC n).1 : Nat), .int .i64 (kindC n).2]) ∧ Below w.heap.size w w' := by
  have hz := seats_zero n
  have hs := seats_le n
  have hk := kind_le n
  go_enter Try.func6, Try.ntmps6
  go_wp2_with first | refine wpList_field rfl 60 _ 0 0 rfl f1 _ _ rfl rfl ?_ | refine wpList_field rfl 60 _ 1 1 rfl f2 _ _ rfl rfl ?_ | refine wpList_field rfl 60 _ 2 2 rfl f3 _ _ rfl rfl ?_ | refine wpList_field rfl 60 _ 3 3 rfl f4 _ _ rfl rfl ?_
  refine (of_any _ _ hn).mono ?_
  rintro e w1 ⟨rfl, hb1⟩
  by_cases h : seatsN n = 0
  · have hi := hz.1 h
    go_wp2_with first | refine wpList_field rfl 60 _ 0 0 rfl f1 _ _ rfl rfl ?_ | refine wpList_field rfl 60 _ 1 1 rfl f2 _ _ rfl rfl ?_ | refine wpList_field rfl 60 _ 2 2 rfl f3 _ _ rfl rfl ?_ | refine wpList_field rfl 60 _ 3 3 rfl f4 _ _ rfl rfl ?_
    go_ret2
    exact ⟨by simp [kindC, hi], hb1⟩
  · have hi : isR n = true := by simpa using mt hz.2 h
    go_wp2_with first | refine wpList_field rfl 60 _ 0 0 rfl f1 _ _ rfl rfl ?_ | refine wpList_field rfl 60 _ 1 1 rfl f2 _ _ rfl rfl ?_ | refine wpList_field rfl 60 _ 2 2 rfl f3 _ _ rfl rfl ?_ | refine wpList_field rfl 60 _ 3 3 rfl f4 _ _ rfl rfl ?_
    refine (of_any _ _ hn).mono ?_
    rintro e w2 ⟨rfl, hb2⟩
    go_wp2_with first | refine wpList_field rfl 60 _ 0 0 rfl f1 _ _ rfl rfl ?_ | refine wpList_field rfl 60 _ 1 1 rfl f2 _ _ rfl rfl ?_ | refine wpList_field rfl 60 _ 2 2 rfl f3 _ _ rfl rfl ?_ | refine wpList_field rfl 60 _ 3 3 rfl f4 _ _ rfl rfl ?_
    go_ret2
    exact ⟨by simp [kindC, hi], hb1.trans (hb2.mono hb1.size)⟩

set_option maxRecDepth 100000 in
theorem Most_any (w : World) (n : Nat) (hn : n < 256) (c : Int) (hc1 : -9223372036854775808 ≤ c) (hc2 : c ≤ 9223372036854775807) :
    Calls Try.prog 19 #[.int .u8 (n : Nat), .int .i64 c] w fun e w' => e = .returned (.tuple #[.int .i64 (mostC n c).1, .int .i64 (mostC n c).2]) ∧ Below w.heap.size w w' := by
  have hs := seats_le n
  cases hi : isR n
  · have h := (seats_zero n).2 hi
    go_enter Try.func19, Try.ntmps19
    go_wp2_with first | refine wpList_field rfl 60 _ 0 0 rfl f1 _ _ rfl rfl ?_ | refine wpList_field rfl 60 _ 1 1 rfl f2 _ _ rfl rfl ?_ | refine wpList_field rfl 60 _ 2 2 rfl f3 _ _ rfl rfl ?_ | refine wpList_field rfl 60 _ 3 3 rfl f4 _ _ rfl rfl ?_
    refine (of_any _ _ hn).mono ?_
    rintro e w1 ⟨rfl, hb1⟩
    go_wp2_with first | refine wpList_field rfl 60 _ 0 0 rfl f1 _ _ rfl rfl ?_ | refine wpList_field rfl 60 _ 1 1 rfl f2 _ _ rfl rfl ?_ | refine wpList_field rfl 60 _ 2 2 rfl f3 _ _ rfl rfl ?_ | refine wpList_field rfl 60 _ 3 3 rfl f4 _ _ rfl rfl ?_
    go_ret2
    exact ⟨by simp [mostC, hi], hb1⟩
  have h : ¬ seatsN n = 0 := fun h => by rw [(seats_zero n).1 h] at hi; simp at hi
  have hf : mostC n c = if c < 1 ∨ 10 < c then (0, 2) else if aloneN n = true then (1, 0) else (c, 0) := by
    unfold mostC
    by_cases h1 : c < 1
    · simp [h1, show ¬ 1 ≤ c by omega]
    by_cases h2 : 10 < c
    · simp [h2, show ¬ c ≤ 10 by omega]
    rw [if_pos ⟨hi, by omega, by omega⟩, if_neg (by omega)]
    have := alone_marks n hi
    cases hal : aloneN n
    · rw [hal] at this
      simp at this
      simp [marksN, this]
    · rw [hal] at this
      simp at this
      simp [marksN, this]
  generalize mostC n c = r at hf ⊢
  have HF := Lib.hid hf
  clear hf hi
  go_enter Try.func19, Try.ntmps19
  go_wp2_with first | refine wpList_field rfl 60 _ 0 0 rfl f1 _ _ rfl rfl ?_ | refine wpList_field rfl 60 _ 1 1 rfl f2 _ _ rfl rfl ?_ | refine wpList_field rfl 60 _ 2 2 rfl f3 _ _ rfl rfl ?_ | refine wpList_field rfl 60 _ 3 3 rfl f4 _ _ rfl rfl ?_
  refine (of_any _ _ hn).mono ?_
  rintro e w1 ⟨rfl, hb1⟩
  by_cases h1 : c < 1
  · go_wp2_with first | refine wpList_field rfl 60 _ 0 0 rfl f1 _ _ rfl rfl ?_ | refine wpList_field rfl 60 _ 1 1 rfl f2 _ _ rfl rfl ?_ | refine wpList_field rfl 60 _ 2 2 rfl f3 _ _ rfl rfl ?_ | refine wpList_field rfl 60 _ 3 3 rfl f4 _ _ rfl rfl ?_
    go_ret2
    exact ⟨by rw [HF.out, if_pos (Or.inl h1)]; rfl, hb1⟩
  by_cases h2 : 10 < c
  · go_wp2_with first | refine wpList_field rfl 60 _ 0 0 rfl f1 _ _ rfl rfl ?_ | refine wpList_field rfl 60 _ 1 1 rfl f2 _ _ rfl rfl ?_ | refine wpList_field rfl 60 _ 2 2 rfl f3 _ _ rfl rfl ?_ | refine wpList_field rfl 60 _ 3 3 rfl f4 _ _ rfl rfl ?_
    go_ret2
    exact ⟨by rw [HF.out, if_pos (Or.inr h2)]; rfl, hb1⟩
  go_wp2_with first | refine wpList_field rfl 60 _ 0 0 rfl f1 _ _ rfl rfl ?_ | refine wpList_field rfl 60 _ 1 1 rfl f2 _ _ rfl rfl ?_ | refine wpList_field rfl 60 _ 2 2 rfl f3 _ _ rfl rfl ?_ | refine wpList_field rfl 60 _ 3 3 rfl f4 _ _ rfl rfl ?_
  · exfalso
    simp only [beq_iff_eq] at *
    omega
  refine (of_any _ _ hn).mono ?_
  rintro e w2 ⟨rfl, hb2⟩
  cases hal : aloneN n
  · go_wp2_with first | refine wpList_field rfl 60 _ 0 0 rfl f1 _ _ rfl rfl ?_ | refine wpList_field rfl 60 _ 1 1 rfl f2 _ _ rfl rfl ?_ | refine wpList_field rfl 60 _ 2 2 rfl f3 _ _ rfl rfl ?_ | refine wpList_field rfl 60 _ 3 3 rfl f4 _ _ rfl rfl ?_
    go_ret2
    have hl : ¬ (c < 1 ∨ 10 < c) := by omega
    exact ⟨by rw [HF.out, if_neg hl, hal]; rfl, hb1.trans (hb2.mono hb1.size)⟩
  · go_wp2_with first | refine wpList_field rfl 60 _ 0 0 rfl f1 _ _ rfl rfl ?_ | refine wpList_field rfl 60 _ 1 1 rfl f2 _ _ rfl rfl ?_ | refine wpList_field rfl 60 _ 2 2 rfl f3 _ _ rfl rfl ?_ | refine wpList_field rfl 60 _ 3 3 rfl f4 _ _ rfl rfl ?_
    go_ret2
    have hl : ¬ (c < 1 ∨ 10 < c) := by omega
    exact ⟨by rw [HF.out, if_neg hl, hal]; rfl, hb1.trans (hb2.mono hb1.size)⟩

theorem wordsTab_at (n : Nat) (h : n < 17) : wordsTab[n]? = some (.string (wordN n)) := by simp [wordsTab, h]

end Go.Proofs.Ythpjnbnheagpiaa
/- Slices of strings. No condition. -/
set_option linter.unusedVariables false
set_option linter.unusedSimpArgs false
namespace Go.Suf
open Go.RowKit

def strs (ss : List ByteArray) : List Value := ss.map fun s => .string s

@[simp] theorem strs_length (ss : List ByteArray) : (strs ss).length = ss.length := by simp [strs]

theorem strs_one (ss : List ByteArray) : ∀ u ∈ strs ss, u.oneCell' = true := by
  intro u hu
  simp only [strs, List.mem_map] at hu
  obtain ⟨x, _, rfl⟩ := hu
  rfl

/-- The i-th string. -/
def sth (ss : List ByteArray) (i : Nat) : ByteArray := ss.getD i ⟨#[]⟩
theorem sth_eq {ss : List ByteArray} {i : Nat} (h : i < ss.length) : sth ss i = ss[i] := by simp [sth, h]
theorem sth_mem {ss : List ByteArray} {i : Nat} (h : i < ss.length) : sth ss i ∈ ss := by rw [sth_eq h]; exact List.getElem_mem _
theorem strs_at (ss : List ByteArray) (i : Nat) (h : i < ss.length) : (strs ss)[i]? = some (.string (sth ss i)) := by simp [strs, sth, h]

/-- The slice of 'n' strings at 'a' reads as ss. -/
structure RdS (w : World) (a : Option Addr) (n cap : Nat) (ss : List ByteArray) : Prop where
  len : ss.length = n
  sl : Sl w a cap (strs ss)

/-- The same, in memory of the call's own. -/
structure OwS (e : TypeId) (base : Nat) (w : World) (a : Option Addr) (n cap : Nat) (ss : List ByteArray) : Prop where
  len : ss.length = n
  own : w.ownsRow base e 1 (.slice a n cap) n (strs ss)

section
variable {e : TypeId} {base : Nat} {w w' : World} {a : Option Addr} {n cap : Nat} {ss : List ByteArray}

theorem RdS.le (h : RdS w a n cap ss) : n ≤ cap := by have := h.sl.le; simp at this; have := h.len; omega
theorem RdS.lt (h : RdS w a n cap ss) : n ≤ 9223372036854775807 := by have h1 := h.le; have h2 := h.sl.max; unfold maxLen at h2; omega
theorem RdS.below (h : RdS w a n cap ss) (hb : Below w.heap.size w w') : RdS w' a n cap ss := ⟨h.len, h.sl.below hb⟩

theorem RdS.cell (h : RdS w a n cap ss) (i : Nat) (hi : i < n) : ∃ b off, a = some ⟨b, off, none⟩ ∧ w.cell? ⟨b, off + i, none⟩ = some (.string (sth ss i)) := by
  have hl := h.len
  exact h.sl.cell i _ (strs_at ss i (by omega))

theorem RdS.addr (h : RdS w a n cap ss) (hp : 0 < n) : ∃ b off, a = some ⟨b, off, none⟩ ∧ ∀ i, i < n → w.cell? ⟨b, off + i, none⟩ = some (.string (sth ss i)) := by
  have hl := h.len
  obtain ⟨b, off, e, hw⟩ := h.sl.addr (by simp; omega)
  exact ⟨b, off, e, fun i hi => hw i _ (strs_at ss i (by omega))⟩

theorem OwS.rd (h : OwS e base w a n cap ss) : RdS w a n cap ss := ⟨h.len, sl_of_own h.own (strs_one ss)⟩
theorem OwS.below (h : OwS e base w a n cap ss) (hb : Below w.heap.size w w') : OwS e base w' a n cap ss := ⟨h.len, own_below h.own hb⟩
theorem OwS.nil (e : TypeId) (base : Nat) (w : World) : OwS e base w none 0 0 [] := ⟨rfl, World.ownsRow_nil w base e 1⟩
theorem OwS.base_le (h : OwS e base w a n cap ss) {base' : Nat} (hb : base' ≤ base) : OwS e base' w a n cap ss := by
  refine ⟨h.len, ⟨h.own.1, ?_⟩⟩
  rcases h.own.2 with h2 | ⟨g, c, cur, hv, hg, r⟩
  · exact .inl h2
  · exact .inr ⟨g, c, cur, hv, by omega, r⟩

theorem RdS.part {b off : Nat} (h : RdS w (some ⟨b, off, none⟩) n cap ss) (i j c : Nat) (hij : i ≤ j) (hj : j ≤ n) (hjk : j ≤ c) (hk : c ≤ cap) (off' : Nat) (ho : i < j → off' = off + i) :
    RdS w (some ⟨b, off', none⟩) (j - i) (c - i) ((ss.take j).drop i) := by
  have hl := h.len
  refine ⟨by simp; omega, ?_⟩
  have := h.sl.part i j c hij (by simp; omega) hjk hk off' ho
  simpa [strs, List.map_take, List.map_drop] using this

theorem rdS_lit (w : World) (ss : List ByteArray) (t : TypeId) (hm : ss.length ≤ maxLen) : RdS (w.alloc (.cells (strs ss).toArray t)) (some ⟨w.heap.size, 0, none⟩) ss.length ss.length ss := by
  refine ⟨rfl, ?_⟩
  have := sl_lit w (strs ss) t (strs_one ss) (by simpa using hm)
  simpa using this
end

theorem sliced_rdS {w : World} {a : Option Addr} {n cap : Nat} {ss : List ByteArray} (h : RdS w a n cap ss) (l j m : Nat) (hlj : l ≤ j) (hj : j ≤ n) (hjm : j ≤ m) (hm : m ≤ cap) :
    ∃ a', sliced a l j m 1 = .slice a' (j - l) (m - l) ∧ RdS w a' (j - l) (m - l) ((ss.take j).drop l) := by
  have hl := h.len
  have hmax := h.sl.max
  refine ⟨_, rfl, ?_⟩
  by_cases he : l < j
  · obtain ⟨b, off, rfl, _⟩ := h.addr (by omega)
    rw [if_neg (by omega)]
    have : (⟨b, off, none⟩ : Addr).add (l * 1) = ⟨b, off + l, none⟩ := by unfold Addr.add; split <;> simp_all
    simp only [Option.map_some, this]
    exact h.part l j m hlj hj hjm hm _ (fun _ => rfl)
  · obtain rfl : l = j := by omega
    have e : (ss.take l).drop l = [] := List.drop_eq_nil_of_le (by simp; omega)
    rw [e]
    refine ⟨by simp, Sl.empty _ _ _ (by omega) (fun hn => ?_)⟩
    have : a = none := by
      split at hn
      · exact hn
      · simpa using hn
    have := h.sl.nil this
    omega

section
variable {P : Program} {ops : Array Oper} {rest : List Oper} {o : Oper} {a : Act} {w : World} {Q : Exit → Act → World → Prop} {a1 : Option Addr} {n cap : Nat} {ss : List ByteArray} {t e : TypeId} {z : Value} {bs : Nat}

/-- 'x[:j]', of strings. -/
theorem wpList_uptoS (hgd : o.guard = none) (x hi : Operand) (t : TypeId) (ho : o.op = .slice t x none (some hi) none) (T : ET P t e z bs) (h : RdS w a1 n cap ss) (hx : a.eval x = .slice a1 n cap)
    {kh : IntKind} {J : Int} (hhi : a.eval hi = .int kh J) (j : Nat) (hJ : J = (j : Int)) (hj : j ≤ n)
    (K : ∀ a', RdS w a' j cap (ss.take j) → wpList P ops Q rest (a.put o.dst (.slice a' j cap)) w) : wpList P ops Q (o :: rest) a w := by
  subst hJ
  have ht' : P.underlying t = some (.slice (P.elem t)) := by rw [elem_of T]; exact T.ht
  have hle := h.le
  obtain ⟨a', e1, hr⟩ := sliced_rdS h 0 j cap (Nat.zero_le _) hj (by omega) (Nat.le_refl _)
  simp only [Nat.sub_zero, List.drop_zero] at e1 hr
  have hrun : (Instr.sliceAt t (.slice a1 n cap) none (some (.int kh j)) none).run P w = .ok (.slice a' j cap) w := by
    rw [run_sliceAt_slice w t _ _ _ _ ht', run_slice_h w t a1 n cap ht' kh j (by omega) (by omega), elem_of T, run_sizeOf1 T]
    simp [e1]
  refine wpList_plain hgd fun K' hK => ?_
  unfold Oper.wp
  simp [execOp, ho, hx, hhi, hrun, Result.andThen]
  exact hK _ _ (K a' hr)
end

/-- The bytes of a string, as numbers. -/
def byts (s : ByteArray) : List Nat := s.data.toList.map UInt8.toNat
@[simp] theorem byts_length (s : ByteArray) : (byts s).length = s.size := by
  unfold byts
  rw [List.length_map, Array.length_toList]
  rfl

theorem byts_lt (s : ByteArray) : ∀ x ∈ byts s, x < 256 := by
  intro x hx
  simp only [byts, List.mem_map] at hx
  obtain ⟨b, _, rfl⟩ := hx
  exact b.toNat_lt

theorem strB_byts (s : ByteArray) : strB (byts s) = s := by
  cases s
  have e : (UInt8.ofNat ∘ UInt8.toNat) = id := funext fun x => by simp
  simp [strB, byts, e]

theorem bytesWorld_below (B : Nat) (w : World) (e : TypeId) (s : ByteArray) (hB : B ≤ w.heap.size) : Below B w (Lib.bytesWorld w e s) := by
  refine ⟨?_, ?_, ?_, by rw [Lib.bytesWorld_size]; omega, fun k hk => Lib.bytesWorld_at_old w e s k (by omega)⟩ <;>
  · unfold Lib.bytesWorld World.freeze
    split <;> rfl

theorem rd_bytes (w : World) (e : TypeId) (s : ByteArray) (hs : s.size ≤ maxLen) : Rd .u8 (Lib.bytesWorld w e s) (some ⟨w.heap.size, 0, none⟩) s.size (grownCap w s.size 0 e) (byts s) := by
  refine ⟨byts_length s, ⟨by simpa using grownCap_ge w s.size 0 e, grownCap_le_maxLen w _ 0 e hs, fun h => by simp at h, ?_, nums_one _ _⟩, byts_lt s⟩
  intro i c hc
  have hi : i < s.size := by
    have := (List.getElem?_eq_some_iff.1 hc).1
    simpa using this
  refine ⟨_, _, rfl, ?_⟩
  have := Lib.bytesWorld_cell w e s i hi
  rw [Nat.zero_add, this, ← hc, nums_at .u8 (byts s) i (by simpa using hi)]
  have hd : i < s.data.size := hi
  simp only [nth, byts, List.getD, List.getElem?_map, Array.getElem?_toList, getElem?_pos s.data i hd]
  rfl

section
variable {P : Program} {ops : Array Oper} {rest : List Oper} {o : Oper} {a : Act} {w : World} {Q : Exit → Act → World → Prop}
/-- '[]byte(s)'. -/
theorem wpList_bytes (hgd : o.guard = none) (src dst e : TypeId) (x : Operand) (ho : o.op = .convert src dst x) {u : TypeDesc} (hs : P.underlying src = some u) (hd : P.underlying dst = some (.slice e)) (he : P.underlying e = some (.int .u8))
    (s : ByteArray) (hx : a.eval x = .string s) (hl : s.size ≤ maxLen)
    (K : ∀ a' c' w', Rd .u8 w' a' s.size c' (byts s) → Below w.heap.size w w' → w'.heap.size = w.heap.size + 1 → wpList P ops Q rest (a.put o.dst (.slice a' s.size c')) w') : wpList P ops Q (o :: rest) a w := by
  refine wpList_plain hgd fun K' hK => ?_
  unfold Oper.wp execOp
  simp only [ho, hx, Sem.run_bind, Result.andThen_ok, Lib.run_convert_string_bytes w src dst e s hs hd he, Sem.run_pure]
  exact hK _ _ (K _ _ _ (rd_bytes w e s hl) (bytesWorld_below _ w e s (Nat.le_refl _)) (Lib.bytesWorld_size w e s))
end

/-- The same, as a fact ahead of a walk. -/
theorem conv_bytes (P : Program) (w : World) {src dst e : TypeId} {u : TypeDesc} (hs : P.underlying src = some u) (hd : P.underlying dst = some (.slice e)) (he : P.underlying e = some (.int .u8)) (s : ByteArray) (hl : s.size ≤ maxLen) :
    ∃ a' c' w', Sem.run P (convert src dst (.string s)) w = .ok (.slice a' s.size c') w' ∧ Rd .u8 w' a' s.size c' (byts s) ∧ Below w.heap.size w w' ∧ w'.heap.size = w.heap.size + 1 :=
  ⟨_, _, _, Lib.run_convert_string_bytes w src dst e s hs hd he, rd_bytes w e s hl, bytesWorld_below _ w e s (Nat.le_refl _), Lib.bytesWorld_size w e s⟩

/-! ### Names -/
def badC (c : Nat) : Bool := decide (c < 33) || decide (126 < c)
def oddS (s : ByteArray) : Bool := decide (s.size = 0) || decide (40 < s.size) || (byts s).any badC
def oddL (ss : List ByteArray) : Bool := ss.any oddS
/-- Equality of strings, as the model tests it. -/
def eqS (s t : ByteArray) : Bool := s.toList == t.toList
theorem eqS_iff {s t : ByteArray} : eqS s t = true ↔ s = t := by
  unfold eqS
  rw [ByteArray.toList_eq, ByteArray.toList_eq, beq_iff_eq]
  constructor
  · intro h
    cases s; cases t
    simp at h
    simp [h]
  · rintro rfl; rfl
def idxS (ss : List ByteArray) (s : ByteArray) : Option Nat := (List.range ss.length).find? fun i => eqS s (sth ss i)
def hasS (ss : List ByteArray) (s : ByteArray) : Bool := ss.any (eqS s)
def twiceL (ss : List ByteArray) : Bool := (List.range ss.length).any fun i => hasS (ss.take i) (sth ss i)

end Go.Suf
