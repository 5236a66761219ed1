/- The rules as plain data. No condition. -/
import Derived.Test.YtlfempfhohejiaaBase
set_option linter.unusedVariables false
set_option linter.unusedSimpArgs false
namespace Go.Suf
open Go.RowKit

/-- A rule: its word, its kind, how many seats it fills (0: it is none), whether a ballot has one mark. -/
def ruleOf : Nat → List UInt8 × Nat × Nat × Bool
  | 0 => ([], 0, 0, false)
  | 1 => ([112, 108, 117, 114, 97, 108, 105, 116, 121], 2, 2, true)
  | 2 => ([97, 112, 112, 114, 111, 118, 97, 108], 2, 2, false)
  | 3 => ([115, 99, 111, 114, 101], 3, 2, false)
  | 4 => ([98, 111, 114, 100, 97], 1, 2, false)
  | 5 => ([99, 111, 112, 101, 108, 97, 110, 100], 1, 1, false)
  | 6 => ([109, 105, 110, 105, 109, 97, 120], 1, 1, false)
  | 7 => ([115, 99, 104, 117, 108, 122, 101], 1, 1, false)
  | 8 => ([112, 97, 105, 114, 115], 1, 1, false)
  | 9 => ([114, 117, 110, 111, 102, 102], 1, 1, false)
  | 10 => ([99, 111, 111, 109, 98, 115], 1, 1, false)
  | 11 => ([103, 114, 101, 103, 111, 114, 121], 1, 2, false)
  | 12 => ([109, 101, 101, 107], 1, 2, false)
  | 13 => ([112, 104, 114, 97, 103, 109, 101, 110], 2, 2, false)
  | 14 => ([100, 104, 111, 110, 100, 116], 2, 3, true)
  | 15 => ([115, 97, 105, 110, 116, 101], 2, 3, true)
  | 16 => ([104, 97, 114, 101], 2, 3, true)
  | _ => ([], 0, 0, false)

def ruleRow (n : Nat) : List Value := [.string ⟨(ruleOf n).1.toArray⟩, .int .u8 ((ruleOf n).2.1 : Nat), .int .i64 ((ruleOf n).2.2.1 : Nat), .bool (ruleOf n).2.2.2]

def ruleTab : List Value := (List.range 17).flatMap ruleRow

theorem ruleTab_length : ruleTab.length = 68 := rfl

theorem ruleTab_one : ∀ u ∈ ruleTab, u.oneCell' = true := fun u hu => List.all_eq_true.1 (show ruleTab.all (fun u => u.oneCell') = true from rfl) u hu

theorem ruleRow_one (n : Nat) : ∀ u ∈ (ruleRow n).toArray.toList, u.oneCell' = true := fun u hu => List.all_eq_true.1 (show (ruleRow n).all (fun u => u.oneCell') = true from rfl) u (by simpa using hu)

theorem ruleTab_at (n : Nat) (h : n < 17) : (ruleTab.drop (4 * n)).take 4 = ruleRow n := by
  match n, h with
  | 0, _ => rfl
  | 1, _ => rfl
  | 2, _ => rfl
  | 3, _ => rfl
  | 4, _ => rfl
  | 5, _ => rfl
  | 6, _ => rfl
  | 7, _ => rfl
  | 8, _ => rfl
  | 9, _ => rfl
  | 10, _ => rfl
  | 11, _ => rfl
  | 12, _ => rfl
  | 13, _ => rfl
  | 14, _ => rfl
  | 15, _ => rfl
  | 16, _ => rfl
  | n + 17, h => omega

theorem ruleTab_cell (n j : Nat) (h : n < 17) (u : Value) (hu : (ruleRow n)[j]? = some u) : ruleTab[4 * n + j]? = some u := by
  rw [← ruleTab_at n h, List.getElem?_take, List.getElem?_drop] at hu
  split at hu
  · exact hu
  · simp at hu

/-! ### The parts of a rule -/
def wordN (n : Nat) : ByteArray := ⟨(ruleOf n).1.toArray⟩
def kindN (n : Nat) : Nat := (ruleOf n).2.1
def seatsN (n : Nat) : Nat := (ruleOf n).2.2.1
def aloneN (n : Nat) : Bool := (ruleOf n).2.2.2

theorem ruleRow_eq (n : Nat) : (ruleRow n).toArray = #[.string (wordN n), .int .u8 (kindN n : Nat), .int .i64 (seatsN n : Nat), .bool (aloneN n)] := rfl

def isR (n : Nat) : Bool := decide (1 ≤ n) && decide (n ≤ 16)

theorem upto17 {p : Nat → Prop} (h : ∀ n, n < 17 → p n) (g : ∀ n, p (n + 17)) (n : Nat) : p n := by
  by_cases hn : n < 17
  · exact h n hn
  · obtain ⟨k, rfl⟩ : ∃ k, n = k + 17 := ⟨n - 17, by omega⟩
    exact g k

theorem seats_zero : ∀ n, (seatsN n = 0 ↔ isR n = false) :=
  upto17 (by decide) (fun n => by simp [seatsN, ruleOf, isR])

theorem seats_le : ∀ n, seatsN n ≤ 3 := upto17 (by decide) (fun n => by simp [seatsN, ruleOf])
theorem kind_le : ∀ n, kindN n ≤ 3 := upto17 (by decide) (fun n => by simp [kindN, ruleOf])

theorem isR_iff (n : Nat) : isR n = true ↔ 1 ≤ n ∧ n ≤ 16 := by simp [isR]
theorem isR_not (n : Nat) : isR n = false ↔ ¬(1 ≤ n ∧ n ≤ 16) := by rw [← isR_iff]; simp

def kindC (n : Nat) : Nat × Int := if isR n = true then (kindN n, 0) else (0, 2)
def listsN (n : Nat) : Bool := decide (14 ≤ n) && decide (n ≤ 16)
def oneN (n : Nat) : Bool := decide (5 ≤ n) && decide (n ≤ 10)
def marksN (n : Nat) (c : Int) : Int := if n = 1 ∨ listsN n = true then 1 else c
def mostC (n : Nat) (c : Int) : Int × Int := if isR n = true ∧ 1 ≤ c ∧ c ≤ 10 then (marksN n c, 0) else (0, 2)
def wordC (n : Nat) : ByteArray × Int := if isR n = true then (wordN n, 0) else (⟨#[]⟩, 2)

def isWord (s : ByteArray) (i : Nat) : Bool := decide (1 ≤ i) && ((wordN i).toList == s.toList)
def ruleC (s : ByteArray) : Nat × Int := match (List.range 17).find? (isWord s) with
  | some i => (i, 0)
  | none => (0, 6)

theorem alone_marks : ∀ n, isR n = true → (aloneN n = true ↔ n = 1 ∨ listsN n = true) :=
  upto17 (by decide) (fun n h => absurd ((isR_iff _).1 h).2 (by omega))

def kindOf (n : Nat) : Nat := if n = 1 ∨ n = 2 ∨ n = 13 ∨ n = 14 ∨ n = 15 ∨ n = 16 then 2 else if n = 3 then 3 else 1
theorem kindOf_eq : ∀ n, isR n = true → kindOf n = kindN n := upto17 (by decide) (fun n h => absurd ((isR_iff _).1 h).2 (by omega))

theorem find_range {p : Nat → Bool} {m i : Nat} (hi : i < m) (hp : p i = true) (hn : ∀ j, j < i → p j = false) : (List.range m).find? p = some i := by
  rw [List.find?_eq_some_iff_getElem]
  exact ⟨hp, i, by simpa using hi, by simp, fun j hj => by simp [hn j hj]⟩

theorem ruleC_at {s : ByteArray} {i : Nat} (hi : i < 17) (hp : isWord s i = true) (hn : ∀ j, j < i → isWord s j = false) : ruleC s = (i, 0) := by
  unfold ruleC
  rw [find_range hi hp hn]

theorem ruleC_none {s : ByteArray} (hn : ∀ j, j < 17 → isWord s j = false) : ruleC s = (0, 6) := by
  unfold ruleC
  rw [List.find?_eq_none.2 (fun x hx => by simp [hn x (List.mem_range.1 hx)])]

end Go.Suf
