/- Strings: Trim at the digits, CutPrefix at the minus, Cut at the slash; the forms of both. Condition: not too long. -/
import Derived.Test.YtdaajeklnhbhjaaDoorRatQ
import Derived.Ground.NamesProg
import Derived.Shelf.Strings.SlTrimAscii
import Derived.Shelf.Small.Wraps
import Derived.Shelf.Strings.Search2
namespace Go.Proofs
open Go.Shelf
def YtdaajeklnhbhjaaDoor.lays160_ren : Go.Shelf.Ren := ⟨fun | 160 => 56 | 232 => 70 | 231 => 69 | 227 => 71 | 234 => 73 | 233 => 72 | 236 => 75 | 235 => 74 | 228 => 86 | 271 => 89 | 151 => 88 | 197 => 87 | 120 => 95 | 152 => 94 | 260 => 93 | 137 => 96 | 119 => 97 | 224 => 84 | 225 => 83 | 217 => 82 | 266 => 91 | n => n, fun | 9 => 9 | 4 => 4 | 3 => 3 | 5 => 5 | 117 => 94 | 116 => 93 | 0 => 0 | 124 => 97 | 21 => 21 | 105 => 108 | 46 => 60 | 119 => 113 | 139 => 116 | 138 => 115 | n => n, fun | 3 => 2 | 4 => 3 | n => n⟩
theorem YtdaajeklnhbhjaaDoor.lays160 : Go.Proofs.Lays.n160 Tryd.prog YtdaajeklnhbhjaaDoor.lays160_ren := {
  mixed := by kernel_rfl
  f119 := Tryd.func97.trans (congrArg some (by kernel_rfl))
  f120 := Tryd.func95.trans (congrArg some (by kernel_rfl))
  f137 := Tryd.func96.trans (congrArg some (by kernel_rfl))
  f151 := Tryd.func88.trans (congrArg some (by kernel_rfl))
  f152 := Tryd.func94.trans (congrArg some (by kernel_rfl))
  f160 := Tryd.func56.trans (congrArg some (by kernel_rfl))
  f197 := Tryd.func87.trans (congrArg some (by kernel_rfl))
  f217 := Tryd.func82.trans (congrArg some (by kernel_rfl))
  f224 := Tryd.func84.trans (congrArg some (by kernel_rfl))
  f225 := Tryd.func83.trans (congrArg some (by kernel_rfl))
  f227 := Tryd.func71.trans (congrArg some (by kernel_rfl))
  f228 := Tryd.func86.trans (congrArg some (by kernel_rfl))
  f231 := Tryd.func69.trans (congrArg some (by kernel_rfl))
  f232 := Tryd.func70.trans (congrArg some (by kernel_rfl))
  f233 := Tryd.func72.trans (congrArg some (by kernel_rfl))
  f234 := Tryd.func73.trans (congrArg some (by kernel_rfl))
  f235 := Tryd.func74.trans (congrArg some (by kernel_rfl))
  f236 := Tryd.func75.trans (congrArg some (by kernel_rfl))
  f260 := Tryd.func93.trans (congrArg some (by kernel_rfl))
  f266 := Tryd.func91.trans (congrArg some (by kernel_rfl))
  f271 := Tryd.func89.trans (congrArg some (by kernel_rfl))
  t0 := Tryd.underlying0
  a0 := Tryd.isAgg0
  z0 := Tryd.sizeOf0
  v0 := Tryd.zeroValue0
  t3 := Tryd.underlying3
  a3 := Tryd.isAgg3
  z3 := Tryd.sizeOf3
  v3 := Tryd.zeroValue3
  t4 := Tryd.underlying4
  a4 := Tryd.isAgg4
  z4 := Tryd.sizeOf4
  v4 := Tryd.zeroValue4
  t5 := Tryd.underlying5
  a5 := Tryd.isAgg5
  z5 := Tryd.sizeOf5
  v5 := Tryd.zeroValue5
  t9 := Tryd.underlying9
  a9 := Tryd.isAgg9
  z9 := Tryd.sizeOf9
  v9 := Tryd.zeroValue9
  t21 := Tryd.underlying21
  a21 := Tryd.isAgg21
  z21 := Tryd.sizeOf21
  v21 := Tryd.zeroValue21
  t46 := Tryd.underlying60
  a46 := Tryd.isAgg60
  z46 := Tryd.sizeOf60
  v46 := Tryd.zeroValue60
  t105 := Tryd.underlying108
  a105 := Tryd.isAgg108
  z105 := Tryd.sizeOf108
  v105 := Tryd.zeroValue108
  t116 := Tryd.underlying93
  a116 := Tryd.isAgg93
  z116 := Tryd.sizeOf93
  t117 := Tryd.underlying94
  a117 := Tryd.isAgg94
  z117 := Tryd.sizeOf94
  v117 := Tryd.zeroValue94
  t119 := Tryd.underlying113
  a119 := Tryd.isAgg113
  z119 := Tryd.sizeOf113
  t124 := Tryd.underlying97
  a124 := Tryd.isAgg97
  z124 := Tryd.sizeOf97
  v124 := Tryd.zeroValue97
  t138 := Tryd.underlying115
  a138 := Tryd.isAgg115
  z138 := Tryd.sizeOf115
  v138 := Tryd.zeroValue115
  t139 := Tryd.underlying116
  a139 := Tryd.isAgg116
  z139 := Tryd.sizeOf116
  v139 := Tryd.zeroValue116
  g3 := by kernel_rfl
  g4 := by kernel_rfl }
def YtdaajeklnhbhjaaDoor.lays103_ren : Go.Shelf.Ren := ⟨fun | 103 => 37 | 210 => 54 | 206 => 67 | n => n, fun | 9 => 9 | 4 => 4 | 24 => 64 | 3 => 3 | n => n, fun | n => n⟩
theorem YtdaajeklnhbhjaaDoor.lays103 : Go.Proofs.Lays.n103 Tryd.prog YtdaajeklnhbhjaaDoor.lays103_ren := {
  mixed := by kernel_rfl
  f103 := Tryd.func37.trans (congrArg some (by kernel_rfl))
  f206 := Tryd.func67.trans (congrArg some (by kernel_rfl))
  f210 := Tryd.func54.trans (congrArg some (by kernel_rfl))
  t3 := Tryd.underlying3
  a3 := Tryd.isAgg3
  z3 := Tryd.sizeOf3
  v3 := Tryd.zeroValue3
  t4 := Tryd.underlying4
  a4 := Tryd.isAgg4
  z4 := Tryd.sizeOf4
  v4 := Tryd.zeroValue4
  t9 := Tryd.underlying9
  a9 := Tryd.isAgg9
  z9 := Tryd.sizeOf9
  v9 := Tryd.zeroValue9
  t24 := Tryd.underlying64
  a24 := Tryd.isAgg64
  z24 := Tryd.sizeOf64
  v24 := Tryd.zeroValue64 }
def YtdaajeklnhbhjaaDoor.lays219_ren : Go.Shelf.Ren := ⟨fun | 219 => 68 | 217 => 82 | 225 => 83 | 224 => 84 | 267 => 85 | 266 => 91 | 314 => 92 | n => n, fun | 9 => 9 | 3 => 3 | 4 => 4 | 5 => 5 | 46 => 60 | 146 => 85 | 51 => 47 | n => n, fun | 1 => 1 | n => n⟩
theorem YtdaajeklnhbhjaaDoor.lays219 : Go.Proofs.Lays.n219 Tryd.prog YtdaajeklnhbhjaaDoor.lays219_ren := {
  mixed := by kernel_rfl
  f217 := Tryd.func82.trans (congrArg some (by kernel_rfl))
  f219 := Tryd.func68.trans (congrArg some (by kernel_rfl))
  f224 := Tryd.func84.trans (congrArg some (by kernel_rfl))
  f225 := Tryd.func83.trans (congrArg some (by kernel_rfl))
  f266 := Tryd.func91.trans (congrArg some (by kernel_rfl))
  f267 := Tryd.func85.trans (congrArg some (by kernel_rfl))
  f314 := Tryd.func92.trans (congrArg some (by kernel_rfl))
  t3 := Tryd.underlying3
  a3 := Tryd.isAgg3
  z3 := Tryd.sizeOf3
  v3 := Tryd.zeroValue3
  t4 := Tryd.underlying4
  a4 := Tryd.isAgg4
  z4 := Tryd.sizeOf4
  v4 := Tryd.zeroValue4
  t5 := Tryd.underlying5
  a5 := Tryd.isAgg5
  z5 := Tryd.sizeOf5
  v5 := Tryd.zeroValue5
  t9 := Tryd.underlying9
  a9 := Tryd.isAgg9
  z9 := Tryd.sizeOf9
  v9 := Tryd.zeroValue9
  t46 := Tryd.underlying60
  a46 := Tryd.isAgg60
  z46 := Tryd.sizeOf60
  v46 := Tryd.zeroValue60
  t51 := Tryd.underlying47
  a51 := Tryd.isAgg47
  z51 := Tryd.sizeOf47
  v51 := Tryd.zeroValue47
  t146 := Tryd.underlying85
  a146 := Tryd.isAgg85
  z146 := Tryd.sizeOf85
  v146 := Tryd.zeroValue85
  g1 := by kernel_rfl }
end Go.Proofs

namespace Go.Proofs.YtdaajeklnhbhjaaDoor
open Go.RowKit Go.Suf Go.Shelf
set_option linter.unusedVariables false
set_option linter.unusedSimpArgs false

theorem strB_list (xs : List Nat) : (strB xs).data.toList = xs.map UInt8.ofNat := by simp [strB]

theorem strB_take (xs : List Nat) (i : Nat) : (strB xs).extract 0 i = strB (xs.take i) := by
  apply ByteArray.ext
  rw [ByteArray.data_extract]
  simp [strB, List.map_take]

theorem strB_drop (xs : List Nat) (i : Nat) : (strB xs).extract i xs.length = strB (xs.drop i) := by
  apply ByteArray.ext
  rw [ByteArray.data_extract]
  simp only [strB, List.extract_toArray, List.map_drop]
  rw [List.extract_eq_take_drop, List.take_of_length_le (by simp)]

theorem str_is {xs ys : List Nat} (h : ∀ x ∈ xs, x < 256) (h2 : ∀ y ∈ ys, y < 256) : ((strB xs).toList == ys.map UInt8.ofNat) = decide (xs = ys) := by
  rw [strB_toList]
  by_cases e : xs = ys
  · subst e; simp
  · rw [decide_eq_false e, beq_eq_false_iff_ne]
    intro h3
    exact e (strB_inj h h2 (by unfold strB; rw [h3]))

/-! ### Trim -/

theorem dropWhile_keep {α : Type} (p : α → Bool) (l : List α) {b : α} (hb : b ∈ l) (hp : p b = false) : b ∈ l.dropWhile p := by
  induction l with
  | nil => simp at hb
  | cons a l ih =>
    rw [List.dropWhile_cons]
    split
    · rcases List.mem_cons.1 hb with h | h
      · subst h; simp_all
      · exact ih h
    · exact hb

theorem dropWhile_none {α : Type} (p : α → Bool) (l : List α) (h : ∀ x ∈ l, p x = true) : l.dropWhile p = [] := by
  induction l with
  | nil => rfl
  | cons a l ih =>
    rw [List.dropWhile_cons, h a (by simp), if_pos rfl]
    exact ih fun x hx => h x (by simp [hx])

theorem trim_nil (l cs : List UInt8) : Lib.trimS l cs = [] ↔ ∀ b ∈ l, cs.contains b = true := by
  constructor
  · intro h b hb
    cases hc : cs.contains b with
    | true => rfl
    | false =>
      have h1 : b ∈ Lib.trimS l cs := by
        unfold Lib.trimS Lib.trimLeftS Lib.trimRightS
        exact dropWhile_keep _ _ (List.mem_reverse.2 (dropWhile_keep _ _ (List.mem_reverse.2 hb) hc)) hc
      rw [h] at h1
      simp at h1
  · intro h
    have e : Lib.trimRightS l cs = [] := by
      unfold Lib.trimRightS
      rw [List.reverse_eq_nil_iff]
      exact dropWhile_none _ _ fun x hx => h x (List.mem_reverse.1 hx)
    unfold Lib.trimS
    rw [e]
    rfl

set_option maxRecDepth 100000 in
theorem digit_in : ∀ x : Fin 256, ([48, 49, 50, 51, 52, 53, 54, 55, 56, 57] : List UInt8).contains (UInt8.ofNat x.val) = decide (48 ≤ x.val ∧ x.val ≤ 57) := by decide

theorem trim_digits {xs : List Nat} (hb : ∀ x ∈ xs, x < 256) : (Lib.trimS (strB xs).data.toList [48, 49, 50, 51, 52, 53, 54, 55, 56, 57] = []) ↔ ∀ x ∈ xs, 48 ≤ x ∧ x ≤ 57 := by
  rw [trim_nil, strB_list]
  constructor
  · intro h x hx
    have h1 := h (UInt8.ofNat x) (List.mem_map.2 ⟨x, hx, rfl⟩)
    rw [digit_in ⟨x, hb x hx⟩, decide_eq_true_eq] at h1
    exact h1
  · intro h b hb2
    obtain ⟨x, hx, rfl⟩ := List.mem_map.1 hb2
    rw [digit_in ⟨x, hb x hx⟩, decide_eq_true_eq]
    exact h x hx

theorem strTrim_any (w : World) (xs : List Nat) (hb : ∀ x ∈ xs, x < 256) (hn : xs.length ≤ 1099511627776) :
    Calls Tryd.prog 56 #[.string (strB xs), .string ⟨#[48, 49, 50, 51, 52, 53, 54, 55, 56, 57]⟩] w fun e w' => ∃ t : ByteArray, e = .returned (.string t) ∧ t.toList.isEmpty = decide (∀ x ∈ xs, 48 ≤ x ∧ x ≤ 57) ∧ Below w.heap.size w w' := by
  have hcon := Any.strings_Trim_laid YtdaajeklnhbhjaaDoor.lays160 (by kernel_rfl) (strB xs) ⟨#[48, 49, 50, 51, 52, 53, 54, 55, 56, 57]⟩ w (by rw [strB_size]; omega) (by decide) (ascii_of_all (by decide))
  refine Calls.mono (show Calls Tryd.prog 56 _ _ _ from hcon) ?_
  rintro e w' ⟨rfl, hB⟩
  refine ⟨_, rfl, ?_, hB⟩
  rw [ByteArray.toList_eq]
  show (Lib.trimS (strB xs).data.toList [48, 49, 50, 51, 52, 53, 54, 55, 56, 57]).toArray.toList.isEmpty = _
  rw [List.toList_toArray]
  have h := trim_digits hb
  by_cases e : Lib.trimS (strB xs).data.toList [48, 49, 50, 51, 52, 53, 54, 55, 56, 57] = []
  · rw [e, decide_eq_true (h.1 e)]; rfl
  · rw [decide_eq_false (fun h2 => e (h.2 h2))]
    cases hq : Lib.trimS (strB xs).data.toList [48, 49, 50, 51, 52, 53, 54, 55, 56, 57] with
    | nil => exact absurd hq e
    | cons a l => rfl

/-! ### CutPrefix -/

def minusB : List Nat → Bool
  | [] => false
  | x :: _ => decide (x = 45)
def afterB (xs : List Nat) : List Nat := if minusB xs = true then xs.drop 1 else xs

theorem minus_pre {xs : List Nat} (hb : ∀ x ∈ xs, x < 256) : Lib.hasPrefix (strB xs).data.toList [45] = minusB xs := by
  rw [strB_list]
  cases xs with
  | nil => rfl
  | cons x l =>
    have hx := hb x (by simp)
    show ((45 : UInt8) == UInt8.ofNat x && ([] : List UInt8).isPrefixOf _) = decide (x = 45)
    by_cases e : x = 45
    · subst e; rfl
    · have : ((45 : UInt8) == UInt8.ofNat x) = false := by
        rw [beq_eq_false_iff_ne]
        intro h
        exact e (UInt8.ofNat_inj' hx (by decide) h.symm)
      rw [this, decide_eq_false e]
      rfl

theorem cutp_any (w : World) (xs : List Nat) (hb : ∀ x ∈ xs, x < 256) :
    Calls Tryd.prog 37 #[.string (strB xs), .string ⟨#[45]⟩] w fun e w' => e = .returned (.tuple #[.string (strB (afterB xs)), .bool (minusB xs)]) ∧ w' = w := by
  have hcon := Any.strings_CutPrefix YtdaajeklnhbhjaaDoor.lays103 (strB xs) ⟨#[45]⟩ w
  refine Calls.mono (show Calls Tryd.prog 37 _ _ _ from hcon) ?_
  rintro e w' ⟨rfl, rfl⟩
  refine ⟨?_, rfl⟩
  have h := minus_pre hb
  have e2 : (⟨(Lib.trimPrefix (strB xs).data.toList [45]).toArray⟩ : ByteArray) = strB (afterB xs) := by
    unfold Lib.trimPrefix afterB
    rw [h]
    by_cases g : minusB xs = true
    · rw [if_pos g, if_pos g, strB_list]
      simp [strB]
    · rw [if_neg g, if_neg g]
  rw [e2, h]

/-! ### Cut -/

def slashB : List Nat → Nat
  | [] => 0
  | x :: l => if x = 47 then 0 else slashB l + 1
theorem slash_le (xs : List Nat) : slashB xs ≤ xs.length := by
  induction xs with
  | nil => exact Nat.le_refl _
  | cons x l ih => unfold slashB; split <;> simp <;> omega
theorem slash_idx {xs : List Nat} (hb : ∀ x ∈ xs, x < 256) : Lib.indexByte (strB xs).data.toList 47 = if slashB xs < xs.length then ((slashB xs : Nat) : Int) else -1 := by
  rw [strB_list]
  induction xs with
  | nil => rfl
  | cons x l ih =>
    have hx := hb x (by simp)
    have ih := ih (fun y hy => hb y (by simp [hy]))
    show (if UInt8.ofNat x == 47 then (0 : Int) else if Lib.indexByte (l.map UInt8.ofNat) 47 == -1 then -1 else Lib.indexByte (l.map UInt8.ofNat) 47 + 1) = _
    rw [ih, show slashB (x :: l) = if x = 47 then 0 else slashB l + 1 from rfl]
    by_cases e : x = 47
    · subst e; simp
    · have h1 : (UInt8.ofNat x == 47) = false := by
        rw [beq_eq_false_iff_ne]
        intro h
        exact e (UInt8.ofNat_inj' hx (by decide) h)
      rw [h1, if_neg e, if_neg Bool.false_ne_true]
      by_cases g : slashB l < l.length
      · rw [if_pos g, show (((slashB l : Nat) : Int) == -1) = false from beq_eq_false_iff_ne.2 (by omega), if_neg Bool.false_ne_true, if_pos (show slashB l + 1 < (x :: l).length by rw [List.length_cons]; omega)]
        rfl
      · rw [if_neg g, if_neg (show ¬ slashB l + 1 < (x :: l).length by rw [List.length_cons]; omega)]
        rfl

set_option maxRecDepth 100000 in
set_option maxHeartbeats 2000000 in
theorem slcut_any (w : World) (xs : List Nat) (hb : ∀ x ∈ xs, x < 256) (hn : xs.length ≤ 1099511627776) :
    Calls Tryd.prog 55 #[.string (strB xs), .string ⟨#[47]⟩] w fun e w' => e = .returned (.tuple #[.string (strB (xs.take (slashB xs))), .string (strB (xs.drop (slashB xs + 1))), .bool (decide (slashB xs < xs.length))]) ∧ Below w.heap.size w w' := by
  have hi := slash_idx hb
  have hle := slash_le xs
  obtain ⟨s, hs⟩ : ∃ s, s = slashB xs := ⟨_, rfl⟩
  rw [← hs] at hi hle ⊢
  have hsz := strB_size xs
  have hcon := Any.stringslite_Index_one YtdaajeklnhbhjaaDoor.lays219 (strB xs) 47 w
  have hcon : Calls Tryd.prog 68 #[.string (strB xs), .string ⟨#[47]⟩] w fun e w' => e = .returned (.int .i64 (Lib.indexByte (strB xs).data.toList 47)) ∧ w' = w := hcon
  rw [hi] at hcon
  by_cases g : s < xs.length
  · rw [if_pos g] at hcon
    have d0 : decide ((0 : Int) ≤ (s : Int)) = true := decide_eq_true (by omega)
    clear hs hi
    go_enter Tryd.func55, Tryd.ntmps55
    go_wp2_with fail
    refine hcon.mono ?_
    rintro e w1 ⟨rfl, rfl⟩
    go_wp2_with fail
    go_region
    go_wp2_with fail
    go_ret3
    rw [decide_eq_true g, ← strB_take, ← strB_drop]
    exact ⟨rfl, by first | exact Below.refl _ _ | exact (Below.refl _ _).drew⟩
  · rw [if_neg g] at hcon
    obtain rfl : s = xs.length := by omega
    clear hs hi
    go_enter Tryd.func55, Tryd.ntmps55
    go_wp2_with fail
    refine hcon.mono ?_
    rintro e w1 ⟨rfl, rfl⟩
    go_wp2_with fail
    go_ret3
    rw [decide_eq_false g, List.take_length, List.drop_eq_nil_of_le (by omega)]
    exact ⟨rfl, Below.refl _ _⟩

theorem cut_any (w : World) (xs : List Nat) (hb : ∀ x ∈ xs, x < 256) (hn : xs.length ≤ 1099511627776) :
    Calls Tryd.prog 38 #[.string (strB xs), .string ⟨#[47]⟩] w fun e w' => e = .returned (.tuple #[.string (strB (xs.take (slashB xs))), .string (strB (xs.drop (slashB xs + 1))), .bool (decide (slashB xs < xs.length))]) ∧ Below w.heap.size w w' := by
  go_enter Tryd.func38, Tryd.ntmps38
  go_wp2_with fail
  refine (slcut_any w xs hb hn).mono ?_
  rintro e w1 ⟨rfl, hb⟩
  go_wp2_with fail
  go_ret3
  exact ⟨rfl, hb⟩

/-! ### The forms -/

theorem is_nil (xs : List Nat) : (strB xs).toList.isEmpty = decide (xs = []) := by
  rw [strB_toList]
  cases xs with
  | nil => rfl
  | cons a l => rfl

theorem formB_digits {xs : List Nat} (h : nth xs 0 ≠ 48) (h1 : xs ≠ []) : formB xs = decide (∀ x ∈ xs, 48 ≤ x ∧ x ≤ 57) := by
  unfold formB
  refine decide_eq_decide.2 ⟨fun h => h.2.2, fun h2 => ⟨h1, fun h3 => absurd h3 h, h2⟩⟩

set_option maxRecDepth 100000 in
set_option maxHeartbeats 2000000 in
theorem ratForm_any (w : World) (xs : List Nat) (hb : ∀ x ∈ xs, x < 256) (hn : xs.length ≤ 1099511627776) :
    Calls Tryd.prog 39 #[.string (strB xs)] w fun e w' => e = .returned (.bool (formB xs)) ∧ Below w.heap.size w w' := by
  obtain ⟨r, hr⟩ : ∃ r, r = formB xs := ⟨_, rfl⟩
  rw [← hr]
  have hsz := strB_size xs
  have q1 : ((strB xs).toList == [48]) = decide (xs = [48]) := str_is hb (ys := [48]) (by simp)
  have q2 := is_nil xs
  have hat0 := strB_at hb 0
  by_cases h0 : xs = []
  · have e := Lib.hid (show r = false by rw [hr, h0]; rfl)
    rw [decide_eq_false (by rw [h0]; decide)] at q1
    rw [decide_eq_true h0] at q2
    clear hr h0 hat0
    go_enter Tryd.func39, Tryd.ntmps39
    go_wp2_with fail
    go_ret
    exact ⟨by rw [e.out]; rfl, Below.refl _ _⟩
  · rw [decide_eq_false h0] at q2
    have hl : 0 < xs.length := by cases xs with | nil => exact absurd rfl h0 | cons a l => simp
    by_cases h1 : xs = [48]
    · have e := Lib.hid (show r = true by rw [hr, h1]; rfl)
      rw [decide_eq_true h1] at q1
      clear hr h0 h1 hat0
      go_enter Tryd.func39, Tryd.ntmps39
      go_wp2_with fail
      go_ret
      exact ⟨by rw [e.out]; rfl, Below.refl _ _⟩
    · rw [decide_eq_false h1] at q1
      obtain ⟨b0, hb0⟩ : ∃ b, b = nth xs 0 := ⟨_, rfl⟩
      rw [← hb0] at hat0
      by_cases h2 : b0 = 48
      · have h3 : 1 < xs.length := by
          rcases Nat.lt_or_ge 1 xs.length with h | h
          · exact h
          · exfalso
            cases xs with
            | nil => exact h0 rfl
            | cons a l =>
              cases l with
              | nil => exact h1 (by rw [show a = 48 from by rw [← h2, hb0]; rfl])
              | cons c l => simp at h
        have e := Lib.hid (show r = false by rw [hr]; exact formB_zero (by rw [← hb0]; exact h2) h3)
        have d1 : ((b0 : Int) != 48) = false := by rw [bne_eq_false_iff_eq]; omega
        clear hr h0 h1 h2 h3 hb0
        go_enter Tryd.func39, Tryd.ntmps39
        go_wp2_with fail
        go_ret
        exact ⟨by rw [e.out]; rfl, Below.refl _ _⟩
      · have e := Lib.hid (show r = decide (∀ x ∈ xs, 48 ≤ x ∧ x ≤ 57) by rw [hr]; exact formB_digits (by rw [← hb0]; exact h2) h0)
        have d1 : ((b0 : Int) != 48) = true := by rw [bne_iff_ne]; omega
        clear hr h0 h1 h2 hb0
        go_enter Tryd.func39, Tryd.ntmps39
        go_wp2_with fail
        refine (strTrim_any w xs hb hn).mono ?_
        rintro e1 w1 ⟨t, rfl, ht, hb1⟩
        rw [← e.out] at ht
        go_wp2_with fail
        go_ret
        exact ⟨rfl, hb1⟩

end Go.Proofs.YtdaajeklnhbhjaaDoor
