/- Strings: Trim at the digits, CutPrefix at the minus, Cut at the slash; the forms of both. Condition: not too long. -/
import Derived.Test.YtdaajeklnhbhjaaGreatDoorRatR
import Derived.Ground.NamesProg
import Derived.Shelf.Strings.SlTrimAscii
import Derived.Shelf.Small.Wraps
import Derived.Shelf.Strings.Search2
namespace Go.Proofs
open Go.Shelf
def YtdaajeklnhbhjaaGreatDoor.lays160_ren : Go.Shelf.Ren := ⟨fun | 160 => 102 | 232 => 115 | 231 => 114 | 227 => 116 | 234 => 118 | 233 => 117 | 236 => 120 | 235 => 119 | 228 => 131 | 271 => 134 | 151 => 133 | 197 => 132 | 120 => 140 | 152 => 139 | 260 => 138 | 137 => 141 | 119 => 142 | 224 => 129 | 225 => 128 | 217 => 127 | 266 => 136 | n => n, fun | 9 => 9 | 4 => 4 | 3 => 3 | 5 => 5 | 117 => 102 | 116 => 101 | 0 => 0 | 124 => 105 | 21 => 21 | 105 => 116 | 46 => 81 | 119 => 121 | 139 => 124 | 138 => 123 | n => n, fun | 3 => 2 | 4 => 3 | n => n⟩
theorem YtdaajeklnhbhjaaGreatDoor.lays160 : Go.Proofs.Lays.n160 Tryz.prog YtdaajeklnhbhjaaGreatDoor.lays160_ren := {
  mixed := by kernel_rfl
  f119 := Tryz.func142.trans (congrArg some (by kernel_rfl))
  f120 := Tryz.func140.trans (congrArg some (by kernel_rfl))
  f137 := Tryz.func141.trans (congrArg some (by kernel_rfl))
  f151 := Tryz.func133.trans (congrArg some (by kernel_rfl))
  f152 := Tryz.func139.trans (congrArg some (by kernel_rfl))
  f160 := Tryz.func102.trans (congrArg some (by kernel_rfl))
  f197 := Tryz.func132.trans (congrArg some (by kernel_rfl))
  f217 := Tryz.func127.trans (congrArg some (by kernel_rfl))
  f224 := Tryz.func129.trans (congrArg some (by kernel_rfl))
  f225 := Tryz.func128.trans (congrArg some (by kernel_rfl))
  f227 := Tryz.func116.trans (congrArg some (by kernel_rfl))
  f228 := Tryz.func131.trans (congrArg some (by kernel_rfl))
  f231 := Tryz.func114.trans (congrArg some (by kernel_rfl))
  f232 := Tryz.func115.trans (congrArg some (by kernel_rfl))
  f233 := Tryz.func117.trans (congrArg some (by kernel_rfl))
  f234 := Tryz.func118.trans (congrArg some (by kernel_rfl))
  f235 := Tryz.func119.trans (congrArg some (by kernel_rfl))
  f236 := Tryz.func120.trans (congrArg some (by kernel_rfl))
  f260 := Tryz.func138.trans (congrArg some (by kernel_rfl))
  f266 := Tryz.func136.trans (congrArg some (by kernel_rfl))
  f271 := Tryz.func134.trans (congrArg some (by kernel_rfl))
  t0 := Tryz.underlying0
  a0 := Tryz.isAgg0
  z0 := Tryz.sizeOf0
  v0 := Tryz.zeroValue0
  t3 := Tryz.underlying3
  a3 := Tryz.isAgg3
  z3 := Tryz.sizeOf3
  v3 := Tryz.zeroValue3
  t4 := Tryz.underlying4
  a4 := Tryz.isAgg4
  z4 := Tryz.sizeOf4
  v4 := Tryz.zeroValue4
  t5 := Tryz.underlying5
  a5 := Tryz.isAgg5
  z5 := Tryz.sizeOf5
  v5 := Tryz.zeroValue5
  t9 := Tryz.underlying9
  a9 := Tryz.isAgg9
  z9 := Tryz.sizeOf9
  v9 := Tryz.zeroValue9
  t21 := Tryz.underlying21
  a21 := Tryz.isAgg21
  z21 := Tryz.sizeOf21
  v21 := Tryz.zeroValue21
  t46 := Tryz.underlying81
  a46 := Tryz.isAgg81
  z46 := Tryz.sizeOf81
  v46 := Tryz.zeroValue81
  t105 := Tryz.underlying116
  a105 := Tryz.isAgg116
  z105 := Tryz.sizeOf116
  v105 := Tryz.zeroValue116
  t116 := Tryz.underlying101
  a116 := Tryz.isAgg101
  z116 := Tryz.sizeOf101
  t117 := Tryz.underlying102
  a117 := Tryz.isAgg102
  z117 := Tryz.sizeOf102
  v117 := Tryz.zeroValue102
  t119 := Tryz.underlying121
  a119 := Tryz.isAgg121
  z119 := Tryz.sizeOf121
  t124 := Tryz.underlying105
  a124 := Tryz.isAgg105
  z124 := Tryz.sizeOf105
  v124 := Tryz.zeroValue105
  t138 := Tryz.underlying123
  a138 := Tryz.isAgg123
  z138 := Tryz.sizeOf123
  v138 := Tryz.zeroValue123
  t139 := Tryz.underlying124
  a139 := Tryz.isAgg124
  z139 := Tryz.sizeOf124
  v139 := Tryz.zeroValue124
  g3 := by kernel_rfl
  g4 := by kernel_rfl }
def YtdaajeklnhbhjaaGreatDoor.lays103_ren : Go.Shelf.Ren := ⟨fun | 103 => 78 | 210 => 100 | 206 => 112 | n => n, fun | 9 => 9 | 4 => 4 | 24 => 73 | 3 => 3 | n => n, fun | n => n⟩
theorem YtdaajeklnhbhjaaGreatDoor.lays103 : Go.Proofs.Lays.n103 Tryz.prog YtdaajeklnhbhjaaGreatDoor.lays103_ren := {
  mixed := by kernel_rfl
  f103 := Tryz.func78.trans (congrArg some (by kernel_rfl))
  f206 := Tryz.func112.trans (congrArg some (by kernel_rfl))
  f210 := Tryz.func100.trans (congrArg some (by kernel_rfl))
  t3 := Tryz.underlying3
  a3 := Tryz.isAgg3
  z3 := Tryz.sizeOf3
  v3 := Tryz.zeroValue3
  t4 := Tryz.underlying4
  a4 := Tryz.isAgg4
  z4 := Tryz.sizeOf4
  v4 := Tryz.zeroValue4
  t9 := Tryz.underlying9
  a9 := Tryz.isAgg9
  z9 := Tryz.sizeOf9
  v9 := Tryz.zeroValue9
  t24 := Tryz.underlying73
  a24 := Tryz.isAgg73
  z24 := Tryz.sizeOf73
  v24 := Tryz.zeroValue73 }
def YtdaajeklnhbhjaaGreatDoor.lays219_ren : Go.Shelf.Ren := ⟨fun | 219 => 113 | 217 => 127 | 225 => 128 | 224 => 129 | 267 => 130 | 266 => 136 | 314 => 137 | n => n, fun | 9 => 9 | 3 => 3 | 4 => 4 | 5 => 5 | 46 => 81 | 146 => 94 | 51 => 49 | n => n, fun | 1 => 1 | n => n⟩
theorem YtdaajeklnhbhjaaGreatDoor.lays219 : Go.Proofs.Lays.n219 Tryz.prog YtdaajeklnhbhjaaGreatDoor.lays219_ren := {
  mixed := by kernel_rfl
  f217 := Tryz.func127.trans (congrArg some (by kernel_rfl))
  f219 := Tryz.func113.trans (congrArg some (by kernel_rfl))
  f224 := Tryz.func129.trans (congrArg some (by kernel_rfl))
  f225 := Tryz.func128.trans (congrArg some (by kernel_rfl))
  f266 := Tryz.func136.trans (congrArg some (by kernel_rfl))
  f267 := Tryz.func130.trans (congrArg some (by kernel_rfl))
  f314 := Tryz.func137.trans (congrArg some (by kernel_rfl))
  t3 := Tryz.underlying3
  a3 := Tryz.isAgg3
  z3 := Tryz.sizeOf3
  v3 := Tryz.zeroValue3
  t4 := Tryz.underlying4
  a4 := Tryz.isAgg4
  z4 := Tryz.sizeOf4
  v4 := Tryz.zeroValue4
  t5 := Tryz.underlying5
  a5 := Tryz.isAgg5
  z5 := Tryz.sizeOf5
  v5 := Tryz.zeroValue5
  t9 := Tryz.underlying9
  a9 := Tryz.isAgg9
  z9 := Tryz.sizeOf9
  v9 := Tryz.zeroValue9
  t46 := Tryz.underlying81
  a46 := Tryz.isAgg81
  z46 := Tryz.sizeOf81
  v46 := Tryz.zeroValue81
  t51 := Tryz.underlying49
  a51 := Tryz.isAgg49
  z51 := Tryz.sizeOf49
  v51 := Tryz.zeroValue49
  t146 := Tryz.underlying94
  a146 := Tryz.isAgg94
  z146 := Tryz.sizeOf94
  v146 := Tryz.zeroValue94
  g1 := by kernel_rfl }
end Go.Proofs

namespace Go.Proofs.YtdaajeklnhbhjaaGreatDoor
open Go.RowKit Go.Suf Go.Shelf
set_option linter.unusedVariables false
set_option linter.unusedSimpArgs false

theorem strB_list (xs : List Nat) : (strB xs).data.toList = xs.map UInt8.ofNat := by simp [strB]

theorem strB_take (xs : List Nat) (i : Nat) : (strB xs).extract 0 i = strB (xs.take i) := by
  apply ByteArray.ext
  rw [ByteArray.data_extract]
  simp [strB, List.map_take]

theorem strB_drop (xs : List Nat) (i : Nat) : (strB xs).extract i xs.length = strB (xs.drop i) := by
  apply ByteArray.ext
  rw [ByteArray.data_extract]
  simp only [strB, List.extract_toArray, List.map_drop]
  rw [List.extract_eq_take_drop, List.take_of_length_le (by simp)]

theorem str_is {xs ys : List Nat} (h : ∀ x ∈ xs, x < 256) (h2 : ∀ y ∈ ys, y < 256) : ((strB xs).toList == ys.map UInt8.ofNat) = decide (xs = ys) := by
  rw [strB_toList]
  by_cases e : xs = ys
  · subst e; simp
  · rw [decide_eq_false e, beq_eq_false_iff_ne]
    intro h3
    exact e (strB_inj h h2 (by unfold strB; rw [h3]))

/-! ### Trim -/

theorem dropWhile_keep {α : Type} (p : α → Bool) (l : List α) {b : α} (hb : b ∈ l) (hp : p b = false) : b ∈ l.dropWhile p := by
  induction l with
  | nil => simp at hb
  | cons a l ih =>
    rw [List.dropWhile_cons]
    split
    · rcases List.mem_cons.1 hb with h | h
      · subst h; simp_all
      · exact ih h
    · exact hb

theorem dropWhile_none {α : Type} (p : α → Bool) (l : List α) (h : ∀ x ∈ l, p x = true) : l.dropWhile p = [] := by
  induction l with
  | nil => rfl
  | cons a l ih =>
    rw [List.dropWhile_cons, h a (by simp), if_pos rfl]
    exact ih fun x hx => h x (by simp [hx])

theorem trim_nil (l cs : List UInt8) : Lib.trimS l cs = [] ↔ ∀ b ∈ l, cs.contains b = true := by
  constructor
  · intro h b hb
    cases hc : cs.contains b with
    | true => rfl
    | false =>
      have h1 : b ∈ Lib.trimS l cs := by
        unfold Lib.trimS Lib.trimLeftS Lib.trimRightS
        exact dropWhile_keep _ _ (List.mem_reverse.2 (dropWhile_keep _ _ (List.mem_reverse.2 hb) hc)) hc
      rw [h] at h1
      simp at h1
  · intro h
    have e : Lib.trimRightS l cs = [] := by
      unfold Lib.trimRightS
      rw [List.reverse_eq_nil_iff]
      exact dropWhile_none _ _ fun x hx => h x (List.mem_reverse.1 hx)
    unfold Lib.trimS
    rw [e]
    rfl

set_option maxRecDepth 100000 in
theorem digit_in : ∀ x : Fin 256, ([48, 49, 50, 51, 52, 53, 54, 55, 56, 57] : List UInt8).contains (UInt8.ofNat x.val) = decide (48 ≤ x.val ∧ x.val ≤ 57) := by decide

theorem trim_digits {xs : List Nat} (hb : ∀ x ∈ xs, x < 256) : (Lib.trimS (strB xs).data.toList [48, 49, 50, 51, 52, 53, 54, 55, 56, 57] = []) ↔ ∀ x ∈ xs, 48 ≤ x ∧ x ≤ 57 := by
  rw [trim_nil, strB_list]
  constructor
  · intro h x hx
    have h1 := h (UInt8.ofNat x) (List.mem_map.2 ⟨x, hx, rfl⟩)
    rw [digit_in ⟨x, hb x hx⟩, decide_eq_true_eq] at h1
    exact h1
  · intro h b hb2
    obtain ⟨x, hx, rfl⟩ := List.mem_map.1 hb2
    rw [digit_in ⟨x, hb x hx⟩, decide_eq_true_eq]
    exact h x hx

theorem strTrim_any (w : World) (xs : List Nat) (hb : ∀ x ∈ xs, x < 256) (hn : xs.length ≤ 1099511627776) :
    Calls Tryz.prog 102 #[.string (strB xs), .string ⟨#[48, 49, 50, 51, 52, 53, 54, 55, 56, 57]⟩] w fun e w' => ∃ t : ByteArray, e = .returned (.string t) ∧ t.toList.isEmpty = decide (∀ x ∈ xs, 48 ≤ x ∧ x ≤ 57) ∧ Below w.heap.size w w' := by
  have hcon := Any.strings_Trim_laid YtdaajeklnhbhjaaGreatDoor.lays160 (by kernel_rfl) (strB xs) ⟨#[48, 49, 50, 51, 52, 53, 54, 55, 56, 57]⟩ w (by rw [strB_size]; omega) (by decide) (ascii_of_all (by decide))
  refine Calls.mono (show Calls Tryz.prog 102 _ _ _ from hcon) ?_
  rintro e w' ⟨rfl, hB⟩
  refine ⟨_, rfl, ?_, hB⟩
  rw [ByteArray.toList_eq]
  show (Lib.trimS (strB xs).data.toList [48, 49, 50, 51, 52, 53, 54, 55, 56, 57]).toArray.toList.isEmpty = _
  rw [List.toList_toArray]
  have h := trim_digits hb
  by_cases e : Lib.trimS (strB xs).data.toList [48, 49, 50, 51, 52, 53, 54, 55, 56, 57] = []
  · rw [e, decide_eq_true (h.1 e)]; rfl
  · rw [decide_eq_false (fun h2 => e (h.2 h2))]
    cases hq : Lib.trimS (strB xs).data.toList [48, 49, 50, 51, 52, 53, 54, 55, 56, 57] with
    | nil => exact absurd hq e
    | cons a l => rfl

/-! ### CutPrefix -/

def minusB : List Nat → Bool
  | [] => false
  | x :: _ => decide (x = 45)
def afterB (xs : List Nat) : List Nat := if minusB xs = true then xs.drop 1 else xs

theorem minus_pre {xs : List Nat} (hb : ∀ x ∈ xs, x < 256) : Lib.hasPrefix (strB xs).data.toList [45] = minusB xs := by
  rw [strB_list]
  cases xs with
  | nil => rfl
  | cons x l =>
    have hx := hb x (by simp)
    show ((45 : UInt8) == UInt8.ofNat x && ([] : List UInt8).isPrefixOf _) = decide (x = 45)
    by_cases e : x = 45
    · subst e; rfl
    · have : ((45 : UInt8) == UInt8.ofNat x) = false := by
        rw [beq_eq_false_iff_ne]
        intro h
        exact e (UInt8.ofNat_inj' hx (by decide) h.symm)
      rw [this, decide_eq_false e]
      rfl

theorem cutp_any (w : World) (xs : List Nat) (hb : ∀ x ∈ xs, x < 256) :
    Calls Tryz.prog 78 #[.string (strB xs), .string ⟨#[45]⟩] w fun e w' => e = .returned (.tuple #[.string (strB (afterB xs)), .bool (minusB xs)]) ∧ w' = w := by
  have hcon := Any.strings_CutPrefix YtdaajeklnhbhjaaGreatDoor.lays103 (strB xs) ⟨#[45]⟩ w
  refine Calls.mono (show Calls Tryz.prog 78 _ _ _ from hcon) ?_
  rintro e w' ⟨rfl, rfl⟩
  refine ⟨?_, rfl⟩
  have h := minus_pre hb
  have e2 : (⟨(Lib.trimPrefix (strB xs).data.toList [45]).toArray⟩ : ByteArray) = strB (afterB xs) := by
    unfold Lib.trimPrefix afterB
    rw [h]
    by_cases g : minusB xs = true
    · rw [if_pos g, if_pos g, strB_list]
      simp [strB]
    · rw [if_neg g, if_neg g]
  rw [e2, h]

/-! ### Cut -/

def slashB : List Nat → Nat
  | [] => 0
  | x :: l => if x = 47 then 0 else slashB l + 1
theorem slash_le (xs : List Nat) : slashB xs ≤ xs.length := by
  induction xs with
  | nil => exact Nat.le_refl _
  | cons x l ih => unfold slashB; split <;> simp <;> omega
theorem slash_idx {xs : List Nat} (hb : ∀ x ∈ xs, x < 256) : Lib.indexByte (strB xs).data.toList 47 = if slashB xs < xs.length then ((slashB xs : Nat) : Int) else -1 := by
  rw [strB_list]
  induction xs with
  | nil => rfl
  | cons x l ih =>
    have hx := hb x (by simp)
    have ih := ih (fun y hy => hb y (by simp [hy]))
    show (if UInt8.ofNat x == 47 then (0 : Int) else if Lib.indexByte (l.map UInt8.ofNat) 47 == -1 then -1 else Lib.indexByte (l.map UInt8.ofNat) 47 + 1) = _
    rw [ih, show slashB (x :: l) = if x = 47 then 0 else slashB l + 1 from rfl]
    by_cases e : x = 47
    · subst e; simp
    · have h1 : (UInt8.ofNat x == 47) = false := by
        rw [beq_eq_false_iff_ne]
        intro h
        exact e (UInt8.ofNat_inj' hx (by decide) h)
      rw [h1, if_neg e, if_neg Bool.false_ne_true]
      by_cases g : slashB l < l.length
      · rw [if_pos g, show (((slashB l : Nat) : Int) == -1) = false from beq_eq_false_iff_ne.2 (by omega), if_neg Bool.false_ne_true, if_pos (show slashB l + 1 < (x :: l).length by rw [List.length_cons]; omega)]
        rfl
      · rw [if_neg g, if_neg (show ¬ slashB l + 1 < (x :: l).length by rw [List.length_cons]; omega)]
        rfl

set_option maxRecDepth 100000 in
set_option maxHeartbeats 2000000 in
theorem slcut_any (w : World) (xs : List Nat) (hb : ∀ x ∈ xs, x < 256) (hn : xs.length ≤ 1099511627776) :
    Calls Tryz.prog 101 #[.string (strB xs), .string ⟨#[47]⟩] w fun e w' => e = .returned (.tuple #[.string (strB (xs.take (slashB xs))), .string (strB (xs.drop (slashB xs + 1))), .bool (decide (slashB xs < xs.length))]) ∧ Below w.heap.size w w' := by
  have hi := slash_idx hb
  have hle := slash_le xs
  obtain ⟨s, hs⟩ : ∃ s, s = slashB xs := ⟨_, rfl⟩
  rw [← hs] at hi hle ⊢
  have hsz := strB_size xs
  have hcon := Any.stringslite_Index_one YtdaajeklnhbhjaaGreatDoor.lays219 (strB xs) 47 w
  have hcon : Calls Tryz.prog 113 #[.string (strB xs), .string ⟨#[47]⟩] w fun e w' => e = .returned (.int .i64 (Lib.indexByte (strB xs).data.toList 47)) ∧ w' = w := hcon
  rw [hi] at hcon
  by_cases g : s < xs.length
  · rw [if_pos g] at hcon
    have d0 : decide ((0 : Int) ≤ (s : Int)) = true := decide_eq_true (by omega)
    clear hs hi
    go_enter Tryz.func101, Tryz.ntmps101
    go_wp2_with fail
    refine hcon.mono ?_
    rintro e w1 ⟨rfl, rfl⟩
    go_wp2_with fail
    go_region
    go_wp2_with fail
    go_ret3
    rw [decide_eq_true g, ← strB_take, ← strB_drop]
    exact ⟨rfl, by first | exact Below.refl _ _ | exact (Below.refl _ _).drew⟩
  · rw [if_neg g] at hcon
    obtain rfl : s = xs.length := by omega
    clear hs hi
    go_enter Tryz.func101, Tryz.ntmps101
    go_wp2_with fail
    refine hcon.mono ?_
    rintro e w1 ⟨rfl, rfl⟩
    go_wp2_with fail
    go_ret3
    rw [decide_eq_false g, List.take_length, List.drop_eq_nil_of_le (by omega)]
    exact ⟨rfl, Below.refl _ _⟩

theorem cut_any (w : World) (xs : List Nat) (hb : ∀ x ∈ xs, x < 256) (hn : xs.length ≤ 1099511627776) :
    Calls Tryz.prog 79 #[.string (strB xs), .string ⟨#[47]⟩] w fun e w' => e = .returned (.tuple #[.string (strB (xs.take (slashB xs))), .string (strB (xs.drop (slashB xs + 1))), .bool (decide (slashB xs < xs.length))]) ∧ Below w.heap.size w w' := by
  go_enter Tryz.func79, Tryz.ntmps79
  go_wp2_with fail
  refine (slcut_any w xs hb hn).mono ?_
  rintro e w1 ⟨rfl, hb⟩
  go_wp2_with fail
  go_ret3
  exact ⟨rfl, hb⟩

/-! ### The forms -/

theorem is_nil (xs : List Nat) : (strB xs).toList.isEmpty = decide (xs = []) := by
  rw [strB_toList]
  cases xs with
  | nil => rfl
  | cons a l => rfl

theorem formB_digits {xs : List Nat} (h : nth xs 0 ≠ 48) (h1 : xs ≠ []) : formB xs = decide (∀ x ∈ xs, 48 ≤ x ∧ x ≤ 57) := by
  unfold formB
  refine decide_eq_decide.2 ⟨fun h => h.2.2, fun h2 => ⟨h1, fun h3 => absurd h3 h, h2⟩⟩

set_option maxRecDepth 100000 in
set_option maxHeartbeats 2000000 in
theorem ratForm_any (w : World) (xs : List Nat) (hb : ∀ x ∈ xs, x < 256) (hn : xs.length ≤ 1099511627776) :
    Calls Tryz.prog 80 #[.string (strB xs)] w fun e w' => e = .returned (.bool (formB xs)) ∧ Below w.heap.size w w' := by
  obtain ⟨r, hr⟩ : ∃ r, r = formB xs := ⟨_, rfl⟩
  rw [← hr]
  have hsz := strB_size xs
  have q1 : ((strB xs).toList == [48]) = decide (xs = [48]) := str_is hb (ys := [48]) (by simp)
  have q2 := is_nil xs
  have hat0 := strB_at hb 0
  by_cases h0 : xs = []
  · have e := Lib.hid (show r = false by rw [hr, h0]; rfl)
    rw [decide_eq_false (by rw [h0]; decide)] at q1
    rw [decide_eq_true h0] at q2
    clear hr h0 hat0
    go_enter Tryz.func80, Tryz.ntmps80
    go_wp2_with fail
    go_ret
    exact ⟨by rw [e.out]; rfl, Below.refl _ _⟩
  · rw [decide_eq_false h0] at q2
    have hl : 0 < xs.length := by cases xs with | nil => exact absurd rfl h0 | cons a l => simp
    by_cases h1 : xs = [48]
    · have e := Lib.hid (show r = true by rw [hr, h1]; rfl)
      rw [decide_eq_true h1] at q1
      clear hr h0 h1 hat0
      go_enter Tryz.func80, Tryz.ntmps80
      go_wp2_with fail
      go_ret
      exact ⟨by rw [e.out]; rfl, Below.refl _ _⟩
    · rw [decide_eq_false h1] at q1
      obtain ⟨b0, hb0⟩ : ∃ b, b = nth xs 0 := ⟨_, rfl⟩
      rw [← hb0] at hat0
      by_cases h2 : b0 = 48
      · have h3 : 1 < xs.length := by
          rcases Nat.lt_or_ge 1 xs.length with h | h
          · exact h
          · exfalso
            cases xs with
            | nil => exact h0 rfl
            | cons a l =>
              cases l with
              | nil => exact h1 (by rw [show a = 48 from by rw [← h2, hb0]; rfl])
              | cons c l => simp at h
        have e := Lib.hid (show r = false by rw [hr]; exact formB_zero (by rw [← hb0]; exact h2) h3)
        have d1 : ((b0 : Int) != 48) = false := by rw [bne_eq_false_iff_eq]; omega
        clear hr h0 h1 h2 h3 hb0
        go_enter Tryz.func80, Tryz.ntmps80
        go_wp2_with fail
        go_ret
        exact ⟨by rw [e.out]; rfl, Below.refl _ _⟩
      · have e := Lib.hid (show r = decide (∀ x ∈ xs, 48 ≤ x ∧ x ≤ 57) by rw [hr]; exact formB_digits (by rw [← hb0]; exact h2) h0)
        have d1 : ((b0 : Int) != 48) = true := by rw [bne_iff_ne]; omega
        clear hr h0 h1 h2 hb0
        go_enter Tryz.func80, Tryz.ntmps80
        go_wp2_with fail
        refine (strTrim_any w xs hb hn).mono ?_
        rintro e1 w1 ⟨t, rfl, ht, hb1⟩
        rw [← e.out] at ht
        go_wp2_with fail
        go_ret
        exact ⟨rfl, hb1⟩

set_option maxRecDepth 100000 in
set_option maxHeartbeats 2000000 in
theorem refForm_any (w : World) (xs : List Nat) (hb : ∀ x ∈ xs, x < 256) (hn : xs.length ≤ 1099511627776) :
    Calls Tryz.prog 82 #[.string (strB xs)] w fun e w' => e = .returned (.bool (formB xs)) ∧ w = w' := by
  obtain ⟨r, hr0⟩ : ∃ r, r = formB xs := ⟨_, rfl⟩
  rw [← hr0]
  have HR := Lib.hid hr0
  clear hr0
  have hsz := strB_size xs
  by_cases h0 : xs = []
  · have e1 := Lib.hid (show r = false by rw [HR.out, h0]; rfl)
    subst h0
    go_enter Tryz.func82, Tryz.ntmps82
    go_wp2_with fail
    go_ret
    rw [e1.out]
    exact ⟨rfl, rfl⟩
  · have hl : 0 < xs.length := by cases xs with | nil => exact absurd rfl h0 | cons a l => simp
    have hl0 : ((xs.length : Int) == 0) = false := by rw [beq_eq_false_iff_ne]; omega
    have hat0 := strB_at hb 0
    have H0 := Lib.hid h0
    clear h0
    by_cases h1 : nth xs 0 = 48 ∧ 1 < xs.length
    · have e1 := Lib.hid (show r = false by rw [HR.out]; exact formB_zero h1.1 h1.2)
      obtain ⟨h2, h3⟩ := h1
      rw [h2] at hat0
      clear h2
      go_enter Tryz.func82, Tryz.ntmps82
      go_wp2_with fail
      go_ret
      rw [e1.out]
      exact ⟨rfl, rfl⟩
    · have H1 := Lib.hid (show nth xs 0 = 48 → xs.length ≤ 1 from fun h => by
        rcases Nat.lt_or_ge 1 xs.length with h' | h'
        · exact absurd ⟨h, h'⟩ h1
        · exact h')
      obtain ⟨b0, hb0⟩ : ∃ b, b = nth xs 0 := ⟨_, rfl⟩
      have hd : decide ((1 : Int) < (xs.length : Int)) = false ∨ 1 < xs.length ∧ (((b0 : Int) == 48) = false) := by
        by_cases h2 : 1 < xs.length
        · right
          refine ⟨h2, ?_⟩
          rw [beq_eq_false_iff_ne]
          intro e
          apply h1
          exact ⟨by rw [← hb0]; omega, h2⟩
        · left
          simp; omega
      rw [← hb0] at hat0
      clear h1 hb0
      rcases hd with hd | ⟨hd', hd⟩
      all_goals
        go_enter Tryz.func82, Tryz.ntmps82
        go_wp2_with fail
        go_loop [3] (fun i => ∃ k : Nat, k ≤ xs.length ∧ i = .int .i64 (k : Nat) ∧ Hid (∀ j, j < k → 48 ≤ nth xs j ∧ nth xs j ≤ 57)) (fun i => xs.length - (intOf i).toNat)
        case atStart => exact ⟨0, Nat.zero_le _, rfl, Lib.hid fun j hj => by omega⟩
        case round =>
          obtain ⟨k, hk, rfl, hG⟩ := hrel
          clear hat0 hd
          by_cases hlt : k < xs.length
          · have hatk := strB_at hb k
            by_cases h3 : nth xs k < 48
            · have e1 := Lib.hid (show r = false by rw [HR.out]; exact formB_bad hlt (.inl h3))
              go_wp2_with fail
              go_ret
              rw [e1.out]
              exact ⟨rfl, rfl⟩
            · by_cases h4 : 57 < nth xs k
              · have e1 := Lib.hid (show r = false by rw [HR.out]; exact formB_bad hlt (.inr h4))
                go_wp2_with fail
                go_ret
                rw [e1.out]
                exact ⟨rfl, rfl⟩
              · go_wp2_with fail
                go_round
                case rel => exact ⟨k + 1, by omega, by go_num, Lib.hid fun j hj => by
                              by_cases e : j = k
                              · subst e; omega
                              · exact hG.out j (by omega)⟩
                case measure => simp [intOf]; omega
          · obtain rfl : k = xs.length := by omega
            have e1 := Lib.hid (show r = true by rw [HR.out]; exact formB_good H0.out H1.out hG.out)
            go_wp2_with fail
            go_ret
            rw [e1.out]
            exact ⟨rfl, rfl⟩

end Go.Proofs.YtdaajeklnhbhjaaGreatDoor
