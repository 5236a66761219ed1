/- order, Cmp, Sub32, less, Sub, slices.Equal, Same. No condition. -/
import Derived.Test.YtfcejgeckcoefaaNatC
import Derived.Deep.QuietTactic
import Derived.BigQuiet
import Derived.Deep.RegionWith
import Derived.Laws.BitsAllLaws
namespace Go.Proofs.Ytfcejgeckcoefaa
open Go.RowKit Go.Suf
set_option linter.unusedVariables false
set_option linter.unusedSimpArgs false

/-- The sign of the difference. -/
def ordC (xs ys : List Nat) : Int := if val xs < val ys then -1 else if val ys < val xs then 1 else 0

theorem ordC_lt {xs ys : List Nat} (h : val xs < val ys) : ordC xs ys = -1 := by unfold ordC; rw [if_pos h]
theorem ordC_gt {xs ys : List Nat} (h : val ys < val xs) : ordC xs ys = 1 := by unfold ordC; rw [if_neg (by omega), if_pos h]
theorem ordC_eq {xs ys : List Nat} (h : val xs = val ys) : ordC xs ys = 0 := by unfold ordC; rw [if_neg (by omega), if_neg (by omega)]

def RetI (w : World) (r : Int) : Ending → World → Prop := fun e w' => e = .returned (.int .i64 r) ∧ ∃ nq, w' = w.drewN nq

set_option maxHeartbeats 1000000 in
theorem order_any (w : World) {a b : Option Addr} {n m cap cap' : Nat} {xs ys : List Nat} (h : Rd .u32 w a n cap xs) (h' : Rd .u32 w b m cap' ys) (c1 : canon xs) (c2 : canon ys) :
    Calls Try.prog 82 #[.slice a n cap, .slice b m cap'] w (RetI w (ordC xs ys)) := by
  have hn := h.lt
  have hm := h'.lt
  have HL := Lib.hid h.len
  have HL' := Lib.hid h'.len
  obtain ⟨r, hr0⟩ : ∃ r, r = ordC xs ys := ⟨_, rfl⟩
  rw [← hr0]
  have HR := Lib.hid hr0
  clear hr0
  rcases Nat.lt_trichotomy n m with hlt | heq | hlt
  · have e1 := Lib.hid (show r = -1 by rw [HR.out]; exact ordC_lt (len_lt h.bd c2 (by rw [HL.out, HL'.out]; exact hlt)))
    go_enter Try.func82, Try.ntmps82
    go_wp2_with fail
    go_ret
    rw [e1.out]
    exact ⟨rfl, 0, rfl⟩
  · subst heq
    go_enter Try.func82, Try.ntmps82
    go_wp2_with fail
    go_loopw [5] (fun i wr => ∃ (k : Nat) (nq : Nat), k ≤ n ∧ i = .int .i64 ((k : Int) - 1) ∧ wr = w.drewN nq ∧ Hid (xs.drop k = ys.drop k)) (fun i _ => (intOf i + 1).toNat)
    case atStart => exact ⟨n, 0, Nat.le_refl _, rfl, rfl, Lib.hid (by rw [List.drop_eq_nil_of_le (by have := HL.out; omega), List.drop_eq_nil_of_le (by have := HL'.out; omega)])⟩
    case round =>
      obtain ⟨k, nq, hk, hi, rfl, hD⟩ := hrel
      by_cases h0 : 0 < k
      · obtain ⟨j, rfl⟩ : ∃ j, k = j + 1 := ⟨k - 1, by omega⟩
        subst hi
        have hi2 : (((j + 1 : Nat) : Int) - 1) = (j : Int) := by omega
        rw [hi2]
        clear hi2
        obtain ⟨p, off, rfl, hc, _⟩ := h.cell j (by omega)
        obtain ⟨p', off', rfl, hc', _⟩ := h'.cell j (by omega)
        rcases Nat.lt_trichotomy (nth xs j) (nth ys j) with hlt | heq | hlt
        · have e1 := Lib.hid (show r = -1 by rw [HR.out]; exact ordC_lt (top_lt h.bd (by rw [HL.out, HL'.out]) (by have := HL.out; omega) hD.out hlt))
          go_wp2
          go_quiet (fail)
          go_wp2
          go_ret
          rw [e1.out]
          exact ⟨rfl, _, World.drewN_drewN _ _ _⟩
        · have HE := Lib.hid (drop_same (by rw [HL.out, HL'.out]) (by have := HL.out; omega) hD.out heq)
          rw [heq] at hc
          clear heq
          go_wp2
          go_quiet (fail)
          go_wp2
          go_quiet (fail)
          go_wp2
          go_roundw
          case rel => exact ⟨j, _, by omega, by go_num, rfl, HE⟩
          case measure => simp [intOf]
        · have e1 := Lib.hid (show r = 1 by rw [HR.out]; exact ordC_gt (top_lt h'.bd (by rw [HL.out, HL'.out]) (by have := HL'.out; omega) hD.out.symm hlt))
          go_wp2
          go_quiet (fail)
          go_wp2
          go_quiet (fail)
          go_wp2
          go_ret
          rw [e1.out]
          exact ⟨rfl, _, by rw [World.drewN_drewN, World.drewN_drewN]⟩
      · obtain rfl : k = 0 := by omega
        subst hi
        have e1 := Lib.hid (show r = 0 by
          have hd := hD.out
          simp only [List.drop_zero] at hd
          rw [HR.out]; exact ordC_eq (by rw [hd]))
        go_wp2
        go_ret
        rw [e1.out]
        exact ⟨rfl, nq, rfl⟩
  · have e1 := Lib.hid (show r = 1 by rw [HR.out]; exact ordC_gt (len_lt h'.bd c1 (by rw [HL.out, HL'.out]; exact hlt)))
    go_enter Try.func82, Try.ntmps82
    go_wp2_with fail
    go_ret
    rw [e1.out]
    exact ⟨rfl, 0, rfl⟩

def cmpC (xs ys : List Nat) : Int × Int := if bothC xs ys = 0 then (ordC xs ys, 0) else (0, bothC xs ys)

/-- An integer and an error; only reads. -/
def RetIE (w : World) (r : Int × Int) : Ending → World → Prop := fun e w' => e = .returned (.tuple #[.int .i64 r.1, .int .i64 r.2]) ∧ ∃ nq, w' = w.drewN nq

theorem Cmp_any (w : World) {a b : Option Addr} {n m cap cap' : Nat} {xs ys : List Nat} (h : Rd .u32 w a n cap xs) (h' : Rd .u32 w b m cap' ys) :
    Calls Try.prog 56 #[.slice a n cap, .slice b m cap'] w (RetIE w (cmpC xs ys)) := by
  obtain ⟨r, hr0⟩ : ∃ r, r = cmpC xs ys := ⟨_, rfl⟩
  rw [← hr0]
  have HR := Lib.hid hr0
  clear hr0
  go_enter Try.func56, Try.ntmps56
  go_wp2_with fail
  refine (both_any _ h h').mono ?_
  rintro e w1 ⟨rfl, rfl⟩
  by_cases hz : bothC xs ys = 0
  · obtain ⟨z1, z2⟩ := bothC_ok hz
    have c1 := (chk_ok.1 z1).2
    have c2 := (chk_ok.1 z2).2
    have e1 := Lib.hid (show r = (ordC xs ys, 0) by rw [HR.out, cmpC, if_pos hz])
    rw [hz]
    clear hz z1 z2
    go_wp2_with fail
    refine (order_any _ h h' c1 c2).mono ?_
    rintro e w1 ⟨rfl, nq, rfl⟩
    go_wp2_with fail
    go_ret2
    rw [e1.out]
    exact ⟨rfl, nq, rfl⟩
  · have e1 := Lib.hid (show r = (0, bothC xs ys) by rw [HR.out, cmpC, if_neg hz])
    go_wp2_with fail
    go_ret2
    rw [e1.out]
    exact ⟨rfl, 0, rfl⟩

/-! ### The borrow as math/bits reckons it -/

theorem bit31 {v : Nat} (h : v < 4294967296) : v.testBit 31 = decide (2147483648 ≤ v) := by
  rw [Nat.testBit_eq_decide_div_mod_eq]
  rw [decide_eq_decide]
  omega

theorem div31 {v : Nat} (h : v < 4294967296) : v / 2147483648 = if v.testBit 31 then 1 else 0 := by
  rw [bit31 h]
  by_cases h' : 2147483648 ≤ v
  · simp [h']; omega
  · simp [h']; omega

theorem and32 {a b : Nat} (h : a < 4294967296) : a &&& b < 4294967296 := Nat.lt_of_le_of_lt Nat.and_le_left h
theorem or32 {a b : Nat} (h : a < 4294967296) (h' : b < 4294967296) : a ||| b < 4294967296 := Nat.or_lt_two_pow (n := 32) h h'
theorem xor32 {a b : Nat} (h : a < 4294967296) (h' : b < 4294967296) : a ^^^ b < 4294967296 := Nat.xor_lt_two_pow (n := 32) h h'

theorem borrow_bits (x y c : Nat) (hx : x < 4294967296) (hy : y < 4294967296) (hc : c ≤ 1) :
    (((4294967295 ^^^ x) &&& y) ||| ((4294967295 ^^^ (x ^^^ y)) &&& subL x y c)) / 2147483648 = subB x y c := by
  have hd := subL_lt x y c
  have m : (4294967295 : Nat).testBit 31 = true := by decide
  have a := xor32 (show 4294967295 < 4294967296 by decide) hx
  have b := xor32 (show 4294967295 < 4294967296 by decide) (xor32 hx hy)
  rw [div31 (or32 (and32 a) (and32 b)), Nat.testBit_or, Nat.testBit_and, Nat.testBit_and, Nat.testBit_xor, Nat.testBit_xor, Nat.testBit_xor, m, bit31 hx, bit31 hy, bit31 hd]
  unfold subL at hd ⊢
  unfold subB
  by_cases h1 : 2147483648 ≤ x <;> by_cases h2 : 2147483648 ≤ y <;> simp only [h1, h2, decide_true, decide_false, Bool.xor_self, Bool.xor_true, Bool.true_xor, Bool.xor_false, Bool.false_xor, Bool.not_true, Bool.not_false, Bool.false_and, Bool.true_and, Bool.and_true, Bool.and_false, Bool.false_or, Bool.true_or, Bool.or_false, if_true, decide_eq_true_eq, Bool.false_eq_true, if_false]
  all_goals (repeat' split) <;> omega

theorem sub_wrap (x y c : Nat) (hx : x < 4294967296) (hy : y < 4294967296) (hc : c ≤ 1) : ((x : Int) - y - c) % 4294967296 = (subL x y c : Nat) := by
  unfold subL
  omega

theorem Sub32_any (w : World) (x y c : Nat) (hx : x < 4294967296) (hy : y < 4294967296) (hc : c ≤ 1) :
    Calls Try.prog 102 #[.int .u32 (x : Nat), .int .u32 (y : Nat), .int .u32 (c : Nat)] w fun e w' => e = .returned (.tuple #[.int .u32 (subL x y c : Nat), .int .u32 (subB x y c : Nat)]) ∧ w = w' := by
  have hm : IntKind.u32.max = ((4294967295 : Nat) : Int) := by decide
  have hd := subL_lt x y c
  have hb := Lib.hid (borrow_bits x y c hx hy hc)
  have hs := Lib.hid (sub_wrap x y c hx hy hc)
  have a1 := xor32 (show 4294967295 < 4294967296 by decide) hx
  have a2 := xor32 hx hy
  have a3 := xor32 (show 4294967295 < 4294967296 by decide) a2
  have b1 := Lib.hid (u32_xor_nat 4294967295 x (by decide) hx)
  have b2 := Lib.hid (u32_and_nat _ y a1 hy)
  have b3 := Lib.hid (u32_xor_nat x y hx hy)
  have b4 := Lib.hid (u32_xor_nat 4294967295 _ (by decide) a2)
  have b5 := Lib.hid (u32_and_nat _ (subL x y c) a3 hd)
  have b6 := Lib.hid (u32_or_nat _ _ (and32 (b := y) a1) (and32 (b := subL x y c) a3))
  clear a1 a2 a3
  go_enter Try.func102, Try.ntmps102
  go_wp2_with fail
  go_ret2
  refine ⟨?_, rfl⟩
  have e : (bits BinOp.or IntKind.u32 (bits BinOp.and IntKind.u32 (bits BinOp.xor IntKind.u32 IntKind.u32.max ↑x) ↑y) (bits BinOp.and IntKind.u32 (bits BinOp.xor IntKind.u32 IntKind.u32.max (bits BinOp.xor IntKind.u32 ↑x ↑y)) (((x : Int) - y - c) % 4294967296)) / 2147483648) = ((subB x y c : Nat) : Int) := by
    rw [hs.out, b3.out]
    rw [show IntKind.u32.max = ((4294967295 : Nat) : Int) by decide]
    rw [b1.out, b4.out, b2.out, b5.out, b6.out, ← hb.out]
    omega
  exact congrArg Ending.returned (congrArg Value.tuple (by rw [← e, ← hs.out]; rfl))

/-! ### less, Sub -/

theorem below_drew {w w' : World} (h : Below w.heap.size w w') (q : Nat) : Below w.heap.size w (w'.drewN q) := below_drewN h q

def RetL (w : World) (r : List Nat) : Ending → World → Prop := fun e w' =>
  ∃ a m c, e = .returned (.slice a m c) ∧ Rd .u32 w' a m c r ∧ Below w.heap.size w w'

def subC (xs ys : List Nat) : List Nat × Int := if bothC xs ys = 0 then (if val xs < val ys then ([], 6) else (limbs (val xs - val ys), 0)) else ([], bothC xs ys)

/-! ### slices.Equal, Same -/

/-- Whether two lists are the same. -/
def sameN (xs ys : List Nat) : Bool := decide (xs = ys)
theorem sameN_true {xs ys : List Nat} (h : xs = ys) : sameN xs ys = true := by simp [sameN, h]
theorem sameN_false {xs ys : List Nat} (h : xs ≠ ys) : sameN xs ys = false := by simp [sameN, h]

def RetB (w : World) (r : Bool) : Ending → World → Prop := fun e w' => e = .returned (.bool r) ∧ ∃ nq, w' = w.drewN nq

theorem take_same {xs ys : List Nat} {k : Nat} (h1 : k < xs.length) (h2 : k < ys.length) (h : xs.take k = ys.take k) (he : nth xs k = nth ys k) : xs.take (k + 1) = ys.take (k + 1) := by
  rw [take_succ_nth h1, take_succ_nth h2, h, he]

set_option maxHeartbeats 1000000 in
theorem Equal_any (w : World) {a b : Option Addr} {n m cap cap' : Nat} {xs ys : List Nat} (h : Rd .u32 w a n cap xs) (h' : Rd .u32 w b m cap' ys) :
    Calls Try.prog 89 #[.slice a n cap, .slice b m cap'] w (RetB w (sameN xs ys)) := by
  have hn := h.lt
  have hm := h'.lt
  have HL := Lib.hid h.len
  have HL' := Lib.hid h'.len
  obtain ⟨r, hr0⟩ : ∃ r, r = sameN xs ys := ⟨_, rfl⟩
  rw [← hr0]
  have HR := Lib.hid hr0
  clear hr0
  by_cases hne : n = m
  · subst hne
    go_enter Try.func89, Try.ntmps89
    go_wp2_with fail
    go_loopw [13] (fun i wr => ∃ (k : Nat) (nq : Nat), k ≤ n ∧ i = .int .i64 (k : Nat) ∧ wr = w.drewN nq ∧ Hid (xs.take k = ys.take k)) (fun i _ => n - (intOf i).toNat)
    case atStart => exact ⟨0, 0, Nat.zero_le _, rfl, rfl, Lib.hid rfl⟩
    case round =>
      obtain ⟨k, nq, hk, rfl, rfl, hD⟩ := hrel
      by_cases hlt : k < n
      · obtain ⟨p, off, rfl, hc, _⟩ := h.cell k hlt
        obtain ⟨p', off', rfl, hc', _⟩ := h'.cell k hlt
        by_cases he : nth xs k = nth ys k
        · have HE := Lib.hid (take_same (by have := HL.out; omega) (by have := HL'.out; omega) hD.out he)
          rw [he] at hc
          clear he
          go_wp2
          go_quiet (fail)
          go_wp2
          go_roundw
          case rel => exact ⟨k + 1, _, by omega, by go_num, rfl, HE⟩
          case measure => simp [intOf]; omega
        · have e1 := Lib.hid (show r = false by rw [HR.out]; exact sameN_false (fun e => he (by rw [e])))
          have hb : ((nth xs k : Int) != (nth ys k : Int)) = true := by rw [bne_iff_ne]; omega
          clear he
          go_wp2
          go_quiet (fail)
          go_wp2
          go_ret
          rw [e1.out]
          exact ⟨rfl, _, World.drewN_drewN _ _ _⟩
      · obtain rfl : k = n := by omega
        have e1 := Lib.hid (show r = true by
          have := hD.out
          rw [List.take_of_length_le (by have := HL.out; omega), List.take_of_length_le (by have := HL'.out; omega)] at this
          rw [HR.out]; exact sameN_true this)
        go_wp2
        go_ret
        rw [e1.out]
        exact ⟨rfl, nq, rfl⟩
  · have e1 := Lib.hid (show r = false by rw [HR.out]; exact sameN_false (fun e => hne (by rw [← HL.out, ← HL'.out, e])))
    have hb : ((n : Int) != (m : Int)) = true := by rw [bne_iff_ne]; omega
    go_enter Try.func89, Try.ntmps89
    go_wp2_with fail
    go_ret
    rw [e1.out]
    exact ⟨rfl, 0, rfl⟩

theorem Same_any (w : World) {a b : Option Addr} {n m cap cap' : Nat} {xs ys : List Nat} (h : Rd .u32 w a n cap xs) (h' : Rd .u32 w b m cap' ys) :
    Calls Try.prog 73 #[.slice a n cap, .slice b m cap'] w (RetB w (sameN xs ys)) := by
  go_enter Try.func73, Try.ntmps73
  go_wp2_with fail
  refine (Equal_any _ h h').mono ?_
  rintro e w1 ⟨rfl, nq, rfl⟩
  go_wp2_with fail
  go_ret
  exact ⟨rfl, nq, rfl⟩

end Go.Proofs.Ytfcejgeckcoefaa
