/- order, Cmp, Sub32, less, Sub, slices.Equal, Same. No condition. -/
import Derived.Test.YtdaajeklnhbhjaaDoorNatC
import Derived.Deep.QuietTactic
import Derived.BigQuiet
import Derived.Deep.RegionWith
import Derived.Laws.BitsAllLaws
namespace Go.Proofs.YtdaajeklnhbhjaaDoor
open Go.RowKit Go.Suf
set_option linter.unusedVariables false
set_option linter.unusedSimpArgs false

/-- The sign of the difference. -/
def ordC (xs ys : List Nat) : Int := if val xs < val ys then -1 else if val ys < val xs then 1 else 0

theorem ordC_lt {xs ys : List Nat} (h : val xs < val ys) : ordC xs ys = -1 := by unfold ordC; rw [if_pos h]
theorem ordC_gt {xs ys : List Nat} (h : val ys < val xs) : ordC xs ys = 1 := by unfold ordC; rw [if_neg (by omega), if_pos h]
theorem ordC_eq {xs ys : List Nat} (h : val xs = val ys) : ordC xs ys = 0 := by unfold ordC; rw [if_neg (by omega), if_neg (by omega)]

def RetI (w : World) (r : Int) : Ending → World → Prop := fun e w' => e = .returned (.int .i64 r) ∧ ∃ nq, w' = w.drewN nq

set_option maxHeartbeats 1000000 in
theorem order_any (w : World) {a b : Option Addr} {n m cap cap' : Nat} {xs ys : List Nat} (h : Rd .u32 w a n cap xs) (h' : Rd .u32 w b m cap' ys) (c1 : canon xs) (c2 : canon ys) :
    Calls Tryd.prog 58 #[.slice a n cap, .slice b m cap'] w (RetI w (ordC xs ys)) := by
  have hn := h.lt
  have hm := h'.lt
  have HL := Lib.hid h.len
  have HL' := Lib.hid h'.len
  obtain ⟨r, hr0⟩ : ∃ r, r = ordC xs ys := ⟨_, rfl⟩
  rw [← hr0]
  have HR := Lib.hid hr0
  clear hr0
  rcases Nat.lt_trichotomy n m with hlt | heq | hlt
  · have e1 := Lib.hid (show r = -1 by rw [HR.out]; exact ordC_lt (len_lt h.bd c2 (by rw [HL.out, HL'.out]; exact hlt)))
    go_enter Tryd.func58, Tryd.ntmps58
    go_wp2_with fail
    go_ret
    rw [e1.out]
    exact ⟨rfl, 0, rfl⟩
  · subst heq
    go_enter Tryd.func58, Tryd.ntmps58
    go_wp2_with fail
    go_loopw [5] (fun i wr => ∃ (k : Nat) (nq : Nat), k ≤ n ∧ i = .int .i64 ((k : Int) - 1) ∧ wr = w.drewN nq ∧ Hid (xs.drop k = ys.drop k)) (fun i _ => (intOf i + 1).toNat)
    case atStart => exact ⟨n, 0, Nat.le_refl _, rfl, rfl, Lib.hid (by rw [List.drop_eq_nil_of_le (by have := HL.out; omega), List.drop_eq_nil_of_le (by have := HL'.out; omega)])⟩
    case round =>
      obtain ⟨k, nq, hk, hi, rfl, hD⟩ := hrel
      by_cases h0 : 0 < k
      · obtain ⟨j, rfl⟩ : ∃ j, k = j + 1 := ⟨k - 1, by omega⟩
        subst hi
        have hi2 : (((j + 1 : Nat) : Int) - 1) = (j : Int) := by omega
        rw [hi2]
        clear hi2
        obtain ⟨p, off, rfl, hc, _⟩ := h.cell j (by omega)
        obtain ⟨p', off', rfl, hc', _⟩ := h'.cell j (by omega)
        rcases Nat.lt_trichotomy (nth xs j) (nth ys j) with hlt | heq | hlt
        · have e1 := Lib.hid (show r = -1 by rw [HR.out]; exact ordC_lt (top_lt h.bd (by rw [HL.out, HL'.out]) (by have := HL.out; omega) hD.out hlt))
          go_wp2
          go_quiet (fail)
          go_wp2
          go_ret
          rw [e1.out]
          exact ⟨rfl, _, World.drewN_drewN _ _ _⟩
        · have HE := Lib.hid (drop_same (by rw [HL.out, HL'.out]) (by have := HL.out; omega) hD.out heq)
          rw [heq] at hc
          clear heq
          go_wp2
          go_quiet (fail)
          go_wp2
          go_quiet (fail)
          go_wp2
          go_roundw
          case rel => exact ⟨j, _, by omega, by go_num, rfl, HE⟩
          case measure => simp [intOf]
        · have e1 := Lib.hid (show r = 1 by rw [HR.out]; exact ordC_gt (top_lt h'.bd (by rw [HL.out, HL'.out]) (by have := HL'.out; omega) hD.out.symm hlt))
          go_wp2
          go_quiet (fail)
          go_wp2
          go_quiet (fail)
          go_wp2
          go_ret
          rw [e1.out]
          exact ⟨rfl, _, by rw [World.drewN_drewN, World.drewN_drewN]⟩
      · obtain rfl : k = 0 := by omega
        subst hi
        have e1 := Lib.hid (show r = 0 by
          have hd := hD.out
          simp only [List.drop_zero] at hd
          rw [HR.out]; exact ordC_eq (by rw [hd]))
        go_wp2
        go_ret
        rw [e1.out]
        exact ⟨rfl, nq, rfl⟩
  · have e1 := Lib.hid (show r = 1 by rw [HR.out]; exact ordC_gt (len_lt h'.bd c1 (by rw [HL.out, HL'.out]; exact hlt)))
    go_enter Tryd.func58, Tryd.ntmps58
    go_wp2_with fail
    go_ret
    rw [e1.out]
    exact ⟨rfl, 0, rfl⟩

def cmpC (xs ys : List Nat) : Int × Int := if bothC xs ys = 0 then (ordC xs ys, 0) else (0, bothC xs ys)

/-- An integer and an error; only reads. -/
def RetIE (w : World) (r : Int × Int) : Ending → World → Prop := fun e w' => e = .returned (.tuple #[.int .i64 r.1, .int .i64 r.2]) ∧ ∃ nq, w' = w.drewN nq

theorem Cmp_any (w : World) {a b : Option Addr} {n m cap cap' : Nat} {xs ys : List Nat} (h : Rd .u32 w a n cap xs) (h' : Rd .u32 w b m cap' ys) :
    Calls Tryd.prog 43 #[.slice a n cap, .slice b m cap'] w (RetIE w (cmpC xs ys)) := by
  obtain ⟨r, hr0⟩ : ∃ r, r = cmpC xs ys := ⟨_, rfl⟩
  rw [← hr0]
  have HR := Lib.hid hr0
  clear hr0
  go_enter Tryd.func43, Tryd.ntmps43
  go_wp2_with fail
  refine (both_any _ h h').mono ?_
  rintro e w1 ⟨rfl, rfl⟩
  by_cases hz : bothC xs ys = 0
  · obtain ⟨z1, z2⟩ := bothC_ok hz
    have c1 := (chk_ok.1 z1).2
    have c2 := (chk_ok.1 z2).2
    have e1 := Lib.hid (show r = (ordC xs ys, 0) by rw [HR.out, cmpC, if_pos hz])
    rw [hz]
    clear hz z1 z2
    go_wp2_with fail
    refine (order_any _ h h' c1 c2).mono ?_
    rintro e w1 ⟨rfl, nq, rfl⟩
    go_wp2_with fail
    go_ret2
    rw [e1.out]
    exact ⟨rfl, nq, rfl⟩
  · have e1 := Lib.hid (show r = (0, bothC xs ys) by rw [HR.out, cmpC, if_neg hz])
    go_wp2_with fail
    go_ret2
    rw [e1.out]
    exact ⟨rfl, 0, rfl⟩

/-! ### The borrow as math/bits reckons it -/

theorem bit31 {v : Nat} (h : v < 4294967296) : v.testBit 31 = decide (2147483648 ≤ v) := by
  rw [Nat.testBit_eq_decide_div_mod_eq]
  rw [decide_eq_decide]
  omega

theorem div31 {v : Nat} (h : v < 4294967296) : v / 2147483648 = if v.testBit 31 then 1 else 0 := by
  rw [bit31 h]
  by_cases h' : 2147483648 ≤ v
  · simp [h']; omega
  · simp [h']; omega

theorem and32 {a b : Nat} (h : a < 4294967296) : a &&& b < 4294967296 := Nat.lt_of_le_of_lt Nat.and_le_left h
theorem or32 {a b : Nat} (h : a < 4294967296) (h' : b < 4294967296) : a ||| b < 4294967296 := Nat.or_lt_two_pow (n := 32) h h'
theorem xor32 {a b : Nat} (h : a < 4294967296) (h' : b < 4294967296) : a ^^^ b < 4294967296 := Nat.xor_lt_two_pow (n := 32) h h'

theorem borrow_bits (x y c : Nat) (hx : x < 4294967296) (hy : y < 4294967296) (hc : c ≤ 1) :
    (((4294967295 ^^^ x) &&& y) ||| ((4294967295 ^^^ (x ^^^ y)) &&& subL x y c)) / 2147483648 = subB x y c := by
  have hd := subL_lt x y c
  have m : (4294967295 : Nat).testBit 31 = true := by decide
  have a := xor32 (show 4294967295 < 4294967296 by decide) hx
  have b := xor32 (show 4294967295 < 4294967296 by decide) (xor32 hx hy)
  rw [div31 (or32 (and32 a) (and32 b)), Nat.testBit_or, Nat.testBit_and, Nat.testBit_and, Nat.testBit_xor, Nat.testBit_xor, Nat.testBit_xor, m, bit31 hx, bit31 hy, bit31 hd]
  unfold subL at hd ⊢
  unfold subB
  by_cases h1 : 2147483648 ≤ x <;> by_cases h2 : 2147483648 ≤ y <;> simp only [h1, h2, decide_true, decide_false, Bool.xor_self, Bool.xor_true, Bool.true_xor, Bool.xor_false, Bool.false_xor, Bool.not_true, Bool.not_false, Bool.false_and, Bool.true_and, Bool.and_true, Bool.and_false, Bool.false_or, Bool.true_or, Bool.or_false, if_true, decide_eq_true_eq, Bool.false_eq_true, if_false]
  all_goals (repeat' split) <;> omega

theorem sub_wrap (x y c : Nat) (hx : x < 4294967296) (hy : y < 4294967296) (hc : c ≤ 1) : ((x : Int) - y - c) % 4294967296 = (subL x y c : Nat) := by
  unfold subL
  omega

theorem Sub32_any (w : World) (x y c : Nat) (hx : x < 4294967296) (hy : y < 4294967296) (hc : c ≤ 1) :
    Calls Tryd.prog 81 #[.int .u32 (x : Nat), .int .u32 (y : Nat), .int .u32 (c : Nat)] w fun e w' => e = .returned (.tuple #[.int .u32 (subL x y c : Nat), .int .u32 (subB x y c : Nat)]) ∧ w = w' := by
  have hm : IntKind.u32.max = ((4294967295 : Nat) : Int) := by decide
  have hd := subL_lt x y c
  have hb := Lib.hid (borrow_bits x y c hx hy hc)
  have hs := Lib.hid (sub_wrap x y c hx hy hc)
  have a1 := xor32 (show 4294967295 < 4294967296 by decide) hx
  have a2 := xor32 hx hy
  have a3 := xor32 (show 4294967295 < 4294967296 by decide) a2
  have b1 := Lib.hid (u32_xor_nat 4294967295 x (by decide) hx)
  have b2 := Lib.hid (u32_and_nat _ y a1 hy)
  have b3 := Lib.hid (u32_xor_nat x y hx hy)
  have b4 := Lib.hid (u32_xor_nat 4294967295 _ (by decide) a2)
  have b5 := Lib.hid (u32_and_nat _ (subL x y c) a3 hd)
  have b6 := Lib.hid (u32_or_nat _ _ (and32 (b := y) a1) (and32 (b := subL x y c) a3))
  clear a1 a2 a3
  go_enter Tryd.func81, Tryd.ntmps81
  go_wp2_with fail
  go_ret2
  refine ⟨?_, rfl⟩
  have e : (bits BinOp.or IntKind.u32 (bits BinOp.and IntKind.u32 (bits BinOp.xor IntKind.u32 IntKind.u32.max ↑x) ↑y) (bits BinOp.and IntKind.u32 (bits BinOp.xor IntKind.u32 IntKind.u32.max (bits BinOp.xor IntKind.u32 ↑x ↑y)) (((x : Int) - y - c) % 4294967296)) / 2147483648) = ((subB x y c : Nat) : Int) := by
    rw [hs.out, b3.out]
    rw [show IntKind.u32.max = ((4294967295 : Nat) : Int) by decide]
    rw [b1.out, b4.out, b2.out, b5.out, b6.out, ← hb.out]
    omega
  exact congrArg Ending.returned (congrArg Value.tuple (by rw [← e, ← hs.out]; rfl))

/-! ### less, Sub -/

theorem below_drew {w w' : World} (h : Below w.heap.size w w') (q : Nat) : Below w.heap.size w (w'.drewN q) := below_drewN h q

def RetL (w : World) (r : List Nat) : Ending → World → Prop := fun e w' =>
  ∃ a m c, e = .returned (.slice a m c) ∧ Rd .u32 w' a m c r ∧ Below w.heap.size w w'

set_option maxHeartbeats 1000000 in
theorem less_any (w : World) {a b : Option Addr} {n m cap cap' : Nat} {xs ys : List Nat} (h : Rd .u32 w a n cap xs) (h' : Rd .u32 w b m cap' ys) (hn : n ≤ 100000) (hm : m ≤ n) (hle : val ys ≤ val xs) :
    Calls Tryd.prog 65 #[.slice a n cap, .slice b m cap'] w (RetL w (limbs (val xs - val ys))) := by
  have HL := Lib.hid h.len
  have HL' := Lib.hid h'.len
  have mk : ∀ w, (Instr.makeSlice 22 (.int .i64 (n : Int)) (.int .i64 (n : Int))).run Tryd.prog w = .ok (.slice (some ⟨w.heap.size, 0, none⟩) n n) (w.alloc (.cells (zeros .u32 n) 47)) := fun w => run_zeros etN n (by omega) (by omega) w
  have HB0 := Blk.made .u32 47 w n
  obtain ⟨r, hr0⟩ : ∃ r, r = limbs (val xs - val ys) := ⟨_, rfl⟩
  rw [← hr0]
  have HR := Lib.hid hr0
  have HLE := Lib.hid hle
  clear hr0 hle
  go_enter Tryd.func65, Tryd.ntmps65
  go_wp2_with fail
  go_loopw [6, 13] (fun c i wr => ∃ k cc out, k ≤ n ∧ i = .int .i64 (k : Nat) ∧ c = .int .u32 (cc : Nat) ∧ cc ≤ 1 ∧ out.length = n ∧ Hid (Dif xs ys out k cc) ∧ Blk .u32 47 wr w.heap.size out ∧ Below w.heap.size w wr) (fun _ i _ => n - (intOf i).toNat)
  case atStart => exact ⟨0, 0, zs n, Nat.zero_le _, rfl, rfl, by decide, zs_length _, Lib.hid (Dif.start _ _ _ HB0.bd), HB0, (Below.refl _ _).alloc (Nat.le_refl _) _⟩
  case round =>
    obtain ⟨k, cc, out, hk, rfl, rfl, hcc, hlen, hS, hB, hb⟩ := hrel
    have hrd := h.below hb
    have hrd' := h'.below hb
    by_cases hlt : k < n
    · obtain ⟨p, off, rfl, hc, _⟩ := hrd.cell k hlt
      have hcell := hB.cell k (by omega)
      have hfree := hB.free k
      have hsm : small32 xs := h.bd
      have hsm' : small32 ys := h'.bd
      have b1 := small32_nth hsm k
      have b2 := small32_nth hsm' k
      have HLn := Lib.hid hlen
      have HS := Lib.hid (hS.out.step hsm hsm' (by omega : k < out.length))
      have HBn := Lib.hid (hB.set k (subL (nth xs k) (nth ys k) cc) (subL_lt _ _ _))
      have hb2 := hb.setCell (p := ⟨w.heap.size, k, none⟩) (Nat.le_refl _) (.int .u32 ((subL (nth xs k) (nth ys k) cc : Nat) : Int))
      have hc2 := Lib.hid (subB_le (nth xs k) (nth ys k) cc)
      clear hlen hsm hsm'
      go_wp2_with fail
      go_region_with (first | (go_at_call 64; refine (limb_any _ (hrd'.below (by first | exact (Below.refl _ _).drew | exact Below.refl _ _)) k (by omega)).mono ?_; rintro e w1 ⟨rfl, rfl⟩) | (go_at_call 81; refine (Sub32_any _ _ _ _ b1 b2 hcc).mono ?_; rintro e w1 ⟨rfl, rfl⟩))
      all_goals
        go_wp2
        go_roundw
        case rel => exact ⟨k + 1, _, _, by omega, by go_num, rfl, hc2.out, by have := HLn.out; simp [this], HS, ⟨HBn.out.blk, HBn.out.bd⟩, hb2.drew⟩
        case measure => simp [intOf]; omega
    · obtain rfl : k = n := by omega
      have hv := hS.out.done hlen HL.out (by have := HL'.out; omega) HLE.out
      have hR := hB.rd k hlen (by unfold maxLen; omega)
      have e1 := Lib.hid (show r = limbs (val out) by rw [HR.out, hv])
      clear hv hlen
      go_wp2_with fail
      refine (trim_any _ hR).mono ?_
      rintro e w1 ⟨a', m', rfl, hr', rfl⟩
      go_wp2_with fail
      go_ret
      rw [e1.out]
      exact ⟨a', m', m', rfl, hr', hb⟩

def subC (xs ys : List Nat) : List Nat × Int := if bothC xs ys = 0 then (if val xs < val ys then ([], 6) else (limbs (val xs - val ys), 0)) else ([], bothC xs ys)

theorem Sub_any (w : World) {a b : Option Addr} {n m cap cap' : Nat} {xs ys : List Nat} (h : Rd .u32 w a n cap xs) (h' : Rd .u32 w b m cap' ys) :
    Calls Tryd.prog 51 #[.slice a n cap, .slice b m cap'] w (RetN w (subC xs ys)) := by
  obtain ⟨r, hr0⟩ : ∃ r, r = subC xs ys := ⟨_, rfl⟩
  rw [← hr0]
  have HR := Lib.hid hr0
  clear hr0
  go_enter Tryd.func51, Tryd.ntmps51
  go_wp2_with fail
  refine (both_any _ h h').mono ?_
  rintro e w1 ⟨rfl, rfl⟩
  by_cases hz : bothC xs ys = 0
  · obtain ⟨z1, z2⟩ := bothC_ok hz
    have l1 := (chk_ok.1 z1).1
    have c1 := (chk_ok.1 z1).2
    have c2 := (chk_ok.1 z2).2
    rw [h.len] at l1
    have HZ := Lib.hid hz
    rw [hz]
    clear hz z1 z2
    go_wp2_with fail
    refine (order_any _ h h' c1 c2).mono ?_
    rintro e w1 ⟨rfl, nq, rfl⟩
    by_cases hlt : val xs < val ys
    · have e1 := Lib.hid (show r = ([], 6) by rw [HR.out, subC, if_pos HZ.out, if_pos hlt])
      rw [ordC_lt hlt]
      go_wp2_with fail
      go_ret2
      rw [e1.out]
      exact ⟨none, 0, 0, rfl, Rd.nil _ _, below_drewN (Below.refl _ _) _⟩
    · have e1 := Lib.hid (show r = (limbs (val xs - val ys), 0) by rw [HR.out, subC, if_pos HZ.out, if_neg hlt])
      have ho : 0 ≤ ordC xs ys := by unfold ordC; rw [if_neg hlt]; split <;> omega
      have hle := len_le h.bd c2 (show val ys ≤ val xs by omega)
      rw [h.len, h'.len] at hle
      have hd := below_drewN (Below.refl w.heap.size w) nq
      go_wp2_with fail
      refine (less_any _ (h.below hd) (h'.below hd) (by omega) hle (by omega)).mono ?_
      rintro e w2 ⟨a', m', c', rfl, hr', hb'⟩
      go_wp2_with fail
      go_ret2
      rw [e1.out]
      exact ⟨a', m', c', rfl, hr', hd.trans hb'⟩
  · have e1 := Lib.hid (show r = ([], bothC xs ys) by rw [HR.out, subC, if_neg hz])
    go_wp2_with fail
    go_ret2
    rw [e1.out]
    exact ⟨none, 0, 0, rfl, Rd.nil _ _, Below.refl _ _⟩

/-! ### slices.Equal, Same -/

/-- Whether two lists are the same. -/
def sameN (xs ys : List Nat) : Bool := decide (xs = ys)
theorem sameN_true {xs ys : List Nat} (h : xs = ys) : sameN xs ys = true := by simp [sameN, h]
theorem sameN_false {xs ys : List Nat} (h : xs ≠ ys) : sameN xs ys = false := by simp [sameN, h]

def RetB (w : World) (r : Bool) : Ending → World → Prop := fun e w' => e = .returned (.bool r) ∧ ∃ nq, w' = w.drewN nq

theorem take_same {xs ys : List Nat} {k : Nat} (h1 : k < xs.length) (h2 : k < ys.length) (h : xs.take k = ys.take k) (he : nth xs k = nth ys k) : xs.take (k + 1) = ys.take (k + 1) := by
  rw [take_succ_nth h1, take_succ_nth h2, h, he]

set_option maxHeartbeats 1000000 in
theorem Equal_any (w : World) {a b : Option Addr} {n m cap cap' : Nat} {xs ys : List Nat} (h : Rd .u32 w a n cap xs) (h' : Rd .u32 w b m cap' ys) :
    Calls Tryd.prog 49 #[.slice a n cap, .slice b m cap'] w (RetB w (sameN xs ys)) := by
  have hn := h.lt
  have hm := h'.lt
  have HL := Lib.hid h.len
  have HL' := Lib.hid h'.len
  obtain ⟨r, hr0⟩ : ∃ r, r = sameN xs ys := ⟨_, rfl⟩
  rw [← hr0]
  have HR := Lib.hid hr0
  clear hr0
  by_cases hne : n = m
  · subst hne
    go_enter Tryd.func49, Tryd.ntmps49
    go_wp2_with fail
    go_loopw [13] (fun i wr => ∃ (k : Nat) (nq : Nat), k ≤ n ∧ i = .int .i64 (k : Nat) ∧ wr = w.drewN nq ∧ Hid (xs.take k = ys.take k)) (fun i _ => n - (intOf i).toNat)
    case atStart => exact ⟨0, 0, Nat.zero_le _, rfl, rfl, Lib.hid rfl⟩
    case round =>
      obtain ⟨k, nq, hk, rfl, rfl, hD⟩ := hrel
      by_cases hlt : k < n
      · obtain ⟨p, off, rfl, hc, _⟩ := h.cell k hlt
        obtain ⟨p', off', rfl, hc', _⟩ := h'.cell k hlt
        by_cases he : nth xs k = nth ys k
        · have HE := Lib.hid (take_same (by have := HL.out; omega) (by have := HL'.out; omega) hD.out he)
          rw [he] at hc
          clear he
          go_wp2
          go_quiet (fail)
          go_wp2
          go_roundw
          case rel => exact ⟨k + 1, _, by omega, by go_num, rfl, HE⟩
          case measure => simp [intOf]; omega
        · have e1 := Lib.hid (show r = false by rw [HR.out]; exact sameN_false (fun e => he (by rw [e])))
          have hb : ((nth xs k : Int) != (nth ys k : Int)) = true := by rw [bne_iff_ne]; omega
          clear he
          go_wp2
          go_quiet (fail)
          go_wp2
          go_ret
          rw [e1.out]
          exact ⟨rfl, _, World.drewN_drewN _ _ _⟩
      · obtain rfl : k = n := by omega
        have e1 := Lib.hid (show r = true by
          have := hD.out
          rw [List.take_of_length_le (by have := HL.out; omega), List.take_of_length_le (by have := HL'.out; omega)] at this
          rw [HR.out]; exact sameN_true this)
        go_wp2
        go_ret
        rw [e1.out]
        exact ⟨rfl, nq, rfl⟩
  · have e1 := Lib.hid (show r = false by rw [HR.out]; exact sameN_false (fun e => hne (by rw [← HL.out, ← HL'.out, e])))
    have hb : ((n : Int) != (m : Int)) = true := by rw [bne_iff_ne]; omega
    go_enter Tryd.func49, Tryd.ntmps49
    go_wp2_with fail
    go_ret
    rw [e1.out]
    exact ⟨rfl, 0, rfl⟩

theorem Same_any (w : World) {a b : Option Addr} {n m cap cap' : Nat} {xs ys : List Nat} (h : Rd .u32 w a n cap xs) (h' : Rd .u32 w b m cap' ys) :
    Calls Tryd.prog 28 #[.slice a n cap, .slice b m cap'] w (RetB w (sameN xs ys)) := by
  go_enter Tryd.func28, Tryd.ntmps28
  go_wp2_with fail
  refine (Equal_any _ h h').mono ?_
  rintro e w1 ⟨rfl, nq, rfl⟩
  go_wp2_with fail
  go_ret
  exact ⟨rfl, nq, rfl⟩

end Go.Proofs.YtdaajeklnhbhjaaDoor
/- times, Mul. No condition. -/
namespace Go.Proofs.YtdaajeklnhbhjaaDoor
open Go.RowKit Go.Suf
set_option linter.unusedVariables false
set_option linter.unusedSimpArgs false

set_option maxHeartbeats 1000000 in
theorem times_any (w : World) {g off m c0 : Nat} {zs : List Nat} (hZ : Blk .u32 47 w g zs) (hm : off + m = zs.length) (hlen : zs.length ≤ 100000) {a : Option Addr} {n cap : Nat} {xs : List Nat} (h : Rd .u32 w a n cap xs) (hg : 0 < n → ∀ p, a = some p → p.block ≠ g) (hnm : n < m) (N : Nat) (hN : N < 4294967296)
    (hfit : val zs + pw off * (val xs * N) < pw (off + n + 1)) :
    Calls Tryd.prog 60 #[.slice (some ⟨g, off, none⟩) m c0, .slice a n cap, .int .u32 (N : Nat)] w fun e w' => e = .returned (.tuple #[]) ∧ ∃ zs', zs'.length = zs.length ∧ Blk .u32 47 w' g zs' ∧ val zs' = val zs + pw off * (val xs * N) ∧ w.grownBy w' (some g) := by
  have HF := Lib.hid hfit
  have HL := Lib.hid h.len
  have HM := Lib.hid hm
  have hm1 : off + m ≤ 100000 := by omega
  clear hfit hm hlen
  go_enter Tryd.func60, Tryd.ntmps60
  go_wp2_with fail
  go_loopw [6, 11] (fun v i wr => ∃ k c out, k ≤ n ∧ i = .int .i64 (k : Nat) ∧ v = .int .u64 (c : Nat) ∧ c < 4294967296 ∧ Hid (Tim zs xs out off N k c) ∧ Blk .u32 47 wr g out ∧ w.grownBy wr (some g)) (fun _ i _ => n - (intOf i).toNat)
  case atStart => exact ⟨0, 0, zs, Nat.zero_le _, rfl, rfl, by decide, Lib.hid (Tim.start hZ.bd), hZ, World.grownBy.refl _ _⟩
  case round =>
    obtain ⟨k, c, out, hk, rfl, rfl, hc, hS, hB, hgr⟩ := hrel
    have hrd := h.other hgr hg
    by_cases hlt : k < n
    · obtain ⟨p, o', rfl, hcx, _⟩ := hrd.cell k hlt
      have hlen := hS.out.len
      have hcell := hB.cell (off + k) (by have := HM.out; omega)
      have hfree := hB.free (off + k)
      have hsm : small32 xs := h.bd
      have b1 := small32_nth hsm k
      have b2 := small32_nth hS.out.small (off + k)
      have b3 := mul_lt_sq b1 hN
      have HS := Lib.hid (hS.out.step hsm hN (by have := HM.out; omega : off + k < zs.length))
      have hv : ((c : Int) + ((nth xs k : Int) * (N : Int) + (nth out (off + k) : Int))) % 4294967296 = (((nth xs k * N + nth out (off + k) + c) % 4294967296 : Nat) : Int) := by omega
      have hw := Lib.hid (show ((c : Int) + ((nth xs k : Int) * (N : Int) + (nth out (off + k) : Int))) / 4294967296 = (((nth xs k * N + nth out (off + k) + c) / 4294967296 : Nat) : Int) by omega)
      have HBn : Hid (Blk .u32 47 (wr.setCell ⟨g, off + k, none⟩ (.int .u32 (((c : Int) + ((nth xs k : Int) * (N : Int) + (nth out (off + k) : Int))) % 4294967296))) g (out.set (off + k) ((nth xs k * N + nth out (off + k) + c) % 4294967296))) := by
        rw [hv]
        exact Lib.hid (hB.set (off + k) _ (Nat.mod_lt _ (by decide)))
      have hg2 := grownBy_trans hgr (grownBy_set wr ⟨g, off + k, none⟩ (.int .u32 (((c : Int) + ((nth xs k : Int) * (N : Int) + (nth out (off + k) : Int))) % 4294967296)))
      clear hlen hsm hv
      go_wp2_with fail
      go_roundw
      case rel => exact ⟨k + 1, _, _, by omega, by go_num, by rw [hw.out], by have := HS.out.lt; exact this, HS, HBn.out, hg2⟩
      case measure => simp [intOf]; omega
    · obtain rfl : k = n := by omega
      have hlen := hS.out.len
      have hcell := hB.cell (off + k) (by have := HM.out; omega)
      have hfree := hB.free (off + k)
      have hS2 := hS.out
      have hk2 := HL.out
      subst hk2
      have b2 := hS2.fits HF.out
      have hd := Lib.hid (hS2.done (by have := HM.out; omega))
      have HBn : Hid (Blk .u32 47 (wr.setCell ⟨g, off + xs.length, none⟩ (.int .u32 ((nth out (off + xs.length) : Int) + (c : Int)))) g (out.set (off + xs.length) (nth out (off + xs.length) + c))) := Lib.hid (hB.set (off + xs.length) (nth out (off + xs.length) + c) b2)
      have hg2 := Lib.hid (grownBy_trans hgr (grownBy_set wr ⟨g, off + xs.length, none⟩ (.int .u32 ((nth out (off + xs.length) : Int) + (c : Int)))))
      have HLn := Lib.hid hlen
      clear hlen hS2
      go_wp2_with fail
      go_end0
      exact ⟨rfl, _, by have := HLn.out; simp [this], HBn.out, hd.out, hg2.out⟩

def mulC (xs ys : List Nat) : List Nat × Int := if bothC xs ys = 0 then fitC (val xs * val ys) else ([], bothC xs ys)

set_option maxHeartbeats 1000000 in
theorem Mul_any (w : World) {a b : Option Addr} {n m cap cap' : Nat} {xs ys : List Nat} (h : Rd .u32 w a n cap xs) (h' : Rd .u32 w b m cap' ys) :
    Calls Tryd.prog 45 #[.slice a n cap, .slice b m cap'] w (RetN w (mulC xs ys)) := by
  obtain ⟨r, hr0⟩ : ∃ r, r = mulC xs ys := ⟨_, rfl⟩
  rw [← hr0]
  have HR := Lib.hid hr0
  clear hr0
  go_enter Tryd.func45, Tryd.ntmps45
  go_wp2_with fail
  refine (both_any _ h h').mono ?_
  rintro e w1 ⟨rfl, rfl⟩
  by_cases hz : bothC xs ys = 0
  · obtain ⟨z1, z2⟩ := bothC_ok hz
    have l1 := (chk_ok.1 z1).1
    have l2 := (chk_ok.1 z2).1
    rw [h.len] at l1
    rw [h'.len] at l2
    have HZ := Lib.hid hz
    rw [hz]
    have HL := Lib.hid h.len
    have HL' := Lib.hid h'.len
    clear hz z1 z2
    have mk : ∀ w, (Instr.makeSlice 22 (.int .i64 ((n : Int) + m + 1)) (.int .i64 ((n : Int) + m + 1))).run Tryd.prog w = .ok (.slice (some ⟨w.heap.size, 0, none⟩) (n + m + 1) (n + m + 1)) (w.alloc (.cells (zeros .u32 (n + m + 1)) 47)) := fun w => run_zeros etN (n + m + 1) (by omega) (by omega) w
    have HB0 := Blk.made .u32 47 w (n + m + 1)
    have hap : 0 < n → ∀ p, a = some p → p.block ≠ w.heap.size := fun h0 p hp => Nat.ne_of_lt (h.block_lt h0 p hp)
    go_wp2_with fail
    go_loopw [25] (fun i wr => ∃ k out, k ≤ m ∧ i = .int .i64 (k : Nat) ∧ out.length = n + m + 1 ∧ Hid (val out = val xs * val (ys.take k)) ∧ Blk .u32 47 wr w.heap.size out ∧ Below w.heap.size w wr) (fun i _ => m - (intOf i).toNat)
    case atStart => exact ⟨0, zs (n + m + 1), Nat.zero_le _, rfl, zs_length _, Lib.hid (by rw [val_zs]; simp [val]), HB0, (Below.refl _ _).alloc (Nat.le_refl _) _⟩
    case round =>
      obtain ⟨k, out, hk, rfl, hlen, hS, hB, hb⟩ := hrel
      have hrd := h.below hb
      have hrd' := h'.below hb
      have hR := hB.rd (n + m + 1) hlen (by unfold maxLen; omega)
      by_cases hlt : k < m
      · obtain ⟨p, o', rfl, hcx, _⟩ := hrd'.cell k hlt
        have b1 := small32_nth (show small32 ys from h'.bd) k
        have hf := row_fits (show small32 xs from h.bd) (show small32 ys from h'.bd) hS.out (show k < ys.length by have := HL'.out; omega)
        rw [HL.out] at hf
        have HF1 := Lib.hid hf.1
        have HF2 := Lib.hid hf.2
        have HLn := Lib.hid hlen
        clear hf hlen
        go_wp2_with (refine wpList_fromA rfl _ _ 22 rfl etN rfl rfl k (n + m + 1 - k) (n + m + 1 - k) rfl (by omega) (Nat.le_refl _) (by omega) rfl rfl ?_)
        refine (times_any _ hB (by have := HLn.out; omega) (by have := HLn.out; omega) hrd hap (by omega) _ b1 HF2.out).mono ?_
        rintro e w2 ⟨rfl, out2, hl2, hB2, hv2, hg2⟩
        have HS2 := Lib.hid (hv2.trans HF1.out)
        have hb2 := hb.grown hg2 hb.size (fun q hq => by simp at hq; omega)
        have HLn2 := Lib.hid (hl2.trans HLn.out)
        clear hv2 hl2
        go_wp2_with fail
        go_roundw
        case rel => exact ⟨k + 1, out2, by omega, by go_num, HLn2.out, HS2, hB2, hb2⟩
        case measure => simp [intOf]; omega
      · obtain rfl : k = m := by omega
        have hv := hS.out
        rw [List.take_of_length_le (by have := HL'.out; omega)] at hv
        have e1 := Lib.hid (show r = fitC (val out) by rw [HR.out, mulC, if_pos HZ.out, hv])
        clear hv hlen
        go_wp2_with fail
        refine (fits_any _ hR).mono ?_
        rintro e w1 ⟨a', m', c', rfl, hr', rfl⟩
        go_wp2_with fail
        go_ret2
        rw [e1.out]
        exact ⟨a', m', c', rfl, hr', hb⟩
  · have e1 := Lib.hid (show r = ([], bothC xs ys) by rw [HR.out, mulC, if_neg hz])
    go_wp2_with fail
    go_ret2
    rw [e1.out]
    exact ⟨none, 0, 0, rfl, Rd.nil _ _, Below.refl _ _⟩

end Go.Proofs.YtdaajeklnhbhjaaDoor
