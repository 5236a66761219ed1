/- The document's answer: Sub, Cmp, Of, Word, Mul, Long. No condition. -/
import Derived.Test.YtkomdiblopdfiaaNatR
namespace Go.Proofs.Ytkomdiblopdfiaa
open Go.RowKit Go.Suf
set_option linter.unusedVariables false
set_option linter.unusedSimpArgs false

theorem ltC_true {xs ys : List Nat} (h : val xs < val ys) : ltC xs ys = true := by simp [ltC, h]
theorem ltC_false {xs ys : List Nat} (h : ¬ val xs < val ys) : ltC xs ys = false := by simp only [ltC, decide_eq_false_iff_not]; exact h

theorem refCmp_any (w : World) {a b : Option Addr} {n m cap cap' : Nat} {xs ys : List Nat} (h : Rd .u32 w a n cap xs) (h' : Rd .u32 w b m cap' ys) :
    Calls Try.prog 59 #[.slice a n cap, .slice b m cap'] w (RetIE w (cmpC xs ys)) := by
  obtain ⟨r, hr0⟩ : ∃ r, r = cmpC xs ys := ⟨_, rfl⟩
  rw [← hr0]
  have HR := Lib.hid hr0
  clear hr0
  go_enter Try.func59, Try.ntmps59
  go_wp2_with fail
  refine (refBoth_any _ h h').mono ?_
  rintro e w1 ⟨rfl, rfl⟩
  by_cases hz : bothC xs ys = 0
  · obtain ⟨z1, z2⟩ := bothC_ok hz
    have c1 := (chk_ok.1 z1).2
    have c2 := (chk_ok.1 z2).2
    have e1 := Lib.hid (show r = (ordC xs ys, 0) by rw [HR.out, cmpC, if_pos hz])
    rw [hz]
    clear hz z1 z2
    go_wp2_with fail
    refine (refless_any _ h h' c1 c2).mono ?_
    rintro e w1 ⟨rfl, nq, rfl⟩
    by_cases hlt : val xs < val ys
    · have e2 := Lib.hid (ordC_lt hlt)
      rw [ltC_true hlt]
      go_wp2_with fail
      go_ret2
      rw [e1.out, e2.out]
      exact ⟨rfl, nq, rfl⟩
    · rw [ltC_false hlt]
      go_wp2_with fail
      refine (refless_any _ (h'.drewN nq) (h.drewN nq) c2 c1).mono ?_
      rintro e w1 ⟨rfl, nq2, rfl⟩
      by_cases hgt : val ys < val xs
      · have e2 := Lib.hid (ordC_gt hgt)
        rw [ltC_true hgt]
        go_wp2_with fail
        go_ret2
        rw [e1.out, e2.out]
        exact ⟨rfl, _, rfl⟩
      · have e2 := Lib.hid (ordC_eq (xs := xs) (ys := ys) (by omega))
        rw [ltC_false hgt]
        go_wp2_with fail
        go_ret2
        rw [e1.out, e2.out]
        exact ⟨rfl, _, rfl⟩
  · have e1 := Lib.hid (show r = (0, bothC xs ys) by rw [HR.out, cmpC, if_neg hz])
    go_wp2_with fail
    go_ret2
    rw [e1.out]
    exact ⟨rfl, 0, rfl⟩

theorem of_step (out : List Nat) (v k : Nat) (hl : out.length = k) : val (out ++ [v % 4294967296]) + pw (k + 1) * (v / 4294967296) = val out + pw k * v := by
  rw [val_snoc, hl, pw_succ]
  have e : 4294967296 * pw k * (v / 4294967296) = pw k * (4294967296 * (v / 4294967296)) := by rw [Nat.mul_comm 4294967296, Nat.mul_assoc]
  have h := congrArg (pw k * ·) (Nat.mod_add_div v 4294967296)
  simp only [Nat.mul_add] at h
  omega

set_option maxHeartbeats 1000000 in
theorem refOf_any (w : World) (n : Nat) (hn : n < 18446744073709551616) :
    Calls Try.prog 32 #[.int .u64 (n : Nat)] w (RetL w (limbs n)) := by
  obtain ⟨r, hr0⟩ : ∃ r, r = limbs n := ⟨_, rfl⟩
  rw [← hr0]
  have HR := Lib.hid hr0
  clear hr0
  go_enter Try.func32, Try.ntmps32
  go_wp2_with fail
  go_loopw [0, 3] (fun s0 s3 wr => ∃ (v k : Nat) (d : Option Addr) (cp : Nat) (out : List Nat), s0 = .int .u64 (v : Nat) ∧ v < 18446744073709551616 ∧ k ≤ 2 ∧ s3 = .slice d k cp ∧ Ow .u32 40 w.heap.size wr d k cp out ∧ Hid (val out + pw k * v = n ∧ (v = 0 → canon out)) ∧ Below w.heap.size w wr) (fun v _ _ => (intOf v).toNat)
  case atStart => exact ⟨n, 0, none, 0, [], rfl, hn, by decide, rfl, Ow.nil _ _ _ _, Lib.hid ⟨by simp [val, pw], fun _ => by simp [canon]⟩, Below.refl _ _⟩
  case round =>
    obtain ⟨v, k, d, cp, out, rfl, hv, hk, rfl, ho, hE, hb⟩ := hrel
    have hz := hb.size
    by_cases h0 : 0 < v
    · have hk2 : k < 2 := by
        have h1 := hE.out.1
        have h2 := Nat.le_mul_of_pos_right (pw k) h0
        exact pw_lt (i := k) (j := 2) (by show _ < 18446744073709551616; omega)
      have hx := Lib.hid (show ((v : Int) % 4294967296) = ((v % 4294967296 : Nat) : Int) by omega)
      have hy := Lib.hid (show ((v : Int) / 4294967296) = ((v / 4294967296 : Nat) : Int) by omega)
      have HE := Lib.hid (show val (out ++ [v % 4294967296]) + pw (k + 1) * (v / 4294967296) = n ∧ (v / 4294967296 = 0 → canon (out ++ [v % 4294967296])) from ⟨by
        rw [of_step out v k ho.len]
        exact hE.out.1, fun e => by simp [canon]; omega⟩)
      go_wp2_with (at_builtin; refine wpList_app rfl _ _ 23 rfl etN w.heap.size rfl (ho.own.alloc _) rfl rfl (sl_new wr _ 40 rfl) (by unfold maxLen; omega) (by omega) (by simp; omega) ?_; intro a' cap2 w' hown hg hbw)
      rw [hx.out] at hown
      have ho2 := ho.snoc (x := v % 4294967296) (Nat.mod_lt _ (by decide)) rfl hown
      have hbn := hb.trans (((Below.refl w.heap.size wr).alloc hz _).trans hbw)
      clear hown hg hbw ho
      go_roundw
      case rel => exact ⟨v / 4294967296, k + 1, a', cap2, _, by rw [hy.out], by omega, by omega, rfl, ho2, HE, hbn⟩
      case measure => simp [intOf]; omega
    · obtain rfl : v = 0 := by omega
      have e1 := Lib.hid (show r = out by
        have := hE.out.1
        rw [Nat.mul_zero, Nat.add_zero] at this
        rw [HR.out, ← this, limbs_val ho.bd (hE.out.2 rfl)])
      go_wp2_with fail
      go_ret
      rw [e1.out]
      exact ⟨d, k, cp, rfl, ho.rd, hb⟩

def longB (xs : List Nat) : Bool := decide (24 < xs.length ∧ xs.length ≤ 96)

theorem Long_any (w : World) {a : Option Addr} {n cap : Nat} {xs : List Nat} (h : Rd .u32 w a n cap xs) :
    Calls Try.prog 49 #[.slice a n cap] w fun e w' => e = .returned (.bool (longB xs)) ∧ w = w' := by
  have hn := h.lt
  obtain ⟨r, hr0⟩ : ∃ r, r = longB xs := ⟨_, rfl⟩
  rw [← hr0]
  unfold longB at hr0
  rw [h.len] at hr0
  have HR := Lib.hid hr0
  clear hr0
  by_cases h1 : 24 < n
  · by_cases h2 : n ≤ 96
    · have e1 := Lib.hid (show r = true by rw [HR.out]; simp; omega)
      go_enter Try.func49, Try.ntmps49
      go_wp2_with fail
      go_ret
      rw [e1.out]
      exact ⟨by simp; omega, rfl⟩
    · have e1 := Lib.hid (show r = false by rw [HR.out]; simp; omega)
      go_enter Try.func49, Try.ntmps49
      go_wp2_with fail
      go_ret
      rw [e1.out]
      exact ⟨by simp; omega, rfl⟩
  · have e1 := Lib.hid (show r = false by rw [HR.out]; simp; omega)
    have hd : decide ((24 : Int) < (n : Int)) = false := by simp; omega
    go_enter Try.func49, Try.ntmps49
    go_wp2_with fail
    go_ret
    rw [e1.out]
    exact ⟨rfl, rfl⟩

end Go.Proofs.Ytkomdiblopdfiaa
