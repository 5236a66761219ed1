/- divide, Div, Gcd. No condition. -/
import Derived.Test.YtfcejgeckcoefaaNatI
import Derived.Deep.LoopGhost
namespace Go.Proofs.Ytfcejgeckcoefaa
open Go.RowKit Go.Suf
set_option linter.unusedVariables false
set_option linter.unusedSimpArgs false

theorem canon_len_pos {xs : List Nat} (h : 0 < val xs) : 0 < xs.length := by
  cases xs with
  | nil => simp [val] at h
  | cons x xs => simp

theorem canon_val_pos {xs : List Nat} (hc : canon xs) (h : 0 < xs.length) : 0 < val xs := by
  obtain ⟨n, hn⟩ : ∃ n, xs.length = n + 1 := ⟨xs.length - 1, by omega⟩
  have := canon_pos hc hn
  have := pw_pos n
  omega

theorem limbs_small1 {n : Nat} (h : n < 4294967296) : limbs n = limbs (val [n]) := by simp [val]

set_option maxHeartbeats 1000000 in
theorem divide_any (w : World) {a b : Option Addr} {n m cap cap' : Nat} {xs ys : List Nat} (h : Rd .u32 w a n cap xs) (h' : Rd .u32 w b m cap' ys) (hn : n ≤ 50000) (hc : canon xs) (hc' : canon ys) (hm : 0 < m) :
    Calls Try.prog 88 #[.slice a n cap, .slice b m cap'] w (RetLL w (limbs (val xs / val ys)) (limbs (val xs % val ys))) := by
  obtain ⟨q, hq0⟩ : ∃ r, r = limbs (val xs / val ys) := ⟨_, rfl⟩
  obtain ⟨d, hd0⟩ : ∃ d, d = limbs (val xs % val ys) := ⟨_, rfl⟩
  rw [← hq0, ← hd0]
  have HQ := Lib.hid hq0
  have HD := Lib.hid hd0
  clear hq0 hd0
  have HL := Lib.hid h.len
  have HL' := Lib.hid h'.len
  have hpos := canon_val_pos hc' (by rw [HL'.out]; exact hm)
  have HP := Lib.hid hpos
  clear hpos
  go_enter Try.func88, Try.ntmps88
  go_wp2_with fail
  refine (order_any _ h h' hc hc').mono ?_
  rintro e w1 ⟨rfl, nq, rfl⟩
  have hbd := below_drewN (Below.refl w.heap.size w) nq
  have hd := h.below hbd
  have hd' := h'.below hbd
  by_cases hlt : val xs < val ys
  · have E1 := Lib.hid (show q = [] by rw [HQ.out, Nat.div_eq_of_lt hlt, limbs_zero])
    have E2 := Lib.hid (show d = xs by rw [HD.out, Nat.mod_eq_of_lt hlt, limbs_val h.bd hc])
    rw [ordC_lt hlt]
    go_wp2_with fail
    refine (Clone_any _ hd (by omega)).mono ?_
    rintro e w2 ⟨a2, m2, c2, rfl, hr2, hb2⟩
    go_wp2_with fail
    go_ret2
    rw [E1.out, E2.out]
    exact ⟨none, 0, 0, a2, m2, c2, rfl, Rd.nil _ _, hr2, hbd.trans hb2⟩
  · have ho : 0 ≤ ordC xs ys := by unfold ordC; rw [if_neg hlt]; split <;> omega
    have hle2 : m ≤ n := by
      have := len_le (xs := ys) (ys := xs) h.bd hc' (by omega)
      rw [HL.out, HL'.out] at this
      exact this
    by_cases h1 : m = 1
    · subst h1
      obtain ⟨p, o, rfl, hcy, _⟩ := hd'.cell 0 (by omega)
      rw [Nat.add_zero] at hcy
      have b1 := small32_nth (show small32 ys from h'.bd) 0
      have hvy := Lib.hid (show val ys = nth ys 0 by
        have := val_take_succ ys 0
        rw [List.take_of_length_le (by have := HL'.out; omega)] at this
        simpa [val, pw] using this)
      have hy0 : 0 < nth ys 0 := by have := HP.out; rw [hvy.out] at this; exact this
      go_wp2_with fail
      refine (small_any _ hd (by omega) _ hy0 b1).mono ?_
      rintro e w2 ⟨a2, m2, c2, rfl, hr2, hb2, _⟩
      have E1 := Lib.hid (show q = limbs (val xs / nth ys 0) by rw [HQ.out, hvy.out])
      have E2 := Lib.hid (show d = limbs (val [val xs % nth ys 0]) by rw [HD.out, hvy.out]; simp [val])
      have hlit := rd_lit .u32 w2 [val xs % nth ys 0] 56 1 rfl (by decide) (by
        intro x hx
        simp at hx
        subst hx
        show _ < 4294967296
        have := Nat.mod_lt (val xs) hy0
        omega)
      go_wp2_with fail
      refine (trim_any _ hlit).mono ?_
      rintro e w3 ⟨a3, m3, rfl, hr3, rfl⟩
      go_wp2_with fail
      go_ret2
      rw [E1.out, E2.out]
      exact ⟨a2, m2, c2, a3, m3, m3, rfl, hr2.below ((Below.refl _ _).alloc (Nat.le_refl _) _), hr3, (hbd.trans hb2).alloc (by have := hb2.size; simp at this; omega) _⟩
    · have h2 : 2 ≤ m := by omega
      go_wp2_with fail
      refine (long_any _ hd hd' h2 hle2 hn hc').mono ?_
      rintro e w2 ⟨a2, m2, c2, a3, m3, c3, rfl, hr2, hr3, hb2⟩
      go_wp2_with fail
      go_ret2
      rw [HQ.out, HD.out]
      exact ⟨a2, m2, c2, a3, m3, c3, rfl, hr2, hr3, hbd.trans hb2⟩

/-- Two new numbers and an error. -/
def RetNNE (w : World) (r : List Nat × List Nat × Int) : Ending → World → Prop := fun e w' =>
  ∃ a m c a' m' c', e = .returned (.tuple #[.slice a m c, .slice a' m' c', .int .i64 r.2.2]) ∧ Rd .u32 w' a m c r.1 ∧ Rd .u32 w' a' m' c' r.2.1 ∧ Below w.heap.size w w'

def divC (xs ys : List Nat) : List Nat × List Nat × Int :=
  if bothC xs ys = 0 then (if ys.length = 0 then ([], [], 40) else (limbs (val xs / val ys), limbs (val xs % val ys), 0)) else ([], [], bothC xs ys)

theorem Div_any (w : World) {a b : Option Addr} {n m cap cap' : Nat} {xs ys : List Nat} (h : Rd .u32 w a n cap xs) (h' : Rd .u32 w b m cap' ys) :
    Calls Try.prog 74 #[.slice a n cap, .slice b m cap'] w (RetNNE w (divC xs ys)) := by
  have hm := h'.lt
  obtain ⟨r, hr0⟩ : ∃ r, r = divC xs ys := ⟨_, rfl⟩
  rw [← hr0]
  have HR := Lib.hid hr0
  clear hr0
  go_enter Try.func74, Try.ntmps74
  go_wp2_with fail
  refine (both_any _ h h').mono ?_
  rintro e w1 ⟨rfl, rfl⟩
  by_cases hz : bothC xs ys = 0
  · obtain ⟨z1, z2⟩ := bothC_ok hz
    have l1 := (chk_ok.1 z1).1
    have c1 := (chk_ok.1 z1).2
    have c2 := (chk_ok.1 z2).2
    rw [h.len] at l1
    have HZ := Lib.hid hz
    rw [hz]
    clear hz z1 z2
    by_cases h0 : m = 0
    · have e1 := Lib.hid (show r = ([], [], 40) by rw [HR.out, divC, if_pos HZ.out, h'.len, if_pos h0])
      subst h0
      go_wp2_with fail
      go_ret3
      rw [e1.out]
      exact ⟨none, 0, 0, none, 0, 0, rfl, Rd.nil _ _, Rd.nil _ _, Below.refl _ _⟩
    · have e1 := Lib.hid (show r = (limbs (val xs / val ys), limbs (val xs % val ys), 0) by rw [HR.out, divC, if_pos HZ.out, h'.len, if_neg h0])
      have hb0 : ((m : Int) == 0) = false := by rw [beq_eq_false_iff_ne]; omega
      go_wp2_with fail
      refine (divide_any _ h h' (by omega) c1 c2 (by omega)).mono ?_
      rintro e w2 ⟨a2, m2, c2, a3, m3, c3, rfl, hr2, hr3, hb2⟩
      go_wp2_with fail
      go_ret3
      rw [e1.out]
      exact ⟨a2, m2, c2, a3, m3, c3, rfl, hr2, hr3, hb2⟩
  · have e1 := Lib.hid (show r = ([], [], bothC xs ys) by rw [HR.out, divC, if_neg hz])
    go_wp2_with fail
    go_ret3
    rw [e1.out]
    exact ⟨none, 0, 0, none, 0, 0, rfl, Rd.nil _ _, Rd.nil _ _, Below.refl _ _⟩

def gcdC (xs ys : List Nat) : List Nat × Int := if bothC xs ys = 0 then (limbs (Nat.gcd (val xs) (val ys)), 0) else ([], bothC xs ys)

set_option maxHeartbeats 1000000 in
theorem Gcd_any (w : World) {a b : Option Addr} {n m cap cap' : Nat} {xs ys : List Nat} (h : Rd .u32 w a n cap xs) (h' : Rd .u32 w b m cap' ys) :
    Calls Try.prog 72 #[.slice a n cap, .slice b m cap'] w (RetN w (gcdC xs ys)) := by
  obtain ⟨r, hr0⟩ : ∃ r, r = gcdC xs ys := ⟨_, rfl⟩
  rw [← hr0]
  have HR := Lib.hid hr0
  clear hr0
  go_enter Try.func72, Try.ntmps72
  go_wp2_with fail
  refine (both_any _ h h').mono ?_
  rintro e w1 ⟨rfl, rfl⟩
  by_cases hz : bothC xs ys = 0
  · obtain ⟨z1, z2⟩ := bothC_ok hz
    have l1 := (chk_ok.1 z1).1
    have l2 := (chk_ok.1 z2).1
    have c1 := (chk_ok.1 z1).2
    have c2 := (chk_ok.1 z2).2
    rw [h.len] at l1
    rw [h'.len] at l2
    have e1 := Lib.hid (show r = (limbs (Nat.gcd (val xs) (val ys)), 0) by rw [HR.out, gcdC, if_pos hz])
    rw [hz]
    clear hz z1 z2
    go_wp2_with fail
    refine (Clone_any _ h (by omega)).mono ?_
    rintro e w2 ⟨a2, n2, cc2, rfl, hr2, hb2⟩
    have hn2 : n2 = n := by rw [← hr2.len, h.len]
    subst hn2
    have h2' := h'.below hb2
    go_wp2_with fail
    go_loopg [0, 1] (val ys) (fun k s0 s1 wr => ∃ (a : Option Addr) (n cap : Nat) (us : List Nat) (b : Option Addr) (m cap' : Nat) (vs : List Nat), s0 = .slice a n cap ∧ s1 = .slice b m cap' ∧ Rd .u32 wr a n cap us ∧ Rd .u32 wr b m cap' vs ∧ n ≤ 96 ∧ m ≤ 96 ∧ canon us ∧ canon vs ∧
      Hid (Nat.gcd (val us) (val vs) = Nat.gcd (val xs) (val ys) ∧ val vs = k) ∧ Below w.heap.size w wr)
    case atStart => exact ⟨a2, n2, cc2, xs, b, m, cap', ys, rfl, rfl, hr2, h2', l1, l2, c1, c2, Lib.hid ⟨rfl, rfl⟩, hb2⟩
    case round =>
      obtain ⟨a3, n3, cap3, us, b3, m3, cap3', vs, rfl, rfl, hu, hv, l3, l4, c3, c4, hG, hb⟩ := hrel
      by_cases h0 : 0 < m3
      · have hvp := Lib.hid (canon_val_pos c4 (by rw [hv.len]; exact h0))
        go_wp2_with fail
        refine (divide_any _ hu hv (by omega) c3 c4 h0).mono ?_
        rintro e w4 ⟨a4, m4, c4', a5, m5, c5, rfl, hr4, hr5, hb4⟩
        have hz := hb.size
        have hlen5 : m5 ≤ 96 := by
          have := len_le (xs := limbs (val us % val vs)) (ys := vs) hv.bd (limbs_canon _) (by rw [val_limbs]; exact Nat.le_of_lt (Nat.mod_lt _ hvp.out))
          rw [hr5.len, hv.len] at this
          omega
        have hv4 := hv.below hb4
        have hbb := hb.trans (hb4.mono hz)
        have hGG := Lib.hid (show Nat.gcd (val vs) (val (limbs (val us % val vs))) = Nat.gcd (val xs) (val ys) ∧ val (limbs (val us % val vs)) = val us % val vs by
          rw [val_limbs, ← hG.out.1]
          refine ⟨?_, rfl⟩
          rw [Nat.gcd_comm (val us) (val vs), Nat.gcd_rec (val vs) (val us), Nat.gcd_comm])
        go_wp2_with fail
        go_roundg (val us % val vs)
        case measure => have := Nat.mod_lt (val us) hvp.out; have := hG.out.2; omega
        case rel => exact ⟨b3, m3, cap3', vs, a5, m5, c5, limbs (val us % val vs), rfl, rfl, hv4, hr5, l4, hlen5, c4, limbs_canon _, hGG, hbb⟩
      · obtain rfl : m3 = 0 := by omega
        obtain rfl : vs = [] := List.eq_nil_of_length_eq_zero hv.len
        have hg := hG.out.1
        simp only [val, Nat.gcd_zero_right] at hg
        have e2 := Lib.hid (show r = (us, 0) by rw [e1.out, ← hg, limbs_val hu.bd c3])
        have hz := hb.size
        clear hg
        go_wp2_with fail
        refine (Clone_any _ hu (by omega)).mono ?_
        rintro e w5 ⟨a5, n5, c5, rfl, hr5, hb5⟩
        go_wp2_with fail
        go_ret2
        rw [e2.out]
        exact ⟨a5, n5, c5, rfl, hr5, hb.trans (hb5.mono hz)⟩
  · have e1 := Lib.hid (show r = ([], bothC xs ys) by rw [HR.out, gcdC, if_neg hz])
    go_wp2_with fail
    go_ret2
    rw [e1.out]
    exact ⟨none, 0, 0, rfl, Rd.nil _ _, Below.refl _ _⟩

end Go.Proofs.Ytfcejgeckcoefaa
