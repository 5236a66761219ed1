/- The stage's theorem: the sum of the levels after each ballot. No program in sight. -/
import Derived.Test.YtkomdiblopdfiaaPolV
namespace Go.Proofs.Ytkomdiblopdfiaa
open Go.RowKit Go.Suf
set_option linter.unusedVariables false
set_option linter.unusedSimpArgs false

theorem rd_empty (w : World) (a : Addr) : Rd .u32 w (some a) 0 0 [] := ⟨rfl, Sl.empty _ _ 0 (Nat.zero_le _) (fun h => by simp at h), fun x hx => by simp at hx⟩

theorem newL_mono {q : PV} {L : Nat} {v u : Int} (hb : 1 ≤ q.bet ∧ q.bet ≤ 999) (hv : 0 ≤ v) (h : v ≤ u) : newL q v L ≤ newL q u L := by
  unfold newL timesN
  have hf : factN q.bet v ≤ factN q.bet u := by
    unfold factN
    have := Int.mul_le_mul_of_nonneg_left (show v - 1 ≤ u - 1 by omega) (show 0 ≤ q.bet by omega)
    omega
  have h2 := Nat.div_le_div_right (c := 1000) (Nat.mul_le_mul_left L hf)
  omega

theorem newL_up {q : PV} {L : Nat} (v : Int) : newL q v L * 1000 ≤ L * factN q.bet v := by
  unfold newL timesN
  exact Nat.le_trans (Nat.mul_le_mul_right _ (Nat.min_le_left _ _)) (Nat.div_mul_le_self _ _)

/-- The supermartingale: where the second and the third count are small enough, the sum is at most the fair one. -/
theorem super_sum {q : PV} {L : Nat} (hb : 1 ≤ q.bet ∧ q.bet ≤ 999) {a b c : Nat} (h : c ≤ a) : newL q 0 L * a + newL q 1 L * b + newL q 2 L * c ≤ L * (a + b + c) := by
  have u0 := newL_up (q := q) (L := L) 0
  have u1 := newL_up (q := q) (L := L) 1
  have u2 := newL_up (q := q) (L := L) 2
  obtain ⟨e, he⟩ : ∃ e : Nat, (e : Int) = q.bet := ⟨q.bet.toNat, by omega⟩
  have f0 : factN q.bet 0 = 1000 - e := by unfold factN; omega
  have f1 : factN q.bet 1 = 1000 := by unfold factN; omega
  have f2 : factN q.bet 2 = 1000 + e := by unfold factN; omega
  rw [f0] at u0
  rw [f1] at u1
  rw [f2] at u2
  have he2 : e ≤ 999 := by omega
  generalize newL q 0 L = x at *
  generalize newL q 1 L = y at *
  generalize newL q 2 L = z at *
  have k0 := Nat.mul_le_mul_right a u0
  have k1 := Nat.mul_le_mul_right b u1
  have k2 := Nat.mul_le_mul_right c u2
  have i1 : (1000 - e) * a + e * c ≤ 1000 * a := by
    have j1 : (1000 - e) * a + e * a = 1000 * a := by
      rw [← Nat.add_mul]
      congr 1
      omega
    have j2 : e * c ≤ e * a := Nat.mul_le_mul_left _ h
    omega
  have i2 : (1000 + e) * c = 1000 * c + e * c := Nat.add_mul _ _ _
  have i3 : (1000 - e) * a + 1000 * b + (1000 + e) * c ≤ 1000 * (a + b + c) := by
    rw [i2]
    omega
  have i4 := Nat.mul_le_mul_left L i3
  have t1 : (x * a + y * b + z * c) * 1000 = x * 1000 * a + y * 1000 * b + z * 1000 * c := by
    simp only [Nat.add_mul, Nat.mul_right_comm]
  have t2 : L * ((1000 - e) * a + 1000 * b + (1000 + e) * c) = L * (1000 - e) * a + L * 1000 * b + L * (1000 + e) * c := by
    rw [Nat.mul_add, Nat.mul_add, Nat.mul_assoc, Nat.mul_assoc, Nat.mul_assoc]
  have t3 : L * (a + b + c) * 1000 = L * (1000 * (a + b + c)) := by rw [Nat.mul_assoc, Nat.mul_comm (a + b + c)]
  refine Nat.le_of_mul_le_mul_right (c := 1000) ?_ (by decide)
  rw [t1, t3]
  rw [t2] at i4
  exact Nat.le_trans (Nat.add_le_add (Nat.add_le_add k0 k1) k2) i4

theorem newL_lt {q : PV} {v : Int} {L : Nat} : newL q v L < pw 5 := Nat.lt_of_le_of_lt (newL_le _ _ _) (by decide)

theorem obs_one {p : PV} {L B : Nat} (v : Vld p L B) {x : Int} (h1 : 0 ≤ x) (h2 : x ≤ 2) (h3 : seenAt p x ≠ 1000000) : obsC p [x] = (step p x, 0) := by
  have hs : seenAt p x ≤ 1000000 := by
    have s0 := v.s0
    have s1 := v.s1
    have s2 := v.s2
    unfold inS at s0 s1 s2
    unfold seenAt
    split
    · omega
    · split <;> omega
  refine obsC_some v.chk ?_
  show (obs1 p x).bind some = _
  rw [obs1_in (by omega)]
  rfl

theorem step_lev {p : PV} {L B : Nat} (v : Vld p L B) (x : Int) : (step p x).lev = limbs (newL p x L) := by
  show limbs (timesN (val p.lev) (factN p.bet x) 1000) = _
  rw [v.lev, val_limbs]
  rfl

theorem step_pw {p : PV} {L B : Nat} (v : Vld p L B) {x : Int} (h1 : 0 ≤ x) (h2 : x ≤ 2) (h3 : seenAt p x ≠ 1000000) : True := trivial

end Go.Proofs.Ytkomdiblopdfiaa
