/- The document's answer: Div. No condition. -/
import Derived.Test.YtdaajeklnhbhjaaGreatDoorNatS
namespace Go.Proofs.YtdaajeklnhbhjaaGreatDoor
open Go.RowKit Go.Suf
set_option linter.unusedVariables false
set_option linter.unusedSimpArgs false

structure Bdv (A V n k : Nat) (qs : List Nat) : Prop where
  len : qs.length = n
  eq : val qs = A / 2 ^ k / V * 2 ^ k

theorem Bdv.step0 {A V n t : Nat} {qs : List Nat} (h : Bdv A V n (t + 1) qs) (hV : 0 < V) (hlt : A / 2 ^ (t + 1) % V + A / 2 ^ (t + 1) % V + A / 2 ^ t % 2 < V) :
    Bdv A V n t qs ∧ A / 2 ^ t % V = A / 2 ^ (t + 1) % V + A / 2 ^ (t + 1) % V + A / 2 ^ t % 2 := by
  obtain ⟨e1, e2⟩ := bit_step (A := A) (i := t) hV
  rw [if_pos hlt] at e1 e2
  refine ⟨⟨h.len, ?_⟩, e1⟩
  rw [h.eq, e2]
  generalize A / 2 ^ (t + 1) / V = D
  rw [Nat.pow_succ, Nat.mul_comm (2 ^ t) 2, ← Nat.mul_assoc, Nat.mul_comm D 2, Nat.add_zero]

theorem Bdv.step1 {A V n t j s : Nat} {qs : List Nat} (h : Bdv A V n (t + 1) qs) (hq : small32 qs) (hV : 0 < V) (hts : t = 32 * j + s) (hs : s < 32) (hj : j < n) (hlt : ¬ A / 2 ^ (t + 1) % V + A / 2 ^ (t + 1) % V + A / 2 ^ t % 2 < V) :
    nth qs j + 2 ^ s < 4294967296 ∧ Bdv A V n t (qs.set j (nth qs j + 2 ^ s)) ∧ A / 2 ^ t % V = A / 2 ^ (t + 1) % V + A / 2 ^ (t + 1) % V + A / 2 ^ t % 2 - V := by
  obtain ⟨e1, e2⟩ := bit_step (A := A) (i := t) hV
  rw [if_neg hlt] at e1 e2
  have hl := h.len
  refine ⟨limb_mult (K := A / 2 ^ (t + 1) / V) hq (by omega) hs (by rw [h.eq, hts]), ⟨by simp [hl], ?_⟩, e1⟩
  have e := val_set (xs := qs) (i := j) (by omega) (nth qs j + 2 ^ s)
  have e3 : pw j * 2 ^ s = 2 ^ t := by rw [pw_two, ← two_pow_add, ← hts]
  rw [Nat.mul_add, e3, h.eq] at e
  have e4 : A / 2 ^ (t + 1) / V * 2 ^ (t + 1) = 2 * (A / 2 ^ (t + 1) / V) * 2 ^ t := by
    generalize A / 2 ^ (t + 1) / V = D
    rw [Nat.pow_succ, Nat.mul_comm (2 ^ t) 2, ← Nat.mul_assoc, Nat.mul_comm D 2]
  rw [e4] at e
  rw [e2, Nat.add_mul, Nat.one_mul]
  omega

set_option maxRecDepth 100000 in
set_option maxHeartbeats 4000000 in
theorem refDiv_any (w : World) {a b : Option Addr} {n m cap cap' : Nat} {xs ys : List Nat} (h : Rd .u32 w a n cap xs) (h' : Rd .u32 w b m cap' ys) :
    Calls Tryz.prog 59 #[.slice a n cap, .slice b m cap'] w (RetNNE w (divC xs ys)) := by
  have hm := h'.lt
  obtain ⟨r, hr0⟩ : ∃ r, r = divC xs ys := ⟨_, rfl⟩
  rw [← hr0]
  have HR := Lib.hid hr0
  clear hr0
  go_enter Tryz.func59, Tryz.ntmps59
  go_wp2_with fail
  refine (refBoth_any _ h h').mono ?_
  rintro e w1 ⟨rfl, rfl⟩
  by_cases hz : bothC xs ys = 0
  · obtain ⟨z1, z2⟩ := bothC_ok hz
    have l1 := (chk_ok.1 z1).1
    have l2 := (chk_ok.1 z2).1
    have c1 := (chk_ok.1 z1).2
    have c2 := (chk_ok.1 z2).2
    rw [h.len] at l1
    rw [h'.len] at l2
    have HZ := Lib.hid hz
    rw [hz]
    clear hz z1 z2
    by_cases h0 : m = 0
    · have e1 := Lib.hid (show r = ([], [], 40) by rw [HR.out, divC, if_pos HZ.out, h'.len, if_pos h0])
      subst h0
      go_wp2_with fail
      go_ret3
      rw [e1.out]
      exact ⟨none, 0, 0, none, 0, 0, rfl, Rd.nil _ _, Rd.nil _ _, Below.refl _ _⟩
    · have e1 := Lib.hid (show r = (limbs (val xs / val ys), limbs (val xs % val ys), 0) by rw [HR.out, divC, if_pos HZ.out, h'.len, if_neg h0])
      have hb0 : ((m : Int) == 0) = false := by rw [beq_eq_false_iff_ne]; omega
      have HL := Lib.hid h.len
      have HL' := Lib.hid h'.len
      have HV0 := Lib.hid (canon_val_pos c2 (by rw [HL'.out]; omega))
      have HA := Lib.hid (show val xs < pw n by have := val_lt' (show small32 xs from h.bd); rwa [HL.out] at this)
      have HVl := Lib.hid (show val ys < pw 96 by
        have := val_lt' (show small32 ys from h'.bd)
        rw [HL'.out] at this
        exact Nat.lt_of_lt_of_le this (pw_le l2))
      have mk : ∀ w, (Instr.makeSlice 22 (.int .i64 (n : Int)) (.int .i64 (n : Int))).run Tryz.prog w = .ok (.slice (some ⟨w.heap.size, 0, none⟩) n n) (w.alloc (.cells (zeros .u32 n) 49)) := fun w => run_zeros etN n (by omega) (by omega) w
      have HB0 := Blk.made .u32 49 w n
      have hz0 : val xs / 2 ^ (32 * n) = 0 := Nat.div_eq_of_lt (by rw [← pw_two]; exact HA.out)
      have hS0 := Lib.hid (show Bdv (val xs) (val ys) n (32 * n) (zs n) from ⟨zs_length n, by rw [hz0, val_zs]; simp⟩)
      have hr0 := Lib.hid (show limbs (val xs / 2 ^ (32 * n) % val ys) = [] by rw [hz0, Nat.zero_mod, limbs_zero])
      clear hz0
      go_wp2_with fail
      go_loopw [9, 10] (fun v i wr => ∃ (k : Nat) (ad : Option Addr) (p c : Nat) (qs : List Nat), k ≤ 32 * n ∧ i = .int .i64 ((k : Int) - 1) ∧ v = .slice ad p c ∧ Rd .u32 wr ad p c (limbs (val xs / 2 ^ k % val ys)) ∧ Blk .u32 49 wr w.heap.size qs ∧ Hid (Bdv (val xs) (val ys) n k qs) ∧ Below w.heap.size w wr) (fun _ i _ => (intOf i + 1).toNat)
      case atStart => exact ⟨32 * n, none, 0, 0, zs n, Nat.le_refl _, by go_num, rfl, by rw [hr0.out]; exact Rd.nil _ _, HB0, hS0, (Below.refl _ _).alloc (Nat.le_refl _) _⟩
      case round =>
        obtain ⟨k, ad, p, c, qs, hk, hi, rfl, hR, hB, hS, hb⟩ := hrel
        have hpl : p ≤ 96 := by
          have := limbs_len_le (Nat.lt_of_lt_of_le (Nat.mod_lt (val xs / 2 ^ k) HV0.out) (Nat.le_of_lt HVl.out))
          rwa [hR.len] at this
        by_cases h0 : 0 < k
        · obtain ⟨t, rfl⟩ : ∃ t, k = t + 1 := ⟨k - 1, by omega⟩
          subst hi
          have hi2 : (((t + 1 : Nat) : Int) - 1) = (t : Int) := by omega
          rw [hi2]
          clear hi2
          obtain ⟨j, hj⟩ : ∃ j, j = t / 32 := ⟨_, rfl⟩
          obtain ⟨s, hs⟩ : ∃ s, s = t % 32 := ⟨_, rfl⟩
          have hts := Lib.hid (show t = 32 * j + s by omega)
          have hs32 : s < 32 := by omega
          have hjn : j < n := by omega
          have hq1 : (t : Int) / 32 = (j : Int) := by omega
          have hq2 : (t : Int) % 32 = (s : Int) := by omega
          have hz := hb.size
          obtain ⟨r0, hr00⟩ : ∃ r, r = val xs / 2 ^ (t + 1) % val ys := ⟨_, rfl⟩
          rw [← hr00] at hR
          have HR0 := Lib.hid hr00
          have hbit := bit_at (s := s) (show small32 xs from h.bd) (show j < xs.length by rw [HL.out]; exact hjn) hs32
          rw [← hts.out] at hbit
          obtain ⟨bt, hbt⟩ : ∃ b, b = val xs / 2 ^ t % 2 := ⟨_, rfl⟩
          rw [← hbt] at hbit
          have HBT := Lib.hid hbt
          have hbt1 : bt < 2 := by omega
          obtain ⟨D, hD⟩ : ∃ D, D = nth xs j / 2 ^ s := ⟨_, rfl⟩
          have hDl : D < 4294967296 := by
            rw [hD]
            exact Nat.lt_of_le_of_lt (Nat.div_le_self _ _) (small32_nth (show small32 xs from h.bd) j)
          have hD2 : (nth xs j : Int) / 2 ^ s = (D : Int) := by
            rw [hD, Int.natCast_ediv, Int.natCast_pow]
            rfl
          rw [← hD] at hbit
          have hbi : (D : Int) % 2 = (bt : Int) := by omega
          clear hD
          obtain ⟨o1, o2, rfl, hcx, _⟩ := (h.below hb).cell j hjn
          clear hr00 hbt hbit hj hs
          go_wp2_with fail
          refine (plus_any _ hR hR (by omega) (by omega)).mono ?_
          rintro e w2 ⟨a2, p2, c2', rfl, ho2, hb2⟩
          rw [val_limbs] at ho2
          have hcx2 := cell_below hb2 hcx
          have hz2 := hb2.size
          have hb02 := hb.trans (hb2.mono hz)
          have hp2 : p2 ≤ 97 := by
            have h1 : r0 < pw 96 := by rw [HR0.out]; exact Nat.lt_of_lt_of_le (Nat.mod_lt _ HV0.out) (Nat.le_of_lt HVl.out)
            have := limbs_len_le (N := r0 + r0) (k := 97) (by rw [pw_succ]; omega)
            rwa [ho2.len] at this
          -- behind the doubling and the bit: R' = r0 + r0 + bt in memory
          have fin : ∀ (w3 : World) (a3 : Option Addr) (p3 c3 : Nat), Rd .u32 w3 a3 p3 c3 (limbs (r0 + r0 + bt)) → Below wr.heap.size wr w3 → p3 ≤ 97 ∧ Rd .u32 w3 b m cap' ys ∧ Blk .u32 49 w3 w.heap.size qs ∧ Below w.heap.size w w3 := by
            intro w3 a3 p3 c3 hR3 hb3
            have hb03 := hb.trans (hb3.mono hz)
            refine ⟨?_, h'.below hb03, hB.below hb3, hb03⟩
            have h1 : r0 < pw 96 := by rw [HR0.out]; exact Nat.lt_of_lt_of_le (Nat.mod_lt _ HV0.out) (Nat.le_of_lt HVl.out)
            have := limbs_len_le (N := r0 + r0 + bt) (k := 97) (by rw [pw_succ]; omega)
            rwa [hR3.len] at this
          have FIN := Lib.hid fin
          clear fin
          have hbi' := Lib.hid hbi
          clear hbi
          rcases (show bt = 0 ∨ bt = 1 by omega) with h00 | h11
          · have hbi2 : (D : Int) % 2 = 0 := by rw [hbi'.out, h00]; rfl
            have hR3 : Rd .u32 w2 a2 p2 c2' (limbs (r0 + r0 + bt)) := by rw [h00]; exact ho2.rd
            have H00 := Lib.hid h00
            obtain ⟨w3, rfl⟩ : ∃ W, W = w2 := ⟨w2, rfl⟩
            obtain ⟨a3, rfl⟩ : ∃ W, W = a2 := ⟨a2, rfl⟩
            obtain ⟨p3, rfl⟩ : ∃ W, W = p2 := ⟨p2, rfl⟩
            obtain ⟨c3, rfl⟩ : ∃ W, W = c2' := ⟨c2', rfl⟩
            have hb3' := hb2
            clear ho2 hb2 h00
            go_wp2_with fail
            obtain ⟨hp3, hv3, hB3, hb3⟩ := FIN.out w3 a3 p3 c3 hR3 hb3'
            clear hb3'
            refine (refless_any _ hR3 hv3 (limbs_canon _) c2).mono ?_
            rintro e w4 ⟨rfl, nq, rfl⟩
            have hb4 := below_drewN hb3 nq
            have hR4 := hR3.drewN nq
            have hv4 := hv3.drewN nq
            have hB4 := hB3.drewN nq
            by_cases hlt : r0 + r0 + bt < val ys
            · obtain ⟨s1, s2⟩ := hS.out.step0 HV0.out (by rw [← HR0.out, ← HBT.out]; exact hlt)
              rw [← HR0.out, ← HBT.out] at s2
              rw [ltC_true (by rw [val_limbs]; exact hlt)]
              have S1 := Lib.hid s1
              have S2 := Lib.hid s2
              clear s1 s2
              rw [← S2.out] at hR4
              go_wp2_with fail
              go_roundw
              case rel => exact ⟨t, a3, p3, c3, qs, by omega, rfl, rfl, hR4, hB4, S1, hb4⟩
              case measure => simp [intOf]
            · obtain ⟨s0, s1, s2⟩ := hS.out.step1 (show small32 qs from hB.bd) HV0.out hts.out hs32 hjn (by rw [← HR0.out, ← HBT.out]; exact hlt)
              rw [← HR0.out, ← HBT.out] at s2
              rw [ltC_false (by rw [val_limbs]; exact hlt)]
              have S1 := Lib.hid s1
              have S2 := Lib.hid s2
              have hz4 := hb4.size
              clear s1 s2
              go_wp2_with fail
              refine (minus_any _ hR4 hv4 (by omega) (by
                have := len_le (xs := ys) (ys := limbs (r0 + r0 + bt)) (limbs_small _) c2 (by rw [val_limbs]; omega)
                rwa [HL'.out, hR4.len] at this) (by rw [val_limbs]; omega)).mono ?_
              rintro e w5 ⟨a5, p5, c5, rfl, ho5, hb5⟩
              rw [val_limbs] at ho5
              have hap : 0 < p5 → ∀ q, a5 = some q → q.block ≠ w.heap.size := fun h0 q hq => by
                obtain ⟨g, e, hg1, _⟩ := ho5.where h0
                rw [e] at hq
                simp at hq
                subst hq
                have := hB4.lt
                show g ≠ w.heap.size
                omega
              have hR5 := ho5.rd
              rw [← S2.out] at hR5
              have hB5 := hB4.below hb5
              have hb6 := hb4.trans (hb5.mono hz4)
              have hcq := hB5.cell j (by have := hS.out.len; omega)
              have hfq := hB5.free j
              have hp31 : (2 : Int) ^ s = ((2 ^ s : Nat) : Int) := by rw [Int.natCast_pow]; rfl
              obtain ⟨T, hT⟩ : ∃ T, T = 2 ^ s := ⟨_, rfl⟩
              have hTl : T ≤ 2147483648 := by rw [hT]; exact pow_le31 (by omega)
              rw [← hT] at hp31 s0
              have hq0 : nth qs j < 4294967296 := by omega
              have HB6 := Lib.hid (hB5.set j (nth qs j + T) s0)
              have hB7 := Lib.hid (hb6.setCell (p := ⟨w.heap.size, j, none⟩) (Nat.le_refl _) (.int .u32 ((nth qs j + T : Nat) : Int)))
              have HR6 := Lib.hid (hR5.other (grownBy_set w5 ⟨w.heap.size, j, none⟩ (.int .u32 ((nth qs j + T : Nat) : Int))) hap)
              rw [← hT] at S1
              clear hT hap
              go_wp2_with fail
              go_roundw
              case rel => exact ⟨t, a5, p5, c5, _, by omega, rfl, rfl, HR6.out, HB6.out, S1, hB7.out⟩
              case measure => simp [intOf]
          · have hbi2 : (D : Int) % 2 = 1 := by rw [hbi'.out, h11]; rfl
            have H11 := Lib.hid h11
            have hlit := rd_lit .u32 w2 [1] 49 1 rfl (by decide) (by decide)
            have hR2 := ho2.rd.below ((Below.refl _ w2).alloc (Nat.le_refl _) (.cells #[.int .u32 1] 49))
            clear h11
            go_wp2_with fail
            refine (plus_any _ hR2 hlit (by omega) (by omega)).mono ?_
            rintro e w3 ⟨a3, p3, c3, rfl, ho3, hb3''⟩
            rw [val_limbs] at ho3
            have hR3 : Rd .u32 w3 a3 p3 c3 (limbs (r0 + r0 + bt)) := by rw [H11.out]; exact ho3.rd
            have hb3' : Below wr.heap.size wr w3 := hb2.trans (((Below.refl _ w2).alloc (Nat.le_refl _) _ |>.trans (hb3''.mono (by simp))).mono hz2)
            clear ho3 hb3'' hR2 hlit ho2
            go_wp2_with fail
            obtain ⟨hp3, hv3, hB3, hb3⟩ := FIN.out w3 a3 p3 c3 hR3 hb3'
            clear hb3'
            refine (refless_any _ hR3 hv3 (limbs_canon _) c2).mono ?_
            rintro e w4 ⟨rfl, nq, rfl⟩
            have hb4 := below_drewN hb3 nq
            have hR4 := hR3.drewN nq
            have hv4 := hv3.drewN nq
            have hB4 := hB3.drewN nq
            by_cases hlt : r0 + r0 + bt < val ys
            · obtain ⟨s1, s2⟩ := hS.out.step0 HV0.out (by rw [← HR0.out, ← HBT.out]; exact hlt)
              rw [← HR0.out, ← HBT.out] at s2
              rw [ltC_true (by rw [val_limbs]; exact hlt)]
              have S1 := Lib.hid s1
              have S2 := Lib.hid s2
              clear s1 s2
              rw [← S2.out] at hR4
              go_wp2_with fail
              go_roundw
              case rel => exact ⟨t, a3, p3, c3, qs, by omega, rfl, rfl, hR4, hB4, S1, hb4⟩
              case measure => simp [intOf]
            · obtain ⟨s0, s1, s2⟩ := hS.out.step1 (show small32 qs from hB.bd) HV0.out hts.out hs32 hjn (by rw [← HR0.out, ← HBT.out]; exact hlt)
              rw [← HR0.out, ← HBT.out] at s2
              rw [ltC_false (by rw [val_limbs]; exact hlt)]
              have S1 := Lib.hid s1
              have S2 := Lib.hid s2
              have hz4 := hb4.size
              clear s1 s2
              go_wp2_with fail
              refine (minus_any _ hR4 hv4 (by omega) (by
                have := len_le (xs := ys) (ys := limbs (r0 + r0 + bt)) (limbs_small _) c2 (by rw [val_limbs]; omega)
                rwa [HL'.out, hR4.len] at this) (by rw [val_limbs]; omega)).mono ?_
              rintro e w5 ⟨a5, p5, c5, rfl, ho5, hb5⟩
              rw [val_limbs] at ho5
              have hap : 0 < p5 → ∀ q, a5 = some q → q.block ≠ w.heap.size := fun h0 q hq => by
                obtain ⟨g, e, hg1, _⟩ := ho5.where h0
                rw [e] at hq
                simp at hq
                subst hq
                have := hB4.lt
                show g ≠ w.heap.size
                omega
              have hR5 := ho5.rd
              rw [← S2.out] at hR5
              have hB5 := hB4.below hb5
              have hb6 := hb4.trans (hb5.mono hz4)
              have hcq := hB5.cell j (by have := hS.out.len; omega)
              have hfq := hB5.free j
              have hp31 : (2 : Int) ^ s = ((2 ^ s : Nat) : Int) := by rw [Int.natCast_pow]; rfl
              obtain ⟨T, hT⟩ : ∃ T, T = 2 ^ s := ⟨_, rfl⟩
              have hTl : T ≤ 2147483648 := by rw [hT]; exact pow_le31 (by omega)
              rw [← hT] at hp31 s0
              have hq0 : nth qs j < 4294967296 := by omega
              have HB6 := Lib.hid (hB5.set j (nth qs j + T) s0)
              have hB7 := Lib.hid (hb6.setCell (p := ⟨w.heap.size, j, none⟩) (Nat.le_refl _) (.int .u32 ((nth qs j + T : Nat) : Int)))
              have HR6 := Lib.hid (hR5.other (grownBy_set w5 ⟨w.heap.size, j, none⟩ (.int .u32 ((nth qs j + T : Nat) : Int))) hap)
              rw [← hT] at S1
              clear hT hap
              go_wp2_with fail
              go_roundw
              case rel => exact ⟨t, a5, p5, c5, _, by omega, rfl, rfl, HR6.out, HB6.out, S1, hB7.out⟩
              case measure => simp [intOf]
        · obtain rfl : k = 0 := by omega
          subst hi
          have hRq := hB.rd n hS.out.len (by unfold maxLen; omega)
          have e2 := Lib.hid (show r = (limbs (val qs), limbs (val xs / 2 ^ 0 % val ys), 0) by
            rw [e1.out, hS.out.eq]
            simp)
          have hz := hb.size
          go_wp2_with fail
          refine (refTrim_any _ hRq (by omega)).mono ?_
          rintro e w6 ⟨a6, p6, c6, rfl, ho6, hb6⟩
          have hR6 := hR.below hb6
          go_wp2_with fail
          go_ret3
          rw [e2.out]
          exact ⟨a6, p6, c6, ad, p, c, rfl, ho6.rd, hR6, hb.trans (hb6.mono hz)⟩
  · have e1 := Lib.hid (show r = ([], [], bothC xs ys) by rw [HR.out, divC, if_neg hz])
    go_wp2_with fail
    go_ret3
    rw [e1.out]
    exact ⟨none, 0, 0, none, 0, 0, rfl, Rd.nil _ _, Rd.nil _ _, Below.refl _ _⟩

end Go.Proofs.YtdaajeklnhbhjaaGreatDoor
