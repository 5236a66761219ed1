/- long. No condition. -/
import Derived.Test.YtdaajeklnhbhjaaDoorNatH
import Derived.Deep.LoopGhost
namespace Go.Proofs.YtdaajeklnhbhjaaDoor
open Go.RowKit Go.Suf
set_option linter.unusedVariables false
set_option linter.unusedSimpArgs false

/-- Two new numbers. -/
def RetLL (w : World) (q r : List Nat) : Ending → World → Prop := fun e w' =>
  ∃ a m c a' m' c', e = .returned (.tuple #[.slice a m c, .slice a' m' c']) ∧ Rd .u32 w' a m c q ∧ Rd .u32 w' a' m' c' r ∧ Below w.heap.size w w'

/-- The quotient's loop: what it keeps. -/
structure Lng (X V k : Nat) (us qs : List Nat) : Prop where
  lt : val us < pw k * V
  eq : X = val us + V * (pw k * val (qs.drop k))

theorem long_start {x y s n k : Nat} (hx : x < pw n) (hs : s ≤ 2147483648) (hV : pw k * 2147483648 ≤ y * s) (hk : k ≤ n) : x * s < pw (n - k) * (y * s) := by
  have a : x * s < pw n * 2147483648 := by
    have h1 : x * s ≤ x * 2147483648 := Nat.mul_le_mul_left x hs
    have h2 : x * 2147483648 < pw n * 2147483648 := Nat.mul_lt_mul_of_pos_right hx (by decide)
    omega
  have b := Nat.mul_le_mul_left (pw (n - k)) hV
  rw [← Nat.mul_assoc, ← pw_add, show n - k + k = n by omega] at b
  omega

set_option maxRecDepth 100000 in
set_option maxHeartbeats 4000000 in
theorem long_any (w : World) {a b : Option Addr} {n m cap cap' : Nat} {xs ys : List Nat} (h : Rd .u32 w a n cap xs) (h' : Rd .u32 w b m cap' ys) (hm : 2 ≤ m) (hmn : m ≤ n) (hn : n ≤ 50000) (hc : canon ys) :
    Calls Tryd.prog 62 #[.slice a n cap, .slice b m cap'] w (RetLL w (limbs (val xs / val ys)) (limbs (val xs % val ys))) := by
  obtain ⟨q, hq0⟩ : ∃ r, r = limbs (val xs / val ys) := ⟨_, rfl⟩
  obtain ⟨d, hd0⟩ : ∃ d, d = limbs (val xs % val ys) := ⟨_, rfl⟩
  rw [← hq0, ← hd0]
  have HQ := Lib.hid hq0
  have HD := Lib.hid hd0
  clear hq0 hd0
  obtain ⟨k, rfl⟩ : ∃ k, m = k + 1 := ⟨m - 1, by omega⟩
  have HL := Lib.hid h.len
  have HL' := Lib.hid h'.len
  have hy0 : nth ys k ≠ 0 := by
    intro e
    apply hc
    rw [last_nth (by rw [HL'.out]; omega), HL'.out, Nat.add_sub_cancel, e]
  have hy1 := small32_nth (show small32 ys from h'.bd) k
  obtain ⟨p, o, rfl, hcy, _⟩ := h'.cell k (by omega)
  go_enter Tryd.func62, Tryd.ntmps62
  go_wp2_with fail
  refine (LeadingZeros32_any _ _ (by omega) hy1).mono ?_
  rintro e w0 ⟨r, hr, rfl, hn1, hn2, rfl⟩
  have hsB : 4294967296 = 2 ^ r * 2 ^ (32 - r) := by rw [← Nat.pow_add, show r + (32 - r) = 32 by omega]
  obtain ⟨N1, N2⟩ := norm (show small32 ys from h'.bd) HL'.out hsB hn1 hn2
  have HN1 := Lib.hid N1
  have HN2 := Lib.hid N2
  have HSB := Lib.hid hsB
  clear N1 N2 hsB hn1 hn2 hy0 hy1
  go_wp2_with fail
  refine (shifted_any _ h (by omega) r hr).mono ?_
  rintro e w1 ⟨us0, rfl, hul0, hBu0, hvu0, hb1⟩
  have hz1 := hb1.size
  have hgu := hBu0.lt
  have HU0 := Lib.hid hvu0
  have HUL0 := Lib.hid hul0
  clear hvu0 hul0
  go_wp2_with fail
  refine (shifted_any _ (h'.below hb1) (by omega) r hr).mono ?_
  rintro e w2 ⟨vs0, rfl, hvl0, hBv0, hvv0, hb2⟩
  have hz2 := hb2.size
  have hgv := hBv0.lt
  have HV0 := Lib.hid hvv0
  have hRv0 := hBv0.rd (k + 1 + 1) hvl0 (by unfold maxLen; omega)
  clear hvv0 hvl0
  go_wp2_with fail
  refine (trim_at _ hRv0).mono ?_
  rintro e w2' ⟨m', rfl, hRv, hm', rfl⟩
  rw [HV0.out] at hRv
  have hlv := limbs_len (N := val ys * 2 ^ r) (k := k) (by have := HN1.out; omega) HN2.out
  obtain rfl : m' = k + 1 := by rw [← hRv.len, hlv]
  have hVt := Lib.hid (top_ge (limbs_small _) hlv (by rw [val_limbs]; exact HN1.out))
  have hVl := Lib.hid hlv
  clear hlv hm'
  have hgne : w1.heap.size ≠ w.heap.size := by omega
  have mk : ∀ w, (Instr.makeSlice 22 (.int .i64 ((n : Int) + 1 - ((k : Int) + 1))) (.int .i64 ((n : Int) + 1 - ((k : Int) + 1)))).run Tryd.prog w = .ok (.slice (some ⟨w.heap.size, 0, none⟩) (n - k) (n - k)) (w.alloc (.cells (zeros .u32 (n - k)) 47)) := fun w => by
    have := run_zeros etN (n - k) (by omega) (by omega) w
    rwa [show ((n - k : Nat) : Int) = (n : Int) + 1 - ((k : Int) + 1) by omega] at this
  have mk2 : ∀ w, (Instr.makeSlice 22 (.int .i64 ((n : Int) - (k : Int))) (.int .i64 ((n : Int) - (k : Int)))).run Tryd.prog w = .ok (.slice (some ⟨w.heap.size, 0, none⟩) (n - k) (n - k)) (w.alloc (.cells (zeros .u32 (n - k)) 47)) := fun w => by
    have := run_zeros etN (n - k) (by omega) (by omega) w
    rwa [show ((n - k : Nat) : Int) = (n : Int) - (k : Int) by omega] at this
  have HBq0 := Blk.made .u32 47 w2 (n - k)
  have hb2' := hb1.trans (hb2.mono hz1)
  have hA : Below w.heap.size w (w2.alloc (.cells (zeros .u32 (n - k)) 47)) := hb2'.alloc (by omega) _
  have hBu1 := (hBu0.below hb2).alloc (.cells (zeros .u32 (n - k)) 47)
  have hRv1 := hRv.below ((Below.refl _ w2).alloc (Nat.le_refl _) (.cells (zeros .u32 (n - k)) 47))
  have hS0 := Lib.hid (show Lng (val xs * 2 ^ r) (val ys * 2 ^ r) (n - k) us0 (zs (n - k)) from ⟨by
    rw [HU0.out]
    have := long_start (n := n) (k := k) (x := val xs) (by have := val_lt' (show small32 xs from h.bd); rwa [HL.out] at this) (pow_le31 hr) HN1.out (by omega)
    exact this, by rw [HU0.out, List.drop_eq_nil_of_le (by rw [zs_length]; exact Nat.le_refl _)]; simp [val]⟩)
  have hul := HUL0.out
  clear HU0 HUL0 HV0 hBv0 hRv0 hRv hBu0 hb2'
  go_wp2_with fail
  go_loopw [10] (fun i wr => ∃ (j : Nat) (us qs : List Nat), j ≤ n - k ∧ i = .int .i64 ((j : Int) - 1) ∧ us.length = n + 1 ∧ qs.length = n - k ∧ Blk .u32 47 wr w.heap.size us ∧ Blk .u32 47 wr w2.heap.size qs ∧
    Rd .u32 wr (some ⟨w1.heap.size, 0, none⟩) (k + 1) (k + 1) (limbs (val ys * 2 ^ r)) ∧ Hid (Lng (val xs * 2 ^ r) (val ys * 2 ^ r) j us qs) ∧ Below w.heap.size w wr) (fun i _ => (intOf i + 1).toNat)
  case atStart => exact ⟨n - k, us0, zs (n - k), Nat.le_refl _, rfl, hul, zs_length _, hBu1, HBq0, hRv1, hS0, hA⟩
  case round =>
    obtain ⟨j, us, qs, hj, hi, hul, hql, hBu, hBq, hRv, hS, hb⟩ := hrel
    by_cases h0 : 0 < j
    · obtain ⟨t, rfl⟩ : ∃ t, j = t + 1 := ⟨j - 1, by omega⟩
      subst hi
      have hi2 : (((t + 1 : Nat) : Int) - 1) = (t : Int) := by omega
      rw [hi2]
      clear hi2
      obtain ⟨P1, P2, P3⟩ := long_part (us := us) (j := t) (m := k + 1) (V := val ys * 2 ^ r) (by omega) hS.out.lt (Nat.le_of_lt HN2.out)
      have HP1 := Lib.hid P1
      have HP3 := Lib.hid P3
      have hRu := hBu.rd (n + 1) hul (by unfold maxLen; omega)
      have hpart : Rd .u32 wr (some ⟨w.heap.size, t, none⟩) (k + 1 + 1) (k + 1 + 1) ((us.take (t + (k + 1) + 1)).drop t) := by
        have := hRu.part t (t + (k + 1) + 1) (t + (k + 1) + 1) (by omega) (by omega) (Nat.le_refl _) (by omega) t (fun _ => by omega)
        rwa [show t + (k + 1) + 1 - t = k + 1 + 1 by omega] at this
      have HPlt := Lib.hid P2
      have hV0 := Lib.hid (show 0 < val ys * 2 ^ r by
        rcases Nat.eq_zero_or_pos (val ys * 2 ^ r) with h | h
        · rw [h] at P2; omega
        · exact h)
      have HUL := Lib.hid hul
      have HQL := Lib.hid hql
      clear P1 P2 P3 hul hql
      go_wp2_with (with_reducible refine wpList_part3A rfl _ _ _ _ _ rfl etN rfl rfl rfl rfl t (t + (k + 1) + 1) (t + (k + 1) + 1) (k + 1 + 1) (k + 1 + 1) rfl (by omega) (by omega) (by omega) (Nat.le_refl _) (by omega) (by omega) (by omega) (by omega) ?_)
      refine (guess_any _ hpart hRv rfl (by omega) (by omega) (by rw [Nat.add_sub_cancel]; exact hVt.out) (by rw [val_limbs]; exact HPlt.out)).mono ?_
      rintro e w3 ⟨q1, rfl, hq1, hg1, hg2, nq, rfl⟩
      rw [val_limbs] at hg1 hg2
      have HG1 := Lib.hid hg1
      have HG2 := Lib.hid hg2
      clear hg1 hg2
      have hBu3 := hBu.drewN nq
      have hBq3 := hBq.drewN nq
      have hRv3 := hRv.below (below_drewN (Below.refl _ _) nq)
      have hb3 := below_drewN hb nq
      have hap : 0 < k + 1 → ∀ p, (some ⟨w1.heap.size, 0, none⟩ : Option Addr) = some p → p.block ≠ w.heap.size := fun _ p hp => by
        simp at hp
        subst hp
        exact hgne
      have hsz := hBq.lt
      have htl : t < n - k := by omega
      go_wp2_with fail
      refine (takes_any _ hBu3 (by have := HUL.out; omega) hRv3 hap (by omega) (by have := HUL.out; omega) q1 hq1).mono ?_
      rintro e w4 ⟨bb, hbb, rfl, us4, hul4, hBu4, hv4, hd4, hg4⟩
      rw [val_limbs] at hv4
      have hBq4 := hBq3.grown hg4 (by simp; omega)
      have hRv4 := hRv3.other hg4 hap
      have hb4 : Below w.heap.size w w4 := hb3.grown hg4 hb3.size (fun q hq => by have := Option.some.inj hq; omega)
      have hz4 : wr.heap.size ≤ w4.heap.size := hg4.size
      have htop4 := val_top (k := t + (k + 1) + 1) (show small32 us4 from hBu4.bd) (by have := HUL.out; omega) (by rw [hd4]; exact HP3.out)
      have hLt : val (us.take t) < pw t := by
        have := val_lt' (small32_take (show small32 us from hBu.bd) t)
        rwa [List.length_take, Nat.min_eq_left (by have := HUL.out; omega)] at this
      have hdig := long_digit (n := k + 1) HP1.out hLt hV0.out HG1.out HG2.out (Nat.le_of_lt HN2.out) hv4 hbb htop4
      have HST := Lib.hid (fun (U' : Nat) (e : U' = val (us.take t) + pw t * (val ((us.take (t + (k + 1) + 1)).drop t) % (val ys * 2 ^ r))) => long_step (X := val xs * 2 ^ r) HP1.out hS.out.eq hLt hV0.out e)
      have HDG := Lib.hid hdig
      have HV4 := Lib.hid hv4
      have HUL4 := Lib.hid (hul4.trans HUL.out)
      have HD4 := Lib.hid hd4
      clear hdig hv4 hul4 hd4 hg4 hLt htop4 hBu3 hBq3 hRv3 hb3 hBu hBq hRv hRu hpart
      have hfq := hBq4.free t
      have hcq := hBq4.cell t (by have := HQL.out; omega)
      by_cases h1 : bb = 0
      · subst h1
        obtain ⟨e1, e2⟩ := HDG.out.1 rfl
        obtain ⟨e3, e4⟩ := HST.out _ e2
        have HE3 := Lib.hid e3
        have HE4 := Lib.hid e4
        have HE1 := Lib.hid e1
        clear e1 e2 e3 e4
        have HBq5 := Lib.hid (hBq4.set t q1 hq1)
        have hBu5 := Lib.hid (hBu4.other (p := ⟨w2.heap.size, t, none⟩) (by show w.heap.size ≠ w2.heap.size; omega) (.int .u32 (q1 : Nat)))
        have hb5 := Lib.hid (hb4.setCell (p := ⟨w2.heap.size, t, none⟩) (by show w.heap.size ≤ w2.heap.size; omega) (.int .u32 (q1 : Nat)))
        have hRv5 := Lib.hid (hRv4.other (grownBy_set w4 ⟨w2.heap.size, t, none⟩ (.int .u32 (q1 : Nat))) (fun _ p hp => by simp at hp; subst hp; show w1.heap.size ≠ w2.heap.size; omega))
        clear hBu4 hRv4 hb4
        go_wp2_with fail
        go_roundw
        case rel => exact ⟨t, us4, _, by omega, by go_num, HUL4.out, by have := HQL.out; simp [this], hBu5.out, HBq5.out, hRv5.out, Lib.hid ⟨HE3.out, by rw [set_drop (by have := HQL.out; omega), val, HE1.out]; exact HE4.out⟩, hb5.out⟩
        case measure => simp [intOf]
      · obtain rfl : bb = 1 := by omega
        obtain ⟨e0, e1, e2⟩ := HDG.out.2 rfl
        obtain ⟨q2, rfl⟩ : ∃ q, q1 = q + 1 := ⟨q1 - 1, by omega⟩
        rw [Nat.add_sub_cancel] at e1
        have HE1 := Lib.hid e1
        have HE2 := Lib.hid e2
        clear e1 e2 e0
        go_wp2_with fail
        refine (back_any _ hBu4 (by have := HUL4.out; omega) hRv4 hap (by omega) (by have := HUL4.out; omega)).mono ?_
        rintro e w5 ⟨rfl, us5, b5, hul5, hBu5, hv5, hd5, hg5⟩
        rw [val_limbs] at hv5
        have htop5 := val_top (k := t + (k + 1) + 1) (show small32 us5 from hBu5.bd) (by have := HUL4.out; omega) (by rw [hd5, HD4.out]; exact HP3.out)
        obtain ⟨e3, e4⟩ := HST.out _ (HE2.out _ _ hv5 htop5)
        have HE3 := Lib.hid e3
        have HE4 := Lib.hid e4
        have hBq5 := hBq4.grown hg5 (by simp; omega)
        have hRv5 := hRv4.other hg5 hap
        have hb5 : Below w.heap.size w w5 := hb4.grown hg5 hb4.size (fun q hq => by have := Option.some.inj hq; omega)
        have HUL5 := Lib.hid (hul5.trans HUL4.out)
        clear e3 e4 hv5 hd5 hul5 htop5 hg5 hfq hcq
        have hfq := hBq5.free t
        have hcq := hBq5.cell t (by have := HQL.out; omega)
        have HBq6 := Lib.hid (hBq5.set t q2 (by show q2 < 4294967296; omega))
        have hBu6 := Lib.hid (hBu5.other (p := ⟨w2.heap.size, t, none⟩) (by show w.heap.size ≠ w2.heap.size; omega) (.int .u32 (q2 : Nat)))
        have hb6 := Lib.hid (hb5.setCell (p := ⟨w2.heap.size, t, none⟩) (by show w.heap.size ≤ w2.heap.size; omega) (.int .u32 (q2 : Nat)))
        have hRv6 := Lib.hid (hRv5.other (grownBy_set w5 ⟨w2.heap.size, t, none⟩ (.int .u32 (q2 : Nat))) (fun _ p hp => by simp at hp; subst hp; show w1.heap.size ≠ w2.heap.size; omega))
        clear hBu5 hRv5 hb5
        go_wp2_with fail
        go_roundw
        case rel => exact ⟨t, us5, _, by omega, by go_num, HUL5.out, by have := HQL.out; simp [this], hBu6.out, HBq6.out, hRv6.out, Lib.hid ⟨HE3.out, by rw [set_drop (by have := HQL.out; omega), val, HE1.out]; exact HE4.out⟩, hb6.out⟩
        case measure => simp [intOf]
    · obtain rfl : j = 0 := by omega
      subst hi
      have mk3 : ∀ w, (Instr.makeSlice 22 (.int .i64 ((k : Int) + 1)) (.int .i64 ((k : Int) + 1))).run Tryd.prog w = .ok (.slice (some ⟨w.heap.size, 0, none⟩) (k + 1) (k + 1)) (w.alloc (.cells (zeros .u32 (k + 1)) 47)) := fun w => run_zeros etN (k + 1) (by omega) (by omega) w
      have HBr0 := Blk.made .u32 47 wr (k + 1)
      have hlt0 := hS.out.lt
      have heq0 := hS.out.eq
      rw [pw_zero, Nat.one_mul] at hlt0
      rw [pw_zero, Nat.one_mul, List.drop_zero] at heq0
      obtain ⟨f1, f2⟩ := long_done (Nat.pow_pos (by decide)) heq0 hlt0
      have F1 := Lib.hid f1
      have F2 := Lib.hid f2
      have hun : val us < pw (k + 1) := Nat.lt_trans hlt0 HN2.out
      have HUZ := Lib.hid (show nth us (k + 1) = 0 by
        have s1 := val_split us (k + 1) (by omega)
        have s2 : val (us.drop (k + 1)) = 0 := by
          rcases Nat.eq_zero_or_pos (val (us.drop (k + 1))) with h | h
          · exact h
          · have := Nat.le_mul_of_pos_right (pw (k + 1)) h
            omega
        rw [drop_nth (by omega), val] at s2
        omega)
      have HUT := Lib.hid (take_low (m := k + 2) (Nat.lt_of_lt_of_le hun (pw_le (by omega))))
      clear f1 f2 hlt0 heq0 hun hRv
      have HUL := Lib.hid hul
      have HQL := Lib.hid hql
      have hBu1 := hBu.alloc (.cells (zeros .u32 (k + 1)) 47)
      have hBq1 := hBq.alloc (.cells (zeros .u32 (k + 1)) 47)
      have hb1' : Below w.heap.size w (wr.alloc (.cells (zeros .u32 (k + 1)) 47)) := hb.alloc hb.size _
      have hur := hBu.lt
      have hqr := hBq.lt
      clear hul hql hBu hBq hb
      obtain ⟨W3, rfl⟩ : ∃ W, W = wr := ⟨wr, rfl⟩
      go_wp2_with fail
      go_loopw [74] (fun i wz => ∃ (j : Nat) (rs : List Nat), j ≤ k + 1 ∧ i = .int .i64 (j : Nat) ∧ Blk .u32 47 wz w.heap.size us ∧ Blk .u32 47 wz w2.heap.size qs ∧ Blk .u32 47 wz W3.heap.size rs ∧ Hid (rs.length = k + 1) ∧
        Hid (∀ i, i < j → nth rs i = (nth us (i + 1) * 4294967296 + nth us i) / 2 ^ r % 4294967296) ∧ Below w.heap.size w wz) (fun i _ => k + 1 - (intOf i).toNat)
      case atStart => exact ⟨0, zs (k + 1), Nat.zero_le _, rfl, hBu1, hBq1, HBr0, Lib.hid (zs_length _), Lib.hid (fun i hi => by omega), hb1'⟩
      case round =>
        obtain ⟨j, rs, hj, rfl, hBu, hBq, hBr, hrl, hrs, hb⟩ := hrel
        by_cases hlt : j < k + 1
        · have c1 := hBu.cell j (by have := HUL.out; omega)
          have c2 := hBu.cell (j + 1) (by have := HUL.out; omega)
          have c3 := hBr.cell j (by have := hrl.out; omega)
          have f3 := hBr.free j
          have b1 := small32_nth (show small32 us from hBu.bd) (j + 1)
          have b2 := small32_nth (show small32 us from hBu.bd) j
          have ho := shlor32 b1 b2
          obtain ⟨S, hS⟩ : ∃ S, S = nth us (j + 1) * 4294967296 + nth us j := ⟨_, rfl⟩
          rw [← hS] at ho
          have hSl : S < 18446744073709551616 := by omega
          have HS := Lib.hid hS
          clear hS
          have hv : ((S : Int) / 2 ^ r) % 4294967296 = ((S / 2 ^ r % 4294967296 : Nat) : Int) := by
            rw [Int.natCast_emod, Int.natCast_ediv, Int.natCast_pow]
            rfl
          have HBr2 : Hid (Blk .u32 47 (wr.setCell ⟨W3.heap.size, j, none⟩ (.int .u32 (((S : Int) / 2 ^ r) % 4294967296))) W3.heap.size (rs.set j (S / 2 ^ r % 4294967296))) := by
            rw [hv]
            exact Lib.hid (hBr.set j _ (Nat.mod_lt _ (by decide)))
          have HBu2 := Lib.hid (hBu.other (p := ⟨W3.heap.size, j, none⟩) (by show w.heap.size ≠ W3.heap.size; omega) (.int .u32 (((S : Int) / 2 ^ r) % 4294967296)))
          have HBq2 := Lib.hid (hBq.other (p := ⟨W3.heap.size, j, none⟩) (by show w2.heap.size ≠ W3.heap.size; omega) (.int .u32 (((S : Int) / 2 ^ r) % 4294967296)))
          have HB2 := Lib.hid (hb.setCell (p := ⟨W3.heap.size, j, none⟩) (by show w.heap.size ≤ W3.heap.size; omega) (.int .u32 (((S : Int) / 2 ^ r) % 4294967296)))
          have hrs2 := Lib.hid (show ∀ i, i < j + 1 → nth (rs.set j (S / 2 ^ r % 4294967296)) i = (nth us (i + 1) * 4294967296 + nth us i) / 2 ^ r % 4294967296 by
            intro i hi
            by_cases e : j = i
            · subst e
              rw [nth_set_same (by have := hrl.out; omega), HS.out]
            · rw [nth_set_ne e]
              exact hrs.out i (by omega))
          clear hv
          go_wp2_with fail
          go_region
          go_wp2
          go_roundw
          case rel => exact ⟨j + 1, _, by omega, by go_num, ⟨HBu2.out.blk, HBu2.out.bd⟩, ⟨HBq2.out.blk, HBq2.out.bd⟩, ⟨HBr2.out.blk, HBr2.out.bd⟩, Lib.hid (by have := hrl.out; simp [this]), hrs2, HB2.out.drew⟩
          case measure => simp [intOf]; omega
        · obtain rfl : j = k + 1 := by omega
          have hsv := shr_val HSB.out (us.take (k + 2)) rs (by rw [List.length_take, hrl.out]; have := HUL.out; omega) (small32_take (show small32 us from hBu.bd) _) (by rw [hrl.out, nth_take _ (by omega)]; exact HUZ.out) (by
            rw [hrl.out]
            intro i hi
            rw [nth_take _ (by omega), nth_take _ (by omega)]
            exact hrs.out i hi)
          rw [HUT.out] at hsv
          have hRq := hBq.rd (n - k) HQL.out (by unfold maxLen; omega)
          have hRr := hBr.rd (k + 1) hrl.out (by unfold maxLen; omega)
          have E1 := Lib.hid (show q = limbs (val qs) by rw [HQ.out, F1.out])
          have E2 := Lib.hid (show d = limbs (val rs) by rw [HD.out, hsv, F2.out])
          clear hsv
          go_wp2_with fail
          refine (trim_any _ hRq).mono ?_
          rintro e w5 ⟨a5, m5, rfl, hr5, rfl⟩
          go_wp2_with fail
          refine (trim_any _ hRr).mono ?_
          rintro e w6 ⟨a6, m6, rfl, hr6, rfl⟩
          go_wp2_with fail
          go_ret2
          rw [E1.out, E2.out]
          exact ⟨a5, m5, m5, a6, m6, m6, rfl, hr5, hr6, hb⟩

end Go.Proofs.YtdaajeklnhbhjaaDoor
/- divide, Div, Gcd. No condition. -/
namespace Go.Proofs.YtdaajeklnhbhjaaDoor
open Go.RowKit Go.Suf
set_option linter.unusedVariables false
set_option linter.unusedSimpArgs false

theorem canon_len_pos {xs : List Nat} (h : 0 < val xs) : 0 < xs.length := by
  cases xs with
  | nil => simp [val] at h
  | cons x xs => simp

theorem canon_val_pos {xs : List Nat} (hc : canon xs) (h : 0 < xs.length) : 0 < val xs := by
  obtain ⟨n, hn⟩ : ∃ n, xs.length = n + 1 := ⟨xs.length - 1, by omega⟩
  have := canon_pos hc hn
  have := pw_pos n
  omega

theorem limbs_small1 {n : Nat} (h : n < 4294967296) : limbs n = limbs (val [n]) := by simp [val]

set_option maxHeartbeats 1000000 in
theorem divide_any (w : World) {a b : Option Addr} {n m cap cap' : Nat} {xs ys : List Nat} (h : Rd .u32 w a n cap xs) (h' : Rd .u32 w b m cap' ys) (hn : n ≤ 50000) (hc : canon xs) (hc' : canon ys) (hm : 0 < m) :
    Calls Tryd.prog 48 #[.slice a n cap, .slice b m cap'] w (RetLL w (limbs (val xs / val ys)) (limbs (val xs % val ys))) := by
  obtain ⟨q, hq0⟩ : ∃ r, r = limbs (val xs / val ys) := ⟨_, rfl⟩
  obtain ⟨d, hd0⟩ : ∃ d, d = limbs (val xs % val ys) := ⟨_, rfl⟩
  rw [← hq0, ← hd0]
  have HQ := Lib.hid hq0
  have HD := Lib.hid hd0
  clear hq0 hd0
  have HL := Lib.hid h.len
  have HL' := Lib.hid h'.len
  have hpos := canon_val_pos hc' (by rw [HL'.out]; exact hm)
  have HP := Lib.hid hpos
  clear hpos
  go_enter Tryd.func48, Tryd.ntmps48
  go_wp2_with fail
  refine (order_any _ h h' hc hc').mono ?_
  rintro e w1 ⟨rfl, nq, rfl⟩
  have hbd := below_drewN (Below.refl w.heap.size w) nq
  have hd := h.below hbd
  have hd' := h'.below hbd
  by_cases hlt : val xs < val ys
  · have E1 := Lib.hid (show q = [] by rw [HQ.out, Nat.div_eq_of_lt hlt, limbs_zero])
    have E2 := Lib.hid (show d = xs by rw [HD.out, Nat.mod_eq_of_lt hlt, limbs_val h.bd hc])
    rw [ordC_lt hlt]
    go_wp2_with fail
    refine (Clone_any _ hd (by omega)).mono ?_
    rintro e w2 ⟨a2, m2, c2, rfl, hr2, hb2⟩
    go_wp2_with fail
    go_ret2
    rw [E1.out, E2.out]
    exact ⟨none, 0, 0, a2, m2, c2, rfl, Rd.nil _ _, hr2, hbd.trans hb2⟩
  · have ho : 0 ≤ ordC xs ys := by unfold ordC; rw [if_neg hlt]; split <;> omega
    have hle2 : m ≤ n := by
      have := len_le (xs := ys) (ys := xs) h.bd hc' (by omega)
      rw [HL.out, HL'.out] at this
      exact this
    by_cases h1 : m = 1
    · subst h1
      obtain ⟨p, o, rfl, hcy, _⟩ := hd'.cell 0 (by omega)
      rw [Nat.add_zero] at hcy
      have b1 := small32_nth (show small32 ys from h'.bd) 0
      have hvy := Lib.hid (show val ys = nth ys 0 by
        have := val_take_succ ys 0
        rw [List.take_of_length_le (by have := HL'.out; omega)] at this
        simpa [val, pw] using this)
      have hy0 : 0 < nth ys 0 := by have := HP.out; rw [hvy.out] at this; exact this
      go_wp2_with fail
      refine (small_any _ hd (by omega) _ hy0 b1).mono ?_
      rintro e w2 ⟨a2, m2, c2, rfl, hr2, hb2, _⟩
      have E1 := Lib.hid (show q = limbs (val xs / nth ys 0) by rw [HQ.out, hvy.out])
      have E2 := Lib.hid (show d = limbs (val [val xs % nth ys 0]) by rw [HD.out, hvy.out]; simp [val])
      have hlit := rd_lit .u32 w2 [val xs % nth ys 0] 47 1 rfl (by decide) (by
        intro x hx
        simp at hx
        subst hx
        show _ < 4294967296
        have := Nat.mod_lt (val xs) hy0
        omega)
      go_wp2_with fail
      refine (trim_any _ hlit).mono ?_
      rintro e w3 ⟨a3, m3, rfl, hr3, rfl⟩
      go_wp2_with fail
      go_ret2
      rw [E1.out, E2.out]
      exact ⟨a2, m2, c2, a3, m3, m3, rfl, hr2.below ((Below.refl _ _).alloc (Nat.le_refl _) _), hr3, (hbd.trans hb2).alloc (by have := hb2.size; simp at this; omega) _⟩
    · have h2 : 2 ≤ m := by omega
      go_wp2_with fail
      refine (long_any _ hd hd' h2 hle2 hn hc').mono ?_
      rintro e w2 ⟨a2, m2, c2, a3, m3, c3, rfl, hr2, hr3, hb2⟩
      go_wp2_with fail
      go_ret2
      rw [HQ.out, HD.out]
      exact ⟨a2, m2, c2, a3, m3, c3, rfl, hr2, hr3, hbd.trans hb2⟩

/-- Two new numbers and an error. -/
def RetNNE (w : World) (r : List Nat × List Nat × Int) : Ending → World → Prop := fun e w' =>
  ∃ a m c a' m' c', e = .returned (.tuple #[.slice a m c, .slice a' m' c', .int .i64 r.2.2]) ∧ Rd .u32 w' a m c r.1 ∧ Rd .u32 w' a' m' c' r.2.1 ∧ Below w.heap.size w w'

def divC (xs ys : List Nat) : List Nat × List Nat × Int :=
  if bothC xs ys = 0 then (if ys.length = 0 then ([], [], 40) else (limbs (val xs / val ys), limbs (val xs % val ys), 0)) else ([], [], bothC xs ys)

theorem Div_any (w : World) {a b : Option Addr} {n m cap cap' : Nat} {xs ys : List Nat} (h : Rd .u32 w a n cap xs) (h' : Rd .u32 w b m cap' ys) :
    Calls Tryd.prog 30 #[.slice a n cap, .slice b m cap'] w (RetNNE w (divC xs ys)) := by
  have hm := h'.lt
  obtain ⟨r, hr0⟩ : ∃ r, r = divC xs ys := ⟨_, rfl⟩
  rw [← hr0]
  have HR := Lib.hid hr0
  clear hr0
  go_enter Tryd.func30, Tryd.ntmps30
  go_wp2_with fail
  refine (both_any _ h h').mono ?_
  rintro e w1 ⟨rfl, rfl⟩
  by_cases hz : bothC xs ys = 0
  · obtain ⟨z1, z2⟩ := bothC_ok hz
    have l1 := (chk_ok.1 z1).1
    have c1 := (chk_ok.1 z1).2
    have c2 := (chk_ok.1 z2).2
    rw [h.len] at l1
    have HZ := Lib.hid hz
    rw [hz]
    clear hz z1 z2
    by_cases h0 : m = 0
    · have e1 := Lib.hid (show r = ([], [], 40) by rw [HR.out, divC, if_pos HZ.out, h'.len, if_pos h0])
      subst h0
      go_wp2_with fail
      go_ret3
      rw [e1.out]
      exact ⟨none, 0, 0, none, 0, 0, rfl, Rd.nil _ _, Rd.nil _ _, Below.refl _ _⟩
    · have e1 := Lib.hid (show r = (limbs (val xs / val ys), limbs (val xs % val ys), 0) by rw [HR.out, divC, if_pos HZ.out, h'.len, if_neg h0])
      have hb0 : ((m : Int) == 0) = false := by rw [beq_eq_false_iff_ne]; omega
      go_wp2_with fail
      refine (divide_any _ h h' (by omega) c1 c2 (by omega)).mono ?_
      rintro e w2 ⟨a2, m2, c2, a3, m3, c3, rfl, hr2, hr3, hb2⟩
      go_wp2_with fail
      go_ret3
      rw [e1.out]
      exact ⟨a2, m2, c2, a3, m3, c3, rfl, hr2, hr3, hb2⟩
  · have e1 := Lib.hid (show r = ([], [], bothC xs ys) by rw [HR.out, divC, if_neg hz])
    go_wp2_with fail
    go_ret3
    rw [e1.out]
    exact ⟨none, 0, 0, none, 0, 0, rfl, Rd.nil _ _, Rd.nil _ _, Below.refl _ _⟩

def gcdC (xs ys : List Nat) : List Nat × Int := if bothC xs ys = 0 then (limbs (Nat.gcd (val xs) (val ys)), 0) else ([], bothC xs ys)

set_option maxHeartbeats 1000000 in
theorem Gcd_any (w : World) {a b : Option Addr} {n m cap cap' : Nat} {xs ys : List Nat} (h : Rd .u32 w a n cap xs) (h' : Rd .u32 w b m cap' ys) :
    Calls Tryd.prog 27 #[.slice a n cap, .slice b m cap'] w (RetN w (gcdC xs ys)) := by
  obtain ⟨r, hr0⟩ : ∃ r, r = gcdC xs ys := ⟨_, rfl⟩
  rw [← hr0]
  have HR := Lib.hid hr0
  clear hr0
  go_enter Tryd.func27, Tryd.ntmps27
  go_wp2_with fail
  refine (both_any _ h h').mono ?_
  rintro e w1 ⟨rfl, rfl⟩
  by_cases hz : bothC xs ys = 0
  · obtain ⟨z1, z2⟩ := bothC_ok hz
    have l1 := (chk_ok.1 z1).1
    have l2 := (chk_ok.1 z2).1
    have c1 := (chk_ok.1 z1).2
    have c2 := (chk_ok.1 z2).2
    rw [h.len] at l1
    rw [h'.len] at l2
    have e1 := Lib.hid (show r = (limbs (Nat.gcd (val xs) (val ys)), 0) by rw [HR.out, gcdC, if_pos hz])
    rw [hz]
    clear hz z1 z2
    go_wp2_with fail
    refine (Clone_any _ h (by omega)).mono ?_
    rintro e w2 ⟨a2, n2, cc2, rfl, hr2, hb2⟩
    have hn2 : n2 = n := by rw [← hr2.len, h.len]
    subst hn2
    have h2' := h'.below hb2
    go_wp2_with fail
    go_loopg [0, 1] (val ys) (fun k s0 s1 wr => ∃ (a : Option Addr) (n cap : Nat) (us : List Nat) (b : Option Addr) (m cap' : Nat) (vs : List Nat), s0 = .slice a n cap ∧ s1 = .slice b m cap' ∧ Rd .u32 wr a n cap us ∧ Rd .u32 wr b m cap' vs ∧ n ≤ 96 ∧ m ≤ 96 ∧ canon us ∧ canon vs ∧
      Hid (Nat.gcd (val us) (val vs) = Nat.gcd (val xs) (val ys) ∧ val vs = k) ∧ Below w.heap.size w wr)
    case atStart => exact ⟨a2, n2, cc2, xs, b, m, cap', ys, rfl, rfl, hr2, h2', l1, l2, c1, c2, Lib.hid ⟨rfl, rfl⟩, hb2⟩
    case round =>
      obtain ⟨a3, n3, cap3, us, b3, m3, cap3', vs, rfl, rfl, hu, hv, l3, l4, c3, c4, hG, hb⟩ := hrel
      by_cases h0 : 0 < m3
      · have hvp := Lib.hid (canon_val_pos c4 (by rw [hv.len]; exact h0))
        go_wp2_with fail
        refine (divide_any _ hu hv (by omega) c3 c4 h0).mono ?_
        rintro e w4 ⟨a4, m4, c4', a5, m5, c5, rfl, hr4, hr5, hb4⟩
        have hz := hb.size
        have hlen5 : m5 ≤ 96 := by
          have := len_le (xs := limbs (val us % val vs)) (ys := vs) hv.bd (limbs_canon _) (by rw [val_limbs]; exact Nat.le_of_lt (Nat.mod_lt _ hvp.out))
          rw [hr5.len, hv.len] at this
          omega
        have hv4 := hv.below hb4
        have hbb := hb.trans (hb4.mono hz)
        have hGG := Lib.hid (show Nat.gcd (val vs) (val (limbs (val us % val vs))) = Nat.gcd (val xs) (val ys) ∧ val (limbs (val us % val vs)) = val us % val vs by
          rw [val_limbs, ← hG.out.1]
          refine ⟨?_, rfl⟩
          rw [Nat.gcd_comm (val us) (val vs), Nat.gcd_rec (val vs) (val us), Nat.gcd_comm])
        go_wp2_with fail
        go_roundg (val us % val vs)
        case measure => have := Nat.mod_lt (val us) hvp.out; have := hG.out.2; omega
        case rel => exact ⟨b3, m3, cap3', vs, a5, m5, c5, limbs (val us % val vs), rfl, rfl, hv4, hr5, l4, hlen5, c4, limbs_canon _, hGG, hbb⟩
      · obtain rfl : m3 = 0 := by omega
        obtain rfl : vs = [] := List.eq_nil_of_length_eq_zero hv.len
        have hg := hG.out.1
        simp only [val, Nat.gcd_zero_right] at hg
        have e2 := Lib.hid (show r = (us, 0) by rw [e1.out, ← hg, limbs_val hu.bd c3])
        have hz := hb.size
        clear hg
        go_wp2_with fail
        refine (Clone_any _ hu (by omega)).mono ?_
        rintro e w5 ⟨a5, n5, c5, rfl, hr5, hb5⟩
        go_wp2_with fail
        go_ret2
        rw [e2.out]
        exact ⟨a5, n5, c5, rfl, hr5, hb.trans (hb5.mono hz)⟩
  · have e1 := Lib.hid (show r = ([], bothC xs ys) by rw [HR.out, gcdC, if_neg hz])
    go_wp2_with fail
    go_ret2
    rw [e1.out]
    exact ⟨none, 0, 0, rfl, Rd.nil _ _, Below.refl _ _⟩

end Go.Proofs.YtdaajeklnhbhjaaDoor
