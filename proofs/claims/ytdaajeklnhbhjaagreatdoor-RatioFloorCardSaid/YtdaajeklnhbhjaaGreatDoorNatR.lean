/- The document's answer: Check, Both, Trim, Same, Of, Word, less, Cmp, at, plus, Add, minus, Sub. No condition. -/
import Derived.Test.YtdaajeklnhbhjaaGreatDoorNatM
namespace Go.Proofs.YtdaajeklnhbhjaaGreatDoor
open Go.RowKit Go.Suf
set_option linter.unusedVariables false
set_option linter.unusedSimpArgs false

theorem refCheck_any (w : World) {a : Option Addr} {n cap : Nat} {xs : List Nat} (h : Rd .u32 w a n cap xs) :
    Calls Tryz.prog 93 #[.slice a n cap] w fun e w' => e = .returned (.int .i64 (chk xs)) ∧ w = w' := by
  have hn := h.lt
  have HL := Lib.hid h.len
  obtain ⟨r, hr0⟩ : ∃ r, r = chk xs := ⟨_, rfl⟩
  rw [← hr0]
  unfold chk at hr0
  rw [h.len] at hr0
  have HR := Lib.hid hr0
  clear hr0
  by_cases h1 : 96 < n
  · go_enter Tryz.func93, Tryz.ntmps93
    go_wp2_with fail
    go_ret
    exact ⟨by rw [HR.out, if_pos h1]; rfl, rfl⟩
  by_cases h2 : 0 < n
  · obtain ⟨b, off, rfl, hc, _⟩ := h.cell (n - 1) (by omega)
    have hi : ((n : Int) - 1) = ((n - 1 : Nat) : Int) := by omega
    by_cases h3 : nth xs (n - 1) = 0
    · have H3 := Lib.hid h3
      rw [h3] at hc
      clear h3
      go_enter Tryz.func93, Tryz.ntmps93
      go_wp2_with fail
      go_ret
      exact ⟨by rw [HR.out, if_neg h1, if_pos (by rw [last_nth (by rw [HL.out]; exact h2), HL.out, H3.out])]; rfl, rfl⟩
    · have h4 : ((nth xs (n - 1) : Int) == 0) = false := by rw [beq_eq_false_iff_ne]; omega
      go_enter Tryz.func93, Tryz.ntmps93
      go_wp2_with fail
      go_ret
      exact ⟨by rw [HR.out, if_neg h1, if_neg (by rw [last_nth (by rw [HL.out]; exact h2), HL.out]; simpa using h3)]; rfl, rfl⟩
  · obtain rfl : n = 0 := by omega
    obtain rfl : xs = [] := List.eq_nil_of_length_eq_zero HL.out
    go_enter Tryz.func93, Tryz.ntmps93
    go_wp2_with fail
    go_ret
    exact ⟨by rw [HR.out]; rfl, rfl⟩

theorem refBoth_any (w : World) {a b : Option Addr} {n m cap cap' : Nat} {xs ys : List Nat} (h : Rd .u32 w a n cap xs) (h' : Rd .u32 w b m cap' ys) :
    Calls Tryz.prog 67 #[.slice a n cap, .slice b m cap'] w fun e w' => e = .returned (.int .i64 (bothC xs ys)) ∧ w = w' := by
  obtain ⟨r, hr0⟩ : ∃ r, r = bothC xs ys := ⟨_, rfl⟩
  rw [← hr0]
  have HR := Lib.hid hr0
  clear hr0
  go_enter Tryz.func67, Tryz.ntmps67
  go_wp2_with fail
  refine (refCheck_any _ h).mono ?_
  rintro e w1 ⟨rfl, rfl⟩
  by_cases hz : chk xs = 0
  · have HZ := Lib.hid hz
    rw [hz]
    clear hz
    go_wp2_with fail
    refine (refCheck_any _ h').mono ?_
    rintro e w1 ⟨rfl, rfl⟩
    go_wp2_with fail
    go_ret
    exact ⟨by rw [HR.out, bothC, if_pos HZ.out]; rfl, rfl⟩
  · go_wp2_with fail
    go_ret
    exact ⟨by rw [HR.out, bothC, if_neg hz]; rfl, rfl⟩

/-- New limbs, in memory of the call's own. -/
def RetO (w : World) (r : List Nat) : Ending → World → Prop := fun e w' =>
  ∃ a m c, e = .returned (.slice a m c) ∧ Ow .u32 49 w.heap.size w' a m c r ∧ Below w.heap.size w w'

set_option maxHeartbeats 1000000 in
theorem refTrim_any (w : World) {a : Option Addr} {n cap : Nat} {xs : List Nat} (h : Rd .u32 w a n cap xs) (hn : n ≤ 1099511627776) :
    Calls Tryz.prog 49 #[.slice a n cap] w (RetO w (limbs (val xs))) := by
  have HL := Lib.hid h.len
  have hs := Lib.hid (show small32 xs from h.bd)
  obtain ⟨r, hr0⟩ : ∃ r, r = limbs (val xs) := ⟨_, rfl⟩
  rw [← hr0]
  have HR := Lib.hid hr0
  clear hr0
  go_enter Tryz.func49, Tryz.ntmps49
  go_wp2_with (at_builtin; refine wpList_app rfl _ _ 22 rfl etN w.heap.size rfl (World.ownsRow_made w #[] 0 (Nat.le_refl _) (by decide) rfl) rfl (by simpa using h.len) (h.sl.below ((Below.refl _ w).alloc (Nat.le_refl _) _)) (by unfold maxLen; omega) (by omega) (by simp) ?_; intro a1 c1 w1 hown hg hb)
  have ho : Ow .u32 49 w.heap.size w1 a1 n c1 xs := ⟨h.len, by simpa using hown, h.bd⟩
  have hbb := ((Below.refl _ w).alloc (Nat.le_refl _) (.cells #[] 49)).trans hb
  clear hown hg hb
  go_loop [3] (fun v => ∃ k, k ≤ n ∧ v = .slice a1 k c1 ∧ Hid (∀ i, k ≤ i → i < n → nth xs i = 0)) (fun v => match v with | .slice _ k _ => k | _ => 0)
  case atStart => exact ⟨n, Nat.le_refl _, by simp, Lib.hid fun i h1 h2 => by omega⟩
  case round =>
    obtain ⟨k, hk, rfl, hZ⟩ := hrel
    by_cases h0 : 0 < k
    · obtain ⟨j, rfl⟩ : ∃ j, k = j + 1 := ⟨k - 1, by omega⟩
      obtain ⟨g, rfl, hg1, hg2⟩ := ho.where (by omega)
      have hc := ho.at j (by omega)
      have hcap := ho.rd.le
      by_cases h3 : nth xs j = 0
      · have H3 := Lib.hid h3
        rw [h3] at hc
        clear h3
        go_wp2_with (with_reducible refine wpList_uptoA rfl _ _ _ rfl etN rfl rfl j (by omega) (by omega) (.inr ⟨g, 0, rfl⟩) ?_)
        go_round
        case rel => exact ⟨j, by omega, rfl, Lib.hid fun i h1 h2 => by
                      by_cases hij : i = j
                      · subst hij; exact H3.out
                      · exact hZ.out i (by omega) h2⟩
        case measure => simp
      · have h4 : ((nth xs j : Int) == 0) = false := by rw [beq_eq_false_iff_ne]; omega
        have HT := Lib.hid (take_limbs hs.out (k := j + 1) (by have := HL.out; omega) (fun i h1 h2 => hZ.out i h1 (by rw [← HL.out]; exact h2)) (.inr (by rw [Nat.add_sub_cancel]; exact h3)))
        clear h3
        go_wp2_with fail
        go_ret
        exact ⟨_, j + 1, c1, rfl, by rw [HR.out, HT.out]; exact ho.take (j + 1) hk, hbb⟩
    · obtain rfl : k = 0 := by omega
      have HT := Lib.hid (take_limbs hs.out (k := 0) (Nat.zero_le _) (fun i h1 h2 => hZ.out i h1 (by rw [← HL.out]; exact h2)) (.inl rfl))
      go_wp2_with fail
      go_ret
      exact ⟨a1, 0, c1, rfl, by rw [HR.out, HT.out]; exact ho.take 0 (Nat.zero_le _), hbb⟩

set_option maxHeartbeats 1000000 in
theorem refSame_any (w : World) {a b : Option Addr} {n m cap cap' : Nat} {xs ys : List Nat} (h : Rd .u32 w a n cap xs) (h' : Rd .u32 w b m cap' ys) :
    Calls Tryz.prog 62 #[.slice a n cap, .slice b m cap'] w (RetB w (sameN xs ys)) := by
  have hn := h.lt
  have hm := h'.lt
  have HL := Lib.hid h.len
  have HL' := Lib.hid h'.len
  obtain ⟨r, hr0⟩ : ∃ r, r = sameN xs ys := ⟨_, rfl⟩
  rw [← hr0]
  have HR := Lib.hid hr0
  clear hr0
  by_cases hne : n = m
  · subst hne
    go_enter Tryz.func62, Tryz.ntmps62
    go_wp2_with fail
    go_loopw [5] (fun i wr => ∃ (k : Nat) (nq : Nat), k ≤ n ∧ i = .int .i64 (k : Nat) ∧ wr = w.drewN nq ∧ Hid (xs.take k = ys.take k)) (fun i _ => n - (intOf i).toNat)
    case atStart => exact ⟨0, 0, Nat.zero_le _, rfl, rfl, Lib.hid rfl⟩
    case round =>
      obtain ⟨k, nq, hk, rfl, rfl, hD⟩ := hrel
      by_cases hlt : k < n
      · obtain ⟨p, off, rfl, hc, _⟩ := h.cell k hlt
        obtain ⟨p', off', rfl, hc', _⟩ := h'.cell k hlt
        by_cases he : nth xs k = nth ys k
        · have HE := Lib.hid (take_same (by have := HL.out; omega) (by have := HL'.out; omega) hD.out he)
          rw [he] at hc
          clear he
          go_wp2
          go_quiet (fail)
          go_wp2
          go_roundw
          case rel => exact ⟨k + 1, _, by omega, by go_num, rfl, HE⟩
          case measure => simp [intOf]; omega
        · have e1 := Lib.hid (show r = false by rw [HR.out]; exact sameN_false (fun e => he (by rw [e])))
          have hb : ((nth xs k : Int) != (nth ys k : Int)) = true := by rw [bne_iff_ne]; omega
          clear he
          go_wp2
          go_quiet (fail)
          go_wp2
          go_ret
          rw [e1.out]
          exact ⟨rfl, _, World.drewN_drewN _ _ _⟩
      · obtain rfl : k = n := by omega
        have e1 := Lib.hid (show r = true by
          have := hD.out
          rw [List.take_of_length_le (by have := HL.out; omega), List.take_of_length_le (by have := HL'.out; omega)] at this
          rw [HR.out]; exact sameN_true this)
        go_wp2
        go_ret
        rw [e1.out]
        exact ⟨rfl, nq, rfl⟩
  · have e1 := Lib.hid (show r = false by rw [HR.out]; exact sameN_false (fun e => hne (by rw [← HL.out, ← HL'.out, e])))
    have hb : ((n : Int) != (m : Int)) = true := by rw [bne_iff_ne]; omega
    go_enter Tryz.func62, Tryz.ntmps62
    go_wp2_with fail
    go_ret
    rw [e1.out]
    exact ⟨rfl, 0, rfl⟩

theorem at_any (w : World) {a : Option Addr} {n cap : Nat} {xs : List Nat} (h : Rd .u32 w a n cap xs) (i : Nat) (hi : i ≤ 9223372036854775807) :
    Calls Tryz.prog 106 #[.slice a n cap, .int .i64 (i : Nat)] w fun e w' => e = .returned (.int .u64 (nth xs i : Nat)) ∧ w = w' := by
  have hn := h.lt
  have HL := Lib.hid h.len
  by_cases hlt : i < n
  · obtain ⟨b, off, rfl, hc, _⟩ := h.cell i hlt
    have b1 := small32_nth (show small32 xs from h.bd) i
    go_enter Tryz.func106, Tryz.ntmps106
    go_wp2_with fail
    go_ret
    exact ⟨rfl, rfl⟩
  · have hz := Lib.hid (nth_out (xs := xs) (i := i) (by have := HL.out; omega))
    go_enter Tryz.func106, Tryz.ntmps106
    go_wp2_with fail
    go_ret
    exact ⟨by rw [hz.out]; rfl, rfl⟩

set_option maxHeartbeats 1000000 in
theorem plus_any (w : World) {a b : Option Addr} {n m cap cap' : Nat} {xs ys : List Nat} (h : Rd .u32 w a n cap xs) (h' : Rd .u32 w b m cap' ys) (hn : n ≤ 1000000) (hm : m ≤ 1000000) :
    Calls Tryz.prog 89 #[.slice a n cap, .slice b m cap'] w (RetO w (limbs (val xs + val ys))) := by
  have HL := Lib.hid h.len
  have HL' := Lib.hid h'.len
  obtain ⟨r, hr0⟩ : ∃ r, r = limbs (val xs + val ys) := ⟨_, rfl⟩
  rw [← hr0]
  have HR := Lib.hid hr0
  clear hr0
  go_enter Tryz.func89, Tryz.ntmps89
  go_wp2_with fail
  go_loopw [5, 6, 7] (fun v c i wr => ∃ (k cc : Nat) (d : Option Addr) (cp : Nat) (out : List Nat), k ≤ max n m + 1 ∧ (k = max n m + 1 → cc = 0) ∧ i = .int .i64 (k : Nat) ∧ c = .int .u64 (cc : Nat) ∧ cc ≤ 1 ∧ v = .slice d k cp ∧ Ow .u32 49 w.heap.size wr d k cp out ∧ Hid (SumA xs ys out k cc) ∧ Below w.heap.size w wr) (fun _ _ i _ => n + m + 2 - (intOf i).toNat)
  case atStart => exact ⟨0, 0, none, 0, [], Nat.zero_le _, fun _ => rfl, rfl, rfl, by decide, rfl, Ow.nil _ _ _ _, Lib.hid (SumA.start _ _), Below.refl _ _⟩
  case round =>
    obtain ⟨k, cc, d, cp, out, hk, hk0, rfl, rfl, hcc, rfl, ho, hS, hb⟩ := hrel
    have hrd := h.below hb
    have hrd' := h'.below hb
    have hz := hb.size
    have b1 := small32_nth (show small32 xs from h.bd) k
    have b2 := small32_nth (show small32 ys from h'.bd) k
    by_cases hgo : k < n ∨ k < m ∨ cc = 1
    · have hk2 : k ≤ max n m := by
        rcases Nat.lt_or_ge (max n m) k with h | h
        · have := hk0 (by omega)
          omega
        · exact h
      have hS2 := Lib.hid (hS.out.step (show small32 xs from h.bd) (show small32 ys from h'.bd))
      have hc2 := Lib.hid (show (nth xs k + nth ys k + cc) / 4294967296 ≤ 1 by omega)
      have hk3 := Lib.hid (show k + 1 = max n m + 1 → (nth xs k + nth ys k + cc) / 4294967296 = 0 from fun e => by
        rw [nth_out (by have := HL.out; omega), nth_out (by have := HL'.out; omega)]
        omega)
      have hv := Lib.hid (show ((nth xs k : Int) + (nth ys k : Int) + (cc : Int)) % 4294967296 = (((nth xs k + nth ys k + cc) % 4294967296 : Nat) : Int) by omega)
      have hw := Lib.hid (show ((nth xs k : Int) + (nth ys k : Int) + (cc : Int)) / 4294967296 = (((nth xs k + nth ys k + cc) / 4294967296 : Nat) : Int) by omega)
      have hcase : k < n ∨ (n ≤ k ∧ k < m) ∨ (n ≤ k ∧ m ≤ k ∧ 0 < cc) := by omega
      clear hgo hk0
      rcases hcase with hlt | ⟨hge, hlt⟩ | ⟨hge, hge2, hlt⟩
      all_goals
        go_wp2_with fail
        refine (at_any _ hrd k (by omega)).mono ?_
        rintro e w1 ⟨rfl, rfl⟩
        go_wp2_with fail
        refine (at_any _ hrd' k (by omega)).mono ?_
        rintro e w1 ⟨rfl, rfl⟩
        go_wp2_with (at_builtin; refine wpList_app rfl _ _ 22 rfl etN w.heap.size rfl (ho.own.alloc _) rfl rfl (sl_new wr _ 49 rfl) (by unfold maxLen; omega) (by omega) (by simp; omega) ?_; intro a' cap2 w' hown hg hbw)
        rw [hv.out] at hown
        have ho2 : Ow .u32 49 w.heap.size w' a' (k + 1) cap2 (out ++ [(nth xs k + nth ys k + cc) % 4294967296]) := ⟨by simp [ho.len], by rw [nums_append]; exact hown, hS2.out.small⟩
        have hbn := hb.trans (((Below.refl w.heap.size wr).alloc hz _).trans hbw)
        clear hown hg hbw ho
        go_roundw
        case rel => exact ⟨k + 1, _, a', cap2, _, by omega, hk3.out, by go_num, by rw [hw.out], hc2.out, rfl, ho2, hS2, hbn⟩
        case measure => simp [intOf]; omega
    · obtain rfl : cc = 0 := by omega
      have hge : n ≤ k := by omega
      have hge2 : m ≤ k := by omega
      have hv := Lib.hid (hS.out.done (by rw [HL.out]; exact hge) (by rw [HL'.out]; exact hge2))
      clear hgo hk0
      go_wp2_with fail
      refine (refTrim_any _ ho.rd (by omega)).mono ?_
      rintro e w1 ⟨a', m', c', rfl, ho', hb'⟩
      rw [hv.out, ← HR.out] at ho'
      go_wp2_with fail
      go_ret
      exact ⟨a', m', c', rfl, ho'.base_le hz, hb.trans (hb'.mono hz)⟩

theorem refAdd_any (w : World) {a b : Option Addr} {n m cap cap' : Nat} {xs ys : List Nat} (h : Rd .u32 w a n cap xs) (h' : Rd .u32 w b m cap' ys) :
    Calls Tryz.prog 60 #[.slice a n cap, .slice b m cap'] w (RetN w (addC xs ys)) := by
  obtain ⟨r, hr0⟩ : ∃ r, r = addC xs ys := ⟨_, rfl⟩
  rw [← hr0]
  have HR := Lib.hid hr0
  clear hr0
  go_enter Tryz.func60, Tryz.ntmps60
  go_wp2_with fail
  refine (refBoth_any _ h h').mono ?_
  rintro e w1 ⟨rfl, rfl⟩
  by_cases hz : bothC xs ys = 0
  · obtain ⟨z1, z2⟩ := bothC_ok hz
    have l1 := (chk_ok.1 z1).1
    have l2 := (chk_ok.1 z2).1
    rw [h.len] at l1
    rw [h'.len] at l2
    have HZ := Lib.hid hz
    rw [hz]
    clear hz z1 z2
    go_wp2_with fail
    refine (plus_any _ h h' (by omega) (by omega)).mono ?_
    rintro e w1 ⟨a', m', c', rfl, ho', hb'⟩
    have HL := Lib.hid ho'.len
    have hml := ho'.rd.lt
    by_cases hg : 96 < m'
    · have e1 := Lib.hid (show r = ([], 30) by rw [HR.out, addC, if_pos HZ.out, fitC, HL.out, if_pos hg])
      go_wp2_with fail
      go_ret2
      rw [e1.out]
      exact ⟨none, 0, 0, rfl, Rd.nil _ _, hb'⟩
    · have e1 := Lib.hid (show r = (limbs (val xs + val ys), 0) by rw [HR.out, addC, if_pos HZ.out, fitC, HL.out, if_neg hg])
      go_wp2_with fail
      go_ret2
      rw [e1.out]
      exact ⟨a', m', c', rfl, ho'.rd, hb'⟩
  · have e1 := Lib.hid (show r = ([], bothC xs ys) by rw [HR.out, addC, if_neg hz])
    go_wp2_with fail
    go_ret2
    rw [e1.out]
    exact ⟨none, 0, 0, rfl, Rd.nil _ _, Below.refl _ _⟩

set_option maxHeartbeats 1000000 in
theorem minus_any (w : World) {a b : Option Addr} {n m cap cap' : Nat} {xs ys : List Nat} (h : Rd .u32 w a n cap xs) (h' : Rd .u32 w b m cap' ys) (hn : n ≤ 1000000) (hm : m ≤ n) (hle : val ys ≤ val xs) :
    Calls Tryz.prog 92 #[.slice a n cap, .slice b m cap'] w (RetO w (limbs (val xs - val ys))) := by
  have HL := Lib.hid h.len
  have HL' := Lib.hid h'.len
  obtain ⟨r, hr0⟩ : ∃ r, r = limbs (val xs - val ys) := ⟨_, rfl⟩
  rw [← hr0]
  have HR := Lib.hid hr0
  have HLE := Lib.hid hle
  clear hr0 hle
  go_enter Tryz.func92, Tryz.ntmps92
  go_wp2_with fail
  go_loopw [5, 6, 7] (fun v c i wr => ∃ (k cc : Nat) (d : Option Addr) (cp : Nat) (out : List Nat), k ≤ n ∧ i = .int .i64 (k : Nat) ∧ c = .int .u64 (cc : Nat) ∧ cc ≤ 1 ∧ v = .slice d k cp ∧ Ow .u32 49 w.heap.size wr d k cp out ∧ Hid (DifA xs ys out k cc) ∧ Below w.heap.size w wr) (fun _ _ i _ => n - (intOf i).toNat)
  case atStart => exact ⟨0, 0, none, 0, [], Nat.zero_le _, rfl, rfl, by decide, rfl, Ow.nil _ _ _ _, Lib.hid (DifA.start _ _), Below.refl _ _⟩
  case round =>
    obtain ⟨k, cc, d, cp, out, hk, rfl, rfl, hcc, rfl, ho, hS, hb⟩ := hrel
    have hrd := h.below hb
    have hrd' := h'.below hb
    have hz := hb.size
    have b1 := small32_nth (show small32 xs from h.bd) k
    have b2 := small32_nth (show small32 ys from h'.bd) k
    by_cases hlt : k < n
    · have hS2 := Lib.hid (hS.out.step (show small32 xs from h.bd) (show small32 ys from h'.bd))
      have hv := Lib.hid (show ((nth xs k : Int) + 4294967296 - (nth ys k : Int) - (cc : Int)) % 4294967296 = ((subL (nth xs k) (nth ys k) cc : Nat) : Int) by unfold subL; omega)
      have hw := Lib.hid (show 1 - ((nth xs k : Int) + 4294967296 - (nth ys k : Int) - (cc : Int)) / 4294967296 = ((subB (nth xs k) (nth ys k) cc : Nat) : Int) by unfold subB; split <;> omega)
      have hc2 := Lib.hid (subB_le (nth xs k) (nth ys k) cc)
      go_wp2_with fail
      refine (at_any _ hrd k (by omega)).mono ?_
      rintro e w1 ⟨rfl, rfl⟩
      go_wp2_with fail
      refine (at_any _ hrd' k (by omega)).mono ?_
      rintro e w1 ⟨rfl, rfl⟩
      go_wp2_with (at_builtin; refine wpList_app rfl _ _ 22 rfl etN w.heap.size rfl (ho.own.alloc _) rfl rfl (sl_new wr _ 49 rfl) (by unfold maxLen; omega) (by omega) (by simp; omega) ?_; intro a' cap2 w' hown hg hbw)
      rw [hv.out] at hown
      have ho2 : Ow .u32 49 w.heap.size w' a' (k + 1) cap2 (out ++ [subL (nth xs k) (nth ys k) cc]) := ⟨by simp [ho.len], by rw [nums_append]; exact hown, hS2.out.small⟩
      have hbn := hb.trans (((Below.refl w.heap.size wr).alloc hz _).trans hbw)
      clear hown hg hbw ho
      go_roundw
      case rel => exact ⟨k + 1, _, a', cap2, _, by omega, by go_num, by rw [hw.out], hc2.out, rfl, ho2, hS2, hbn⟩
      case measure => simp [intOf]; omega
    · obtain rfl : k = n := by omega
      have hv := Lib.hid (hS.out.done HL.out (by rw [HL'.out]; exact hm) HLE.out)
      go_wp2_with fail
      refine (refTrim_any _ ho.rd (by omega)).mono ?_
      rintro e w1 ⟨a', m', c', rfl, ho', hb'⟩
      rw [hv.out, ← HR.out] at ho'
      go_wp2_with fail
      go_ret
      exact ⟨a', m', c', rfl, ho'.base_le hz, hb.trans (hb'.mono hz)⟩

def ltC (xs ys : List Nat) : Bool := decide (val xs < val ys)

set_option maxHeartbeats 1000000 in
theorem refless_any (w : World) {a b : Option Addr} {n m cap cap' : Nat} {xs ys : List Nat} (h : Rd .u32 w a n cap xs) (h' : Rd .u32 w b m cap' ys) (c1 : canon xs) (c2 : canon ys) :
    Calls Tryz.prog 90 #[.slice a n cap, .slice b m cap'] w (RetB w (ltC xs ys)) := by
  have hn := h.lt
  have hm := h'.lt
  have HL := Lib.hid h.len
  have HL' := Lib.hid h'.len
  obtain ⟨r, hr0⟩ : ∃ r, r = ltC xs ys := ⟨_, rfl⟩
  rw [← hr0]
  have HR := Lib.hid hr0
  clear hr0
  rcases Nat.lt_trichotomy n m with hlt | heq | hlt
  · have e1 := Lib.hid (show r = true by rw [HR.out]; simp only [ltC, decide_eq_true_eq]; exact len_lt h.bd c2 (by rw [HL.out, HL'.out]; exact hlt))
    have hb : ((n : Int) != (m : Int)) = true := by rw [bne_iff_ne]; omega
    go_enter Tryz.func90, Tryz.ntmps90
    go_wp2_with fail
    go_ret
    rw [e1.out]
    exact ⟨by first | (simp; done) | (simp; omega), 0, rfl⟩
  · subst heq
    go_enter Tryz.func90, Tryz.ntmps90
    go_wp2_with fail
    go_loopw [5] (fun i wr => ∃ (k : Nat) (nq : Nat), k ≤ n ∧ i = .int .i64 ((k : Int) - 1) ∧ wr = w.drewN nq ∧ Hid (xs.drop k = ys.drop k)) (fun i _ => (intOf i + 1).toNat)
    case atStart => exact ⟨n, 0, Nat.le_refl _, rfl, rfl, Lib.hid (by rw [List.drop_eq_nil_of_le (by have := HL.out; omega), List.drop_eq_nil_of_le (by have := HL'.out; omega)])⟩
    case round =>
      obtain ⟨k, nq, hk, hi, rfl, hD⟩ := hrel
      by_cases h0 : 0 < k
      · obtain ⟨j, rfl⟩ : ∃ j, k = j + 1 := ⟨k - 1, by omega⟩
        subst hi
        have hi2 : (((j + 1 : Nat) : Int) - 1) = (j : Int) := by omega
        rw [hi2]
        clear hi2
        obtain ⟨p, off, rfl, hc, _⟩ := h.cell j (by omega)
        obtain ⟨p', off', rfl, hc', _⟩ := h'.cell j (by omega)
        by_cases heq : nth xs j = nth ys j
        · have HE := Lib.hid (drop_same (by rw [HL.out, HL'.out]) (by have := HL.out; omega) hD.out heq)
          rw [heq] at hc
          clear heq
          go_wp2
          go_quiet (fail)
          go_wp2
          go_roundw
          case rel => exact ⟨j, _, by omega, by go_num, rfl, HE⟩
          case measure => simp [intOf]
        · have hb : ((nth xs j : Int) != (nth ys j : Int)) = true := by rw [bne_iff_ne]; omega
          have e1 := Lib.hid (show r = decide (nth xs j < nth ys j) by
            rw [HR.out, ltC, decide_eq_decide]
            rcases Nat.lt_or_ge (nth xs j) (nth ys j) with h1 | h1
            · have := top_lt h.bd (by rw [HL.out, HL'.out]) (by have := HL.out; omega) hD.out h1
              omega
            · have := top_lt h'.bd (by rw [HL.out, HL'.out]) (by have := HL'.out; omega) hD.out.symm (show nth ys j < nth xs j by omega)
              omega)
          clear heq
          go_wp2
          go_quiet (fail)
          go_wp2
          go_quiet (fail)
          go_wp2
          go_ret
          rw [e1.out]
          refine ⟨rfl, ?_⟩
          simp only [World.drewN_drewN]
          exact ⟨_, rfl⟩
      · obtain rfl : k = 0 := by omega
        subst hi
        have e1 := Lib.hid (show r = false by
          have hd := hD.out
          simp only [List.drop_zero] at hd
          rw [HR.out, ltC, decide_eq_false_iff_not, hd]; omega)
        go_wp2
        go_ret
        rw [e1.out]
        exact ⟨rfl, nq, rfl⟩
  · have e1 := Lib.hid (show r = false by
      rw [HR.out, ltC, decide_eq_false_iff_not]
      have := len_lt h'.bd c1 (by rw [HL.out, HL'.out]; exact hlt)
      omega)
    have hb : ((n : Int) != (m : Int)) = true := by rw [bne_iff_ne]; omega
    go_enter Tryz.func90, Tryz.ntmps90
    go_wp2_with fail
    go_ret
    rw [e1.out]
    exact ⟨by first | (simp; done) | (simp; omega), 0, rfl⟩

end Go.Proofs.YtdaajeklnhbhjaaGreatDoor
