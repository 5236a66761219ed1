/- The document's answer: Read. No condition. -/
import Derived.Test.YtnjhmaeialnfiaaNatW
namespace Go.Proofs.Ytnjhmaeialnfiaa
open Go.RowKit Go.Suf
set_option linter.unusedVariables false
set_option linter.unusedSimpArgs false

theorem formB_nil : formB [] = false := rfl

theorem formB_zero {xs : List Nat} (h1 : nth xs 0 = 48) (h2 : 1 < xs.length) : formB xs = false := by
  unfold formB
  rw [decide_eq_false_iff_not]
  rintro ⟨_, h, _⟩
  have := h h1
  omega

set_option maxRecDepth 100000 in
set_option maxHeartbeats 4000000 in
theorem refRead_any (w : World) (xs : List Nat) (hb : ∀ x ∈ xs, x < 256) (hn : xs.length ≤ 1099511627776) :
    Calls Try.prog 17 #[.string (strB xs)] w (RetN w (readC xs)) := by
  obtain ⟨r, hr0⟩ : ∃ r, r = readC xs := ⟨_, rfl⟩
  rw [← hr0]
  have HR := Lib.hid hr0
  clear hr0
  have hsz := strB_size xs
  have bad : formB xs = false → r = ([], 11) := fun h => by rw [HR.out, readC, if_neg (by rw [h]; decide)]
  have BAD := Lib.hid bad
  clear bad
  by_cases h0 : xs = []
  · have e1 := Lib.hid (BAD.out (by rw [h0]; rfl))
    subst h0
    go_enter Try.func17, Try.ntmps17
    go_wp2_with fail
    go_ret2
    rw [e1.out]
    exact ⟨none, 0, 0, rfl, Rd.nil _ _, Below.refl _ _⟩
  · have hl : 0 < xs.length := by cases xs with | nil => exact absurd rfl h0 | cons a l => simp
    have hl0 : ((xs.length : Int) == 0) = false := by rw [beq_eq_false_iff_ne]; omega
    have hat0 := strB_at hb 0
    have H0 := Lib.hid h0
    clear h0
    by_cases h1 : nth xs 0 = 48 ∧ 1 < xs.length
    · have e1 := Lib.hid (BAD.out (formB_zero h1.1 h1.2))
      obtain ⟨h2, h3⟩ := h1
      rw [h2] at hat0
      clear h2
      go_enter Try.func17, Try.ntmps17
      go_wp2_with fail
      go_ret2
      rw [e1.out]
      exact ⟨none, 0, 0, rfl, Rd.nil _ _, Below.refl _ _⟩
    · have H1 := Lib.hid (show nth xs 0 = 48 → xs.length ≤ 1 from fun h => by
        rcases Nat.lt_or_ge 1 xs.length with h' | h'
        · exact absurd ⟨h, h'⟩ h1
        · exact h')
      obtain ⟨b0, hb0⟩ : ∃ b, b = nth xs 0 := ⟨_, rfl⟩
      have hd : decide ((1 : Int) < (xs.length : Int)) = false ∨ 1 < xs.length ∧ (((b0 : Int) == 48) = false) := by
        by_cases h2 : 1 < xs.length
        · right
          refine ⟨h2, ?_⟩
          rw [beq_eq_false_iff_ne]
          intro e
          apply h1
          exact ⟨by rw [← hb0]; omega, h2⟩
        · left
          simp; omega
      rw [← hb0] at hat0
      clear h1 hb0
      rcases hd with hd | ⟨hd', hd⟩
      all_goals
        go_enter Try.func17, Try.ntmps17
        go_wp2_with fail
        go_loop [4] (fun i => ∃ k : Nat, k ≤ xs.length ∧ i = .int .i64 (k : Nat) ∧ Hid (∀ j, j < k → 48 ≤ nth xs j ∧ nth xs j ≤ 57)) (fun i => xs.length - (intOf i).toNat)
        case atStart => exact ⟨0, Nat.zero_le _, rfl, Lib.hid fun j hj => by omega⟩
        case round =>
          obtain ⟨k, hk, rfl, hG⟩ := hrel
          clear hat0 hd
          by_cases hlt : k < xs.length
          · have hatk := strB_at hb k
            by_cases h3 : nth xs k < 48
            · have e1 := Lib.hid (BAD.out (formB_bad hlt (.inl h3)))
              go_wp2_with fail
              go_ret2
              rw [e1.out]
              exact ⟨none, 0, 0, rfl, Rd.nil _ _, Below.refl _ _⟩
            · by_cases h4 : 57 < nth xs k
              · have e1 := Lib.hid (BAD.out (formB_bad hlt (.inr h4)))
                go_wp2_with fail
                go_ret2
                rw [e1.out]
                exact ⟨none, 0, 0, rfl, Rd.nil _ _, Below.refl _ _⟩
              · go_wp2_with fail
                go_round
                case rel => exact ⟨k + 1, by omega, by go_num, Lib.hid fun j hj => by
                              by_cases e : j = k
                              · subst e; omega
                              · exact hG.out j (by omega)⟩
                case measure => simp [intOf]; omega
          · obtain rfl : k = xs.length := by omega
            have HF := Lib.hid (formB_good H0.out H1.out hG.out)
            have e1 := Lib.hid (show r = fitC (dread xs 0) by rw [HR.out, readC, if_pos HF.out])
            clear hG
            go_wp2_with fail
            go_loopw [5, 6] (fun v i wr => ∃ (k : Nat) (b : Option Addr) (n c : Nat) (us : List Nat), k ≤ xs.length ∧ i = .int .i64 (k : Nat) ∧ v = .slice b n c ∧ Ow .u32 36 w.heap.size wr b n c us ∧ n ≤ 96 ∧ Hid (us = limbs (dread (xs.take k) 0)) ∧ Below w.heap.size w wr) (fun _ i _ => xs.length - (intOf i).toNat)
            case atStart => exact ⟨0, none, 0, 0, [], Nat.zero_le _, rfl, rfl, Ow.nil _ _ _ _, by decide, Lib.hid (by rw [List.take_zero, dread, limbs_zero]), Below.refl _ _⟩
            case round =>
              obtain ⟨k, b, n, c, us, hk, rfl, rfl, ho, hn96, hU, hbw0⟩ := hrel
              by_cases hlt : k < xs.length
              · have hatk := strB_at hb k
                obtain ⟨h48, h57⟩ := formB_dig HF.out hlt
                obtain ⟨x0, hx0⟩ : ∃ x, x = nth xs k := ⟨_, rfl⟩
                have hds := Lib.hid (dread_take_succ hlt)
                rw [← hx0] at hatk h48 h57 hds
                obtain ⟨d, rfl⟩ : ∃ d, x0 = d + 48 := ⟨x0 - 48, by omega⟩
                have hd10 : d < 10 := by omega
                rw [Nat.add_sub_cancel] at hds
                clear hx0
                have HUL := Lib.hid ho.len
                have hT0 := Lib.hid (Ten.start (us := us) (show small32 us from ho.bd) hd10)
                go_wp2_with fail
                go_loopw [7, 8] (fun v i wz => ∃ (j c' : Nat) (out : List Nat), j ≤ n ∧ i = .int .i64 (j : Nat) ∧ v = .int .u64 (c' : Nat) ∧ c' < 10 ∧ Hid (Ten us out d j c') ∧ Ow .u32 36 w.heap.size wz b n c out ∧ Below w.heap.size w wz) (fun _ i _ => n - (intOf i).toNat)
                case atStart => exact ⟨0, d, us, Nat.zero_le _, rfl, by go_num, hd10, hT0, ho, hbw0⟩
                case round =>
                  obtain ⟨j, c', out, hj, rfl, rfl, hc', hT, ho', hb'⟩ := hrel
                  by_cases hjn : j < n
                  · obtain ⟨g, rfl, hg1, hg2⟩ := ho'.where (by omega)
                    have hcell := ho'.at j hjn
                    have hfree := ho'.free j
                    have b2 := small32_nth hT.out.small j
                    have hT2 := Lib.hid (hT.out.step (show j < us.length by rw [HUL.out]; exact hjn))
                    have hv : (10 * (nth out j : Int) + (c' : Int)) % 4294967296 = (((c' + nth out j * 10) % 4294967296 : Nat) : Int) := by omega
                    have hw := Lib.hid (show (10 * (nth out j : Int) + (c' : Int)) / 4294967296 = (((c' + nth out j * 10) / 4294967296 : Nat) : Int) by omega)
                    have HO : Hid (Ow .u32 36 w.heap.size (wr.setCell ⟨g, j, none⟩ (.int .u32 ((10 * (nth out j : Int) + (c' : Int)) % 4294967296))) (some ⟨g, 0, none⟩) n c (out.set j ((c' + nth out j * 10) % 4294967296))) := by
                      rw [hv]
                      exact Lib.hid (ho'.set j _ (Nat.mod_lt _ (by decide)))
                    have HB := Lib.hid (hb'.setCell (p := ⟨g, j, none⟩) (by show w.heap.size ≤ g; omega) (.int .u32 ((10 * (nth out j : Int) + (c' : Int)) % 4294967296)))
                    clear hv
                    go_wp2_with fail
                    go_roundw
                    case rel => exact ⟨j + 1, _, _, by omega, by go_num, by rw [hw.out], hT2.out.lt, hT2, HO.out, HB.out⟩
                    case measure => simp [intOf]; omega
                  · obtain rfl : j = n := by omega
                    have hT2 := hT.out
                    rw [← HUL.out] at hT2
                    have hdn := hT2.done hU.out
                    rw [← hds.out] at hdn
                    have hbz := hb'.size
                    by_cases hc0 : c' = 0
                    · have hout := Lib.hid (hdn.1 hc0)
                      subst hc0
                      clear hdn hT2
                      go_wp2_with fail
                      go_roundw
                      case rel => exact ⟨k + 1, b, j, c, out, by omega, by go_num, rfl, ho', hn96, hout, hb'⟩
                      case measure => simp [intOf]; omega
                    · have hout := Lib.hid (hdn.2 hc0)
                      clear hdn hT2
                      by_cases hj96 : j + 1 ≤ 96
                      all_goals
                        go_wp2_with (at_builtin; refine wpList_app rfl _ _ 22 rfl etN w.heap.size rfl (ho'.own.alloc _) rfl rfl (sl_new wr _ 36 rfl) (by unfold maxLen; omega) (by omega) (by simp; omega) ?_; intro a' cap' w' hown hg hbw)
                        have ho2 := ho'.snoc (x := c') (show c' < 4294967296 by omega) (m := j + 1) rfl hown
                        have hbn := hb'.trans (((Below.refl w.heap.size wr).alloc hbz _).trans hbw)
                        clear hown hg hbw ho'
                      · go_roundw
                        case rel => exact ⟨k + 1, a', j + 1, cap', out ++ [c'], by omega, by go_num, rfl, ho2, hj96, hout, hbn⟩
                        case measure => simp [intOf]; omega
                      · have e2 := Lib.hid (show r = ([], 30) by
                          have hl := congrArg List.length hout.out
                          rw [ho2.len] at hl
                          have hm := limbs_len_mono (dread_mono (xs := xs) (k := k + 1) (by omega))
                          rw [e1.out, fitC, if_pos (by omega)])
                        go_ret2
                        rw [e2.out]
                        exact ⟨none, 0, 0, rfl, Rd.nil _ _, hbn⟩
              · obtain rfl : k = xs.length := by omega
                have hu2 := hU.out
                rw [List.take_of_length_le (Nat.le_refl _)] at hu2
                have e2 := Lib.hid (show r = (us, 0) by
                  rw [e1.out, fitC, ← hu2, if_neg (by rw [ho.len]; omega)])
                clear hu2
                go_wp2_with fail
                go_ret2
                rw [e2.out]
                exact ⟨b, n, c, rfl, ho.rd, hbw0⟩
end Go.Proofs.Ytnjhmaeialnfiaa
