/- Same, in the program and in the document's answer. No condition. -/
import Derived.Test.YtnkbkcmphgejkaaConK
set_option linter.unusedVariables false
set_option linter.unusedSimpArgs false
namespace Go.Proofs.Ytnkbkcmphgejkaa
open Go.RowKit Go.Suf

theorem take_sth (ss : List ByteArray) (k : Nat) (h : k < ss.length) : ss.take (k + 1) = ss.take k ++ [sth ss k] := by
  rw [List.take_succ_eq_append_getElem h, sth_eq h]

set_option maxHeartbeats 1000000 in
theorem equalS_any (w : World) {a a' : Option Addr} {n n' cap cap' : Nat} {ss ss' : List ByteArray} (h : RdS w a n cap ss) (h' : RdS w a' n' cap' ss') :
    Calls Try.prog 55 #[.slice a n cap, .slice a' n' cap'] w fun e w' => e = .returned (.bool (decide (ss = ss'))) ∧ ∃ q, w' = w.drewN q := by
  have hn := h.lt
  have hn' := h'.lt
  obtain ⟨r, hr0⟩ : ∃ r, r = decide (ss = ss') := ⟨_, rfl⟩
  rw [← hr0]
  have HR := Lib.hid hr0
  clear hr0
  have HL := Lib.hid h.len
  have HL' := Lib.hid h'.len
  by_cases hne : n = n'
  · subst hne
    go_enter Try.func55, Try.ntmps55
    go_wp2
    go_loopw [13] (fun j wr => ∃ k q, k ≤ n ∧ j = .int .i64 (k : Nat) ∧ wr = w.drewN q ∧ Hid (ss.take k = ss'.take k)) (fun j _ => n - (intOf j).toNat)
    case atStart => exact ⟨0, 0, Nat.zero_le _, rfl, rfl, Lib.hid rfl⟩
    case round =>
      obtain ⟨k, q, hk, rfl, rfl, hS⟩ := hrel
      by_cases hlt : k < n
      · obtain ⟨b, off, rfl, hc0⟩ := h.cell k hlt
        obtain ⟨b', off', rfl, hc0'⟩ := h'.cell k hlt
        have hc := cell_drew hc0
        have hc' := cell_drew hc0'
        have HT1 := Lib.hid (take_sth ss k (by have := HL.out; omega))
        have HT2 := Lib.hid (take_sth ss' k (by have := HL'.out; omega))
        cases hb : ((sth ss k).toList == (sth ss' k).toList)
        · have HB := Lib.hid hb
          go_wp2
          go_quiet (fail)
          go_wp2
          go_ret
          refine ⟨?_, _, World.drewN_drewN _ _ _⟩
          have : decide (ss = ss') = false := by
            rw [decide_eq_false_iff_not]
            rintro rfl
            have := HB.out
            simp at this
          rw [HR.out, this]
          rfl
        · have HB := Lib.hid (eqS_iff.1 (show eqS (sth ss k) (sth ss' k) = true from hb))
          go_wp2
          go_quiet (fail)
          go_wp2
          go_roundw
          case rel => exact ⟨k + 1, _, by omega, by go_num, rfl, Lib.hid (by rw [HT1.out, HT2.out, hS.out, HB.out])⟩
          case measure => simp [intOf]; omega
      · obtain rfl : k = n := by omega
        have e : ss = ss' := by
          have := hS.out
          rwa [List.take_of_length_le (by have := HL.out; omega), List.take_of_length_le (by have := HL'.out; omega)] at this
        have HE := Lib.hid e
        clear e
        go_wp2
        go_ret
        exact ⟨by rw [HR.out, decide_eq_true HE.out]; rfl, _, rfl⟩
  · go_enter Try.func55, Try.ntmps55
    go_wp2
    go_ret
    refine ⟨?_, 0, rfl⟩
    have : decide (ss = ss') = false := by
      rw [decide_eq_false_iff_not]
      rintro rfl
      exact hne (HL.out.symm.trans HL'.out)
    rw [HR.out, this]
    rfl

def sameC (nm : ByteArray) (ss : List ByteArray) (seats : Int) (rule : Nat) (nm' : ByteArray) (ss' : List ByteArray) (seats' : Int) (rule' : Nat) : Bool := eqS nm nm' && decide (seats = seats') && decide (rule = rule') && decide (ss = ss')

set_option maxRecDepth 100000 in
set_option maxHeartbeats 2000000 in
theorem Same_any (w : World) (nm nm' : ByteArray) {a a' : Option Addr} {n n' cap cap' : Nat} {ss ss' : List ByteArray} (h : RdS w a n cap ss) (h' : RdS w a' n' cap' ss') (seats seats' : Int) (rule rule' : Nat) :
    Calls Try.prog 25 #[.agg #[.string nm, .slice a n cap, .int .i64 seats, .int .u8 (rule : Nat)], .agg #[.string nm', .slice a' n' cap', .int .i64 seats', .int .u8 (rule' : Nat)]] w fun e w' => e = .returned (.bool (sameC nm ss seats rule nm' ss' seats' rule')) ∧ Below w.heap.size w w' := by
  have hn := h.lt
  have hn' := h'.lt
  obtain ⟨r, hr0⟩ : ∃ r, r = sameC nm ss seats rule nm' ss' seats' rule' := ⟨_, rfl⟩
  rw [← hr0]
  unfold sameC eqS at hr0
  have HR := Lib.hid hr0
  clear hr0
  have HL := Lib.hid h.len
  have HL' := Lib.hid h'.len
  have hA : Below w.heap.size w ((w.alloc (.cells #[.string nm, .slice a n cap, .int .i64 seats, .int .u8 (rule : Nat)] 40)).alloc (.cells #[.string nm', .slice a' n' cap', .int .i64 seats', .int .u8 (rule' : Nat)] 40)) := ((Below.refl _ _).alloc (Nat.le_refl _) _).alloc (by rw [World.size_alloc]; omega) _
  cases q1 : (nm.toList == nm'.toList)
  · have Q1 := Lib.hid q1
    go_enter Try.func25, Try.ntmps25
    go_wp2_with fail
    go_ret
    exact ⟨by rw [HR.out, Q1.out]; rfl, hA⟩
  have Q1 := Lib.hid q1
  by_cases q2 : seats = seats'
  case neg =>
    go_enter Try.func25, Try.ntmps25
    go_wp2_with fail
    go_ret
    exact ⟨by rw [HR.out]; simp [q2], hA⟩
  subst q2
  by_cases q3 : rule = rule'
  case neg =>
    have q4 : ((rule : Int) == (rule' : Int)) = false := by rw [beq_eq_false_iff_ne]; omega
    go_enter Try.func25, Try.ntmps25
    go_wp2_with fail
    go_ret
    exact ⟨by rw [HR.out]; simp [q3], hA⟩
  subst q3
  go_enter Try.func25, Try.ntmps25
  go_wp2_with fail
  refine (equalS_any _ (h.below hA) (h'.below hA)).mono ?_
  rintro e w1 ⟨rfl, q, rfl⟩
  go_wp2_with fail
  go_ret
  exact ⟨by rw [HR.out, Q1.out]; simp, hA.trans (below_drewN (Below.refl _ _) q)⟩

set_option maxRecDepth 100000 in
set_option maxHeartbeats 2000000 in
theorem refSame_any (w : World) (nm nm' : ByteArray) {a a' : Option Addr} {n n' cap cap' : Nat} {ss ss' : List ByteArray} (h : RdS w a n cap ss) (h' : RdS w a' n' cap' ss') (seats seats' : Int) (rule rule' : Nat) :
    Calls Try.prog 26 #[.agg #[.string nm, .slice a n cap, .int .i64 seats, .int .u8 (rule : Nat)], .agg #[.string nm', .slice a' n' cap', .int .i64 seats', .int .u8 (rule' : Nat)]] w fun e w' => e = .returned (.bool (sameC nm ss seats rule nm' ss' seats' rule')) ∧ Below w.heap.size w w' := by
  have hn := h.lt
  have hn' := h'.lt
  obtain ⟨r, hr0⟩ : ∃ r, r = sameC nm ss seats rule nm' ss' seats' rule' := ⟨_, rfl⟩
  rw [← hr0]
  unfold sameC eqS at hr0
  have HR := Lib.hid hr0
  clear hr0
  have HL := Lib.hid h.len
  have HL' := Lib.hid h'.len
  have hA : Below w.heap.size w ((w.alloc (.cells #[.string nm, .slice a n cap, .int .i64 seats, .int .u8 (rule : Nat)] 40)).alloc (.cells #[.string nm', .slice a' n' cap', .int .i64 seats', .int .u8 (rule' : Nat)] 40)) := ((Below.refl _ _).alloc (Nat.le_refl _) _).alloc (by rw [World.size_alloc]; omega) _
  cases q1 : (nm.toList == nm'.toList)
  · have Q1 := Lib.hid q1
    go_enter Try.func26, Try.ntmps26
    go_wp2_with fail
    go_ret
    exact ⟨by rw [HR.out, Q1.out]; rfl, hA⟩
  have Q1 := Lib.hid q1
  by_cases q2 : seats = seats'
  case neg =>
    go_enter Try.func26, Try.ntmps26
    go_wp2_with fail
    go_ret
    exact ⟨by rw [HR.out]; simp [q2], hA⟩
  subst q2
  by_cases q3 : rule = rule'
  case neg =>
    have q4 : ((rule : Int) == (rule' : Int)) = false := by rw [beq_eq_false_iff_ne]; omega
    go_enter Try.func26, Try.ntmps26
    go_wp2_with fail
    go_ret
    exact ⟨by rw [HR.out]; simp [q3], hA⟩
  subst q3
  by_cases hne : n = n'
  case neg =>
    have hss : decide (ss = ss') = false := by
      rw [decide_eq_false_iff_not]
      rintro rfl
      exact hne (HL.out.symm.trans HL'.out)
    have HSS := Lib.hid hss
    clear hss
    have q4 : ((n : Int) == (n' : Int)) = false := by rw [beq_eq_false_iff_ne]; omega
    go_enter Try.func26, Try.ntmps26
    go_wp2_with fail
    go_ret
    exact ⟨by rw [HR.out, HSS.out]; simp, hA⟩
  subst hne
  have c1 := cell_drew (cell_below ((Below.refl _ _).alloc (Nat.le_refl _) (.cells #[.string nm', .slice a' n cap', .int .i64 seats, .int .u8 (rule : Nat)] 40)) (new_cell w #[.string nm, .slice a n cap, .int .i64 seats, .int .u8 (rule : Nat)] 40 1 _ rfl))
  have c2 := cell_drew (new_cell (w.alloc (.cells #[.string nm, .slice a n cap, .int .i64 seats, .int .u8 (rule : Nat)] 40)) #[.string nm', .slice a' n cap', .int .i64 seats, .int .u8 (rule : Nat)] 40 1 _ rfl)
  simp only [World.size_alloc] at c2
  go_enter Try.func26, Try.ntmps26
  go_wp2_with fail
  generalize hwA : (w.alloc (.cells #[.string nm, .slice a n cap, .int .i64 seats, .int .u8 (rule : Nat)] 40)).alloc (.cells #[.string nm', .slice a' n cap', .int .i64 seats, .int .u8 (rule : Nat)] 40) = wA at hA c1 c2 ⊢
  have hD := fun q => hA.trans (below_drewN (Below.refl w.heap.size wA) q)
  go_loopw [5] (fun j wr => ∃ k q, k ≤ n ∧ j = .int .i64 (k : Nat) ∧ wr = wA.drewN q ∧ Hid (ss.take k = ss'.take k)) (fun j _ => n - (intOf j).toNat)
  case atStart => exact ⟨0, 0, Nat.zero_le _, rfl, rfl, Lib.hid rfl⟩
  case round =>
    obtain ⟨k, q, hk, rfl, rfl, hS⟩ := hrel
    by_cases hlt : k < n
    · obtain ⟨b, off, rfl, hc0⟩ := h.cell k hlt
      obtain ⟨b', off', rfl, hc0'⟩ := h'.cell k hlt
      have hc := fun q => cell_below (hD q) hc0
      have hc' := fun q => cell_below (hD q) hc0'
      have HT1 := Lib.hid (take_sth ss k (by have := HL.out; omega))
      have HT2 := Lib.hid (take_sth ss' k (by have := HL'.out; omega))
      cases hb : ((sth ss k).toList == (sth ss' k).toList)
      · have HB := Lib.hid hb
        go_wp2
        go_quiet (fail)
        go_wp2
        go_ret
        refine ⟨?_, (hD q).trans (below_drewN (Below.refl _ _) _)⟩
        have : decide (ss = ss') = false := by
          rw [decide_eq_false_iff_not]
          rintro rfl
          have := HB.out
          simp at this
        rw [HR.out, this]
        simp
      · have HB := Lib.hid (eqS_iff.1 (show eqS (sth ss k) (sth ss' k) = true from hb))
        go_wp2
        go_quiet (fail)
        go_wp2
        go_roundw
        case rel => exact ⟨k + 1, _, by omega, by go_num, rfl, Lib.hid (by rw [HT1.out, HT2.out, hS.out, HB.out])⟩
        case measure => simp [intOf]; omega
    · obtain rfl : k = n := by omega
      have e : ss = ss' := by
        have := hS.out
        rwa [List.take_of_length_le (by have := HL.out; omega), List.take_of_length_le (by have := HL'.out; omega)] at this
      have HE := Lib.hid e
      clear e
      go_wp2
      go_ret
      exact ⟨by rw [HR.out, Q1.out, decide_eq_true HE.out]; simp, hD q⟩

end Go.Proofs.Ytnkbkcmphgejkaa
