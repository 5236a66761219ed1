/- What the document's Check answers. No condition. -/
import Derived.Test.YtlfempfhohejiaaConF
set_option linter.unusedVariables false
set_option linter.unusedSimpArgs false
namespace Go.Proofs.Ytlfempfhohejiaa
open Go.RowKit Go.Suf

theorem cell_drew {w : World} {p : Addr} {v : Value} (h : w.cell? p = some v) (q : Nat) : (w.drewN q).cell? p = some v := cell_below (below_drewN (Below.refl _ w) q) h

set_option maxRecDepth 100000 in
set_option maxHeartbeats 4000000 in
theorem May_any (w : World) (nm : ByteArray) {a : Option Addr} {n cap : Nat} {ss : List ByteArray} (h : RdS w a n cap ss) (seats : Int) (hs1 : -9223372036854775808 ≤ seats) (hs2 : seats ≤ 9223372036854775807) (rule : Nat) (hr : rule < 256) :
    Calls Try.prog 52 #[.agg #[.string nm, .slice a n cap, .int .i64 seats, .int .u8 (rule : Nat)]] w fun e w' => e = .returned (.bool (mayC nm ss seats rule)) ∧ Below w.heap.size w w' := by
  have hn := h.lt
  have HL := Lib.hid h.len
  obtain ⟨r, hr0⟩ : ∃ r, r = mayC nm ss seats rule := ⟨_, rfl⟩
  rw [← hr0]
  unfold mayC at hr0
  rw [h.len] at hr0
  have HR := Lib.hid hr0
  clear hr0
  have hA : Below w.heap.size w (w.alloc (.cells #[.string nm, .slice a n cap, .int .i64 seats, .int .u8 (rule : Nat)] 24)) := (Below.refl _ _).alloc (Nat.le_refl _) _
  go_enter Try.func52, Try.ntmps52
  go_wp2_with fail
  refine (Name_any _ _).mono ?_
  rintro e w1 ⟨rfl, rfl⟩
  cases q1 : oddS nm
  case true =>
    have Q1 := Lib.hid q1
    go_wp2_with fail
    go_ret
    exact ⟨by rw [HR.out, Q1.out]; simp, hA⟩
  have Q1 := Lib.hid q1
  by_cases g1 : n < 1
  · go_wp2_with fail
    go_ret
    exact ⟨by rw [HR.out]; simp [show n = 0 by omega], hA⟩
  by_cases g2 : 10 < n
  · go_wp2_with fail
    go_ret
    exact ⟨by rw [HR.out]; simp [show ¬ n ≤ 10 by omega], hA⟩
  go_wp2_with fail
  refine (Is_any _ _ hr).mono ?_
  rintro e w1 ⟨rfl, rfl⟩
  cases q2 : isR rule
  · have Q2 := Lib.hid q2
    go_wp2_with fail
    go_ret
    exact ⟨by rw [HR.out, Q2.out]; simp, hA⟩
  have Q2 := Lib.hid q2
  by_cases g3 : seats < 1
  · go_wp2_with fail
    go_ret
    exact ⟨by rw [HR.out]; simp [show ¬ 1 ≤ seats by omega], hA⟩
  by_cases g4 : 10 < seats
  · go_wp2_with fail
    go_ret
    exact ⟨by rw [HR.out]; simp [show ¬ seats ≤ 10 by omega], hA⟩
  have c0 := cell_drew (new_cell w #[.string nm, .slice a n cap, .int .i64 seats, .int .u8 (rule : Nat)] 24 0 _ rfl)
  have c1 := cell_drew (new_cell w #[.string nm, .slice a n cap, .int .i64 seats, .int .u8 (rule : Nat)] 24 1 _ rfl)
  have c2 := cell_drew (new_cell w #[.string nm, .slice a n cap, .int .i64 seats, .int .u8 (rule : Nat)] 24 2 _ rfl)
  have c3 := cell_drew (new_cell w #[.string nm, .slice a n cap, .int .i64 seats, .int .u8 (rule : Nat)] 24 3 _ rfl)
  go_wp2_with fail
  generalize hwA : w.alloc (.cells #[.string nm, .slice a n cap, .int .i64 seats, .int .u8 (rule : Nat)] 24) = wA at hA c0 c1 c2 c3 ⊢
  have hD := fun q => hA.trans (below_drewN (Below.refl w.heap.size wA) q)
  have hrd := fun q => h.below (hD q)
  go_loopw [3] (fun j wr => ∃ i q, i ≤ n ∧ j = .int .i64 (i : Nat) ∧ wr = wA.drewN q ∧ Hid (∀ k, k < i → oddS (sth ss k) = false ∧ hasS (ss.take k) (sth ss k) = false)) (fun j _ => n - (intOf j).toNat)
  case atStart => exact ⟨0, 0, by omega, rfl, rfl, Lib.hid fun k hk => absurd hk (by omega)⟩
  case round =>
    obtain ⟨i, q, hi, rfl, rfl, hS⟩ := hrel
    by_cases hlt : i < n
    · obtain ⟨b, off, rfl, hcell⟩ := h.addr (by omega)
      have hc := fun k hk q => cell_below (hD q) (hcell k hk)
      have hci := hc i hlt
      go_wp2_with fail
      refine (Name_any _ _).mono ?_
      rintro e w1 ⟨rfl, rfl⟩
      cases q3 : oddS (sth ss i)
      case true =>
        have Q3 := Lib.hid (odd_at (by have := HL.out; omega) q3)
        go_wp2_with fail
        go_ret
        exact ⟨by rw [HR.out, Q3.out]; simp, hD _⟩
      have Q3 := Lib.hid q3
      go_wp2_with fail
      go_loopw [4] (fun j wr => ∃ k q, k ≤ i ∧ j = .int .i64 (k : Nat) ∧ wr = wA.drewN q ∧ Hid (∀ m, m < k → eqS (sth ss i) (sth ss m) = false)) (fun j _ => i - (intOf j).toNat)
      case atStart => exact ⟨0, q, by omega, rfl, rfl, Lib.hid fun k hk => absurd hk (by omega)⟩
      case round =>
        obtain ⟨k, q', hk, rfl, rfl, hT⟩ := hrel
        by_cases hlk : k < i
        · have hck := hc k (by omega)
          cases q4 : ((sth ss k).toList == (sth ss i).toList)
          · have Q4 := Lib.hid q4
            go_wp2
            go_quiet (fail)
            go_wp2
            go_roundw
            case rel => exact ⟨k + 1, _, by omega, by go_num, rfl, Lib.hid fun m hm => by
                          by_cases hmk : m < k
                          · exact hT.out m hmk
                          · obtain rfl : m = k := by omega
                            rw [eqS_comm]
                            exact Q4.out⟩
            case measure => simp [intOf]; omega
          · have Q4 := Lib.hid q4
            go_wp2
            go_quiet (fail)
            go_wp2
            go_ret
            refine ⟨?_, (hD q').trans (below_drewN (Below.refl _ _) _)⟩
            have ht : twiceL ss = true := twice_at (i := i) (by have := HL.out; omega) (by
              rw [has_take (by have := HL.out; omega), List.any_eq_true]
              exact ⟨k, List.mem_range.2 hlk, by rw [eqS_comm]; exact Q4.out⟩)
            rw [HR.out, ht]
            simp
        · obtain rfl : k = i := by omega
          go_wp2
          go_roundw
          case rel => exact ⟨k + 1, _, by omega, by go_num, rfl, Lib.hid fun m hm => by
                        by_cases hmk : m < k
                        · exact hS.out m hmk
                        · obtain rfl : m = k := by omega
                          refine ⟨Q3.out, ?_⟩
                          rw [has_take (by have := HL.out; omega), List.any_eq_false]
                          intro x hx
                          simp [hT.out x (List.mem_range.1 hx)]⟩
          case measure => simp [intOf]; omega
    · obtain rfl : i = n := by omega
      have o1 : oddL ss = false := odd_none fun k hk => (hS.out k (by have := HL.out; omega)).1
      have o2 : twiceL ss = false := twice_none fun k hk => (hS.out k (by have := HL.out; omega)).2
      have HR2 : Hid (r = (if oneN rule = true then decide (seats = 1) else listsN rule || decide (seats ≤ i))) := Lib.hid (by
        rw [HR.out, Q1.out, Q2.out, o1, o2]
        simp only [show decide (1 ≤ i) = true from by rw [decide_eq_true_eq]; omega, show decide (i ≤ 10) = true from by rw [decide_eq_true_eq]; omega, show decide (1 ≤ seats) = true from by rw [decide_eq_true_eq]; omega, show decide (seats ≤ 10) = true from by rw [decide_eq_true_eq]; omega]
        simp)
      clear o1 o2
      go_wp2_with fail
      refine (One_any _ _ hr).mono ?_
      rintro e w1 ⟨rfl, rfl⟩
      cases q5 : oneN rule
      · have Q5 := Lib.hid q5
        go_wp2_with fail
        refine (Lists_any _ _ hr).mono ?_
        rintro e w1 ⟨rfl, rfl⟩
        cases q6 : listsN rule
        · have Q6 := Lib.hid q6
          go_wp2_with fail
          go_ret
          exact ⟨by rw [HR2.out, Q5.out, Q6.out]; simp, hD _⟩
        · have Q6 := Lib.hid q6
          go_wp2_with fail
          go_ret
          exact ⟨by rw [HR2.out, Q5.out, Q6.out]; simp, hD _⟩
      · have Q5 := Lib.hid q5
        go_wp2_with fail
        go_ret
        exact ⟨by
          rw [HR2.out, Q5.out]
          simp
          rfl, hD _⟩

theorem refCheck_any (w : World) (nm : ByteArray) {a : Option Addr} {n cap : Nat} {ss : List ByteArray} (h : RdS w a n cap ss) (seats : Int) (hs1 : -9223372036854775808 ≤ seats) (hs2 : seats ≤ 9223372036854775807) (rule : Nat) (hr : rule < 256) :
    Calls Try.prog 32 #[.agg #[.string nm, .slice a n cap, .int .i64 seats, .int .u8 (rule : Nat)]] w fun e w' => e = .returned (.int .i64 (checkC nm ss seats rule)) ∧ Below w.heap.size w w' := by
  have hn := h.lt
  rw [check_may, h.len]
  have hA : Below w.heap.size w (w.alloc (.cells #[.string nm, .slice a n cap, .int .i64 seats, .int .u8 (rule : Nat)] 24)) := (Below.refl _ _).alloc (Nat.le_refl _) _
  by_cases h1 : 10 < n
  · rw [if_pos h1]
    go_enter Try.func32, Try.ntmps32
    go_wp2_with fail
    go_ret
    exact ⟨rfl, hA⟩
  rw [if_neg h1]
  cases q : mayC nm ss seats rule
  all_goals
    have Q := Lib.hid q
    go_enter Try.func32, Try.ntmps32
    go_wp2_with fail
    refine (May_any _ nm (h.below hA) seats hs1 hs2 rule hr).mono ?_
    rintro e w1 ⟨rfl, hb⟩
    rw [Q.out]
    go_wp2_with fail
    go_ret
    exact ⟨rfl, hA.trans (hb.mono hA.size)⟩

end Go.Proofs.Ytlfempfhohejiaa
