/- What Check computes in the program. No condition. -/
import Derived.Test.YtlfempfhohejiaaConB
import Derived.Test.YtlfempfhohejiaaConD
set_option linter.unusedVariables false
set_option linter.unusedSimpArgs false
namespace Go.Proofs.Ytlfempfhohejiaa
open Go.RowKit Go.Suf

theorem etS : ET Try.prog 22 9 (.string ⟨#[]⟩) 16 := ⟨Try.underlying22, by kernel_rfl, rfl⟩

theorem twice_at {ss : List ByteArray} {i : Nat} (hi : i < ss.length) (hp : hasS (ss.take i) (sth ss i) = true) : twiceL ss = true :=
  List.any_eq_true.2 ⟨i, List.mem_range.2 hi, hp⟩
theorem twice_none {ss : List ByteArray} (hn : ∀ i, i < ss.length → hasS (ss.take i) (sth ss i) = false) : twiceL ss = false := by
  unfold twiceL
  rw [List.any_eq_false]
  intro x hx
  simp [hn x (List.mem_range.1 hx)]

set_option maxHeartbeats 1000000 in
theorem twice_any (w : World) {a : Option Addr} {n cap : Nat} {ss : List ByteArray} (h : RdS w a n cap ss) :
    Calls Try.prog 50 #[.slice a n cap] w fun e w' => e = .returned (.bool (twiceL ss)) ∧ w = w' := by
  have hn := h.lt
  have HL := Lib.hid h.len
  go_enter Try.func50, Try.ntmps50
  go_wp2_with fail
  go_loop [7] (fun j => ∃ i, i ≤ n ∧ j = .int .i64 (i : Nat) ∧ Hid (∀ k, k < i → hasS (ss.take k) (sth ss k) = false)) (fun j => n - (intOf j).toNat)
  case atStart => exact ⟨0, by omega, rfl, Lib.hid fun k hk => absurd hk (by omega)⟩
  case round =>
    obtain ⟨i, hi, rfl, hS⟩ := hrel
    by_cases hlt : i < n
    · obtain ⟨b, off, rfl, hc⟩ := h.cell i hlt
      go_wp2_with (refine wpList_uptoS rfl _ _ 22 rfl etS h rfl rfl i rfl (by omega) ?_; intro a' ha')
      refine (contains_any _ ha' _).mono ?_
      rintro e w1 ⟨rfl, rfl⟩
      cases hq : hasS (ss.take i) (sth ss i)
      · have HQ := Lib.hid hq
        go_wp2
        go_round
        case rel => exact ⟨i + 1, by omega, by go_num, Lib.hid fun k hk => by
                      by_cases hki : k < i
                      · exact hS.out k hki
                      · obtain rfl : k = i := by omega
                        exact HQ.out⟩
        case measure => simp [intOf]; omega
      · have HQ := Lib.hid hq
        go_wp2
        go_ret
        rw [twice_at (by have := HL.out; omega) HQ.out]
        exact ⟨rfl, rfl⟩
    · obtain rfl : i = n := by omega
      go_wp2
      go_ret
      rw [twice_none (by rw [HL.out]; exact hS.out)]
      exact ⟨rfl, rfl⟩

def fitsC (n : Nat) (seats : Int) (rule : Nat) : Bool :=
  if seats < 1 ∨ 10 < seats then false else if seatsN rule = 1 then decide (seats = 1) else if seatsN rule = 2 then decide (seats ≤ n) else decide (seatsN rule = 3)

theorem new_cell (w : World) (cs : Array Value) (t : TypeId) (i : Nat) (v : Value) (h : cs[i]? = some v) : (w.alloc (.cells cs t)).cell? ⟨w.heap.size, i, none⟩ = some v := by
  simp only [World.cell?, heap_alloc_new, h]
  rfl

set_option maxRecDepth 100000 in
set_option maxHeartbeats 1000000 in
theorem fits_any (w : World) (nm : ByteArray) {a : Option Addr} {n cap : Nat} (hn : n ≤ 9223372036854775807) (seats : Int) (hs1 : -9223372036854775808 ≤ seats) (hs2 : seats ≤ 9223372036854775807) (rule : Nat) (hr : rule < 256) :
    Calls Try.prog 51 #[.agg #[.string nm, .slice a n cap, .int .i64 seats, .int .u8 (rule : Nat)]] w fun e w' => e = .returned (.bool (fitsC n seats rule)) ∧ Below w.heap.size w w' := by
  by_cases h1 : seats < 1
  · go_enter Try.func51, Try.ntmps51
    go_wp2_with fail
    go_ret
    exact ⟨by simp [fitsC, h1], (Below.refl _ _).alloc (Nat.le_refl _) _⟩
  by_cases h2 : 10 < seats
  · go_enter Try.func51, Try.ntmps51
    go_wp2_with fail
    go_ret
    exact ⟨by simp [fitsC, h2], (Below.refl _ _).alloc (Nat.le_refl _) _⟩
  go_enter Try.func51, Try.ntmps51
  go_wp2_with fail
  refine (of_any _ _ hr).mono ?_
  rintro e w1 ⟨rfl, hb1⟩
  have c1 := cell_below hb1 (new_cell w #[.string nm, .slice a n cap, .int .i64 seats, .int .u8 (rule : Nat)] 24 1 _ rfl)
  have c2 := cell_below hb1 (new_cell w #[.string nm, .slice a n cap, .int .i64 seats, .int .u8 (rule : Nat)] 24 2 _ rfl)
  have hb : Below w.heap.size w w1 := ((Below.refl _ w).alloc (Nat.le_refl _) _).trans (hb1.mono (by rw [World.size_alloc]; omega))
  have hsl := seats_le rule
  have hf : fitsC n seats rule = if seatsN rule = 1 then decide (seats = 1) else if seatsN rule = 2 then decide (seats ≤ n) else decide (seatsN rule = 3) := by
    unfold fitsC
    rw [if_neg (by omega)]
  have HF := Lib.hid hf
  clear hf
  by_cases g1 : seatsN rule = 1
  · go_wp2_with first | refine wpList_field rfl 93 _ 2 2 rfl f3 _ _ rfl rfl ?_
    go_ret
    exact ⟨by rw [HF.out, if_pos g1]; rfl, hb⟩
  by_cases g2 : seatsN rule = 2
  · go_wp2_with first | refine wpList_field rfl 93 _ 2 2 rfl f3 _ _ rfl rfl ?_
    go_ret
    exact ⟨by rw [HF.out, if_neg g1, if_pos g2]; rfl, hb⟩
  by_cases g3 : seatsN rule = 3
  · go_wp2_with first | refine wpList_field rfl 93 _ 2 2 rfl f3 _ _ rfl rfl ?_
    go_ret
    exact ⟨by rw [HF.out, if_neg g1, if_neg g2]; simp [g3], hb⟩
  · go_wp2_with first | refine wpList_field rfl 93 _ 2 2 rfl f3 _ _ rfl rfl ?_
    go_ret
    exact ⟨by rw [HF.out, if_neg g1, if_neg g2]; simp [g3], hb⟩

/-- What Check answers. -/
def checkC (nm : ByteArray) (ss : List ByteArray) (seats : Int) (rule : Nat) : Int :=
  if 10 < ss.length then 4 else if ss.length = 0 ∨ oddL [nm] = true ∨ oddL ss = true ∨ twiceL ss = true ∨ fitsC ss.length seats rule = false then 8 else 0

set_option maxRecDepth 100000 in
set_option maxHeartbeats 2000000 in
theorem Check_any (w : World) (nm : ByteArray) {a : Option Addr} {n cap : Nat} {ss : List ByteArray} (h : RdS w a n cap ss) (seats : Int) (hs1 : -9223372036854775808 ≤ seats) (hs2 : seats ≤ 9223372036854775807) (rule : Nat) (hr : rule < 256) :
    Calls Try.prog 30 #[.agg #[.string nm, .slice a n cap, .int .i64 seats, .int .u8 (rule : Nat)]] w fun e w' => e = .returned (.int .i64 (checkC nm ss seats rule)) ∧ Below w.heap.size w w' := by
  have hn := h.lt
  obtain ⟨r, hr0⟩ : ∃ r, r = checkC nm ss seats rule := ⟨_, rfl⟩
  rw [← hr0]
  unfold checkC at hr0
  rw [h.len] at hr0
  have HR := Lib.hid hr0
  clear hr0
  by_cases h1 : 10 < n
  · go_enter Try.func30, Try.ntmps30
    go_wp2_with fail
    go_ret
    exact ⟨by rw [HR.out, if_pos h1]; rfl, (Below.refl _ _).alloc (Nat.le_refl _) _⟩
  by_cases h2 : n = 0
  · go_enter Try.func30, Try.ntmps30
    go_wp2_with fail
    go_ret
    exact ⟨by rw [HR.out, if_neg h1, if_pos (Or.inl h2)]; rfl, (Below.refl _ _).alloc (Nat.le_refl _) _⟩
  go_enter Try.func30, Try.ntmps30
  go_wp2_with fail
  have hA : Below w.heap.size w ((w.alloc (.cells #[.string nm, .slice a n cap, .int .i64 seats, .int .u8 (rule : Nat)] 24)).alloc (.cells #[.string nm] 9)) := ((Below.refl _ _).alloc (Nat.le_refl _) _).alloc (by rw [World.size_alloc]; omega) _
  have c (i : Nat) (v : Value) (hv : (#[.string nm, .slice a n cap, .int .i64 seats, .int .u8 (rule : Nat)] : Array Value)[i]? = some v) := cell_below ((Below.refl _ _).alloc (Nat.le_refl _) (.cells #[.string nm] 9)) (new_cell w _ 24 i v hv)
  have hl1 : RdS ((w.alloc (.cells #[.string nm, .slice a n cap, .int .i64 seats, .int .u8 (rule : Nat)] 24)).alloc (.cells #[.string nm] 9)) (some ⟨w.heap.size + 1, 0, none⟩) 1 1 [nm] := by
    have := rdS_lit (w.alloc (.cells #[.string nm, .slice a n cap, .int .i64 seats, .int .u8 (rule : Nat)] 24)) [nm] 9 (by unfold maxLen; simp)
    rw [World.size_alloc] at this
    exact this
  refine (odd_any _ hl1).mono ?_
  rintro e w1 ⟨rfl, hb1⟩
  have hB1 := hA.trans (hb1.mono hA.size)
  have c0 := cell_below hb1 (c 0 _ rfl)
  have c1 := cell_below hb1 (c 1 _ rfl)
  have c2 := cell_below hb1 (c 2 _ rfl)
  have c3 := cell_below hb1 (c 3 _ rfl)
  clear c
  cases q1 : oddL [nm]
  · have Q1 := Lib.hid q1
    go_wp2_with fail
    refine (odd_any _ (h.below hB1)).mono ?_
    rintro e w2 ⟨rfl, hb2⟩
    have hB2 := hB1.trans (hb2.mono hB1.size)
    have d0 := cell_below hb2 c0
    have d1 := cell_below hb2 c1
    have d2 := cell_below hb2 c2
    have d3 := cell_below hb2 c3
    clear c0 c1 c2 c3
    cases q2 : oddL ss
    · have Q2 := Lib.hid q2
      go_wp2_with fail
      refine (twice_any _ (h.below hB2)).mono ?_
      rintro e w3 ⟨rfl, rfl⟩
      cases q3 : twiceL ss
      · have Q3 := Lib.hid q3
        go_wp2_with fail
        refine (fits_any _ nm hn seats hs1 hs2 rule hr).mono ?_
        rintro e w3 ⟨rfl, hb3⟩
        have hB3 := hB2.trans (hb3.mono hB2.size)
        cases q4 : fitsC n seats rule
        · have Q4 := Lib.hid q4
          go_wp2_with fail
          go_ret
          exact ⟨by rw [HR.out, if_neg h1, if_pos (Or.inr (Or.inr (Or.inr (Or.inr Q4.out))))]; rfl, hB3⟩
        · have Q4 := Lib.hid q4
          go_wp2_with fail
          go_ret
          exact ⟨by rw [HR.out, if_neg h1, if_neg (by rw [Q1.out, Q2.out, Q3.out, Q4.out]; simp [h2])]; rfl, hB3⟩
      · have Q3 := Lib.hid q3
        go_wp2_with fail
        go_ret
        exact ⟨by rw [HR.out, if_neg h1, if_pos (Or.inr (Or.inr (Or.inr (Or.inl Q3.out))))]; rfl, hB2⟩
    · have Q2 := Lib.hid q2
      go_wp2_with fail
      go_ret
      exact ⟨by rw [HR.out, if_neg h1, if_pos (Or.inr (Or.inr (Or.inl Q2.out)))]; rfl, hB2⟩
  · have Q1 := Lib.hid q1
    go_wp2_with fail
    go_ret
    exact ⟨by rw [HR.out, if_neg h1, if_pos (Or.inr (Or.inl Q1.out))]; rfl, hB1⟩

end Go.Proofs.Ytlfempfhohejiaa
