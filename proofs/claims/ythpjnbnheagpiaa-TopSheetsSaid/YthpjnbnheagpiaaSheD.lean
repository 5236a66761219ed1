/- Valid ballots, in the program and in the answer. Conditions: for the program at most ten candidates. Printed by gen_shed.py. -/
import Derived.Test.YthpjnbnheagpiaaSheC
namespace Go.Proofs.Ythpjnbnheagpiaa
open Go.RowKit Go.Suf
set_option linter.unusedVariables false
set_option linter.unusedSimpArgs false

theorem within_any (w : World) (n lo hi : Int) : Calls Try.prog 42 #[.int .i64 n, .int .i64 lo, .int .i64 hi] w fun e w' => e = .returned (.bool (decide (lo ≤ n) && decide (n < hi))) ∧ w = w' := by
  by_cases h1 : lo ≤ n
  · go_enter Try.func42, Try.ntmps42
    go_wp2
    go_ret
    exact ⟨by by_cases h2 : n < hi <;> simp [h1, h2] <;> omega, rfl⟩
  · go_enter Try.func42, Try.ntmps42
    go_wp2
    go_ret
    exact ⟨by simp; intro h2; omega, rfl⟩

theorem within_yes {n lo hi : Int} (h : lo ≤ n ∧ n < hi) : (decide (lo ≤ n) && decide (n < hi)) = true := by simp [h.1, h.2]
theorem within_no {n lo hi : Int} (h : ¬ (lo ≤ n ∧ n < hi)) : (decide (lo ≤ n) && decide (n < hi)) = false := by
  rw [← Bool.not_eq_true]
  simpa using h

def distI (ms : List Int) : Bool := decide (∀ i, i < ms.length → inI ms i (ith ms i) = false)
theorem fine_bad {kd : Nat} {ms : List Int} {c : Int} {i : Nat} (hi : i < ms.length) (h : ¬ (0 ≤ ith ms i ∧ ith ms i < (if kd = 3 then 11 else c))) : fineQ kd ms c = false := by
  unfold fineQ
  by_cases h3 : kd = 3
  · rw [if_pos h3] at h ⊢
    rw [decide_eq_false (fun hh => h (by have := hh i hi; omega))]
    rfl
  · rw [if_neg h3] at h ⊢
    by_cases h1 : kd = 1 ∨ kd = 2
    · rw [if_pos h1, decide_eq_false (fun hh => h (hh i hi))]
      rfl
    · rw [if_neg h1]
theorem fine_score {ms : List Int} {c : Int} (h : ∀ i, i < ms.length → 0 ≤ ith ms i ∧ ith ms i < 11) : fineQ 3 ms c = decide ((ms.length : Int) = c) := by
  unfold fineQ
  rw [if_pos rfl, decide_eq_true (fun i hi => by have := h i hi; omega), Bool.true_and]
theorem fine_rank {ms : List Int} {c : Int} (h : ∀ i, i < ms.length → 0 ≤ ith ms i ∧ ith ms i < c) : fineQ 1 ms c = distI ms := by
  unfold fineQ distI
  rw [if_neg (by decide), if_pos (.inl rfl), decide_eq_true h]
  rfl
theorem sort_lt {ms : List Int} : (∀ i, i < ms.length → 0 < i → ith ms (i - 1) < ith ms i) → sortI ms = true := fun h => decide_eq_true fun j h1 h2 => by
  have := h (j + 1) h2 (by omega)
  rw [Nat.add_sub_cancel] at this
  omega
theorem fine_mark {ms : List Int} {c : Int} (h : ∀ i, i < ms.length → 0 ≤ ith ms i ∧ ith ms i < c) : fineQ 2 ms c = (sortI ms && distI ms) := by
  unfold fineQ
  rw [if_neg (by decide), if_pos (.inr rfl), decide_eq_true h]
  show (true && (false || decide (∀ i, i < ms.length → 0 < i → ith ms (i - 1) < ith ms i)) && distI ms) = _
  rw [Bool.true_and, Bool.false_or]
  cases hd : distI ms with
  | false => rw [Bool.and_false, Bool.and_false]
  | true =>
    rw [Bool.and_true, Bool.and_true]
    have hd := of_decide_eq_true hd
    cases hs : sortI ms with
    | false =>
      refine decide_eq_false fun hh => ?_
      rw [sort_lt hh] at hs
      cases hs
    | true =>
      refine decide_eq_true fun i hi h0 => ?_
      have h1 := of_decide_eq_true hs (i - 1) (by omega) (by omega)
      rw [Nat.sub_add_cancel h0] at h1
      have h2 : ¬ ith ms (i - 1) = ith ms i := fun e => by
        have := hd i hi
        rw [inI_yes (k := i - 1) (by omega) e] at this
        cases this
      omega
theorem fine_other {kd : Nat} {ms : List Int} {c : Int} (h1 : ¬ kd = 1) (h2 : ¬ kd = 2) (h3 : ¬ kd = 3) : fineQ kd ms c = false := by
  unfold fineQ
  rw [if_neg h3, if_neg (by omega)]

theorem inI_step (ms : List Int) (i : Nat) (v : Int) : inI ms (i + 1) v = (inI ms i v || decide (ith ms i = v)) := by
  cases h : inI ms i v with
  | true =>
    obtain ⟨k, hk, e⟩ := of_decide_eq_true h
    exact inI_yes (by omega) e
  | false =>
    rw [Bool.false_or]
    by_cases e : ith ms i = v
    · rw [decide_eq_true e]
      exact inI_yes (Nat.lt_succ_self i) e
    · rw [decide_eq_false e]
      refine inI_no fun k hk e2 => ?_
      by_cases hki : k = i
      · subst hki; exact e e2
      · rw [inI_yes (k := k) (by omega) e2] at h
        cases h

/-- Which of ten numbers stand among the first i. -/
def seenC (ms : List Int) (i : Nat) : Array Value := ((List.range 10).map fun v => Value.bool (inI ms i (v : Nat))).toArray
theorem seen_zero (ms : List Int) : seenC ms 0 = #[.bool false, .bool false, .bool false, .bool false, .bool false, .bool false, .bool false, .bool false, .bool false, .bool false] := by
  have h : ∀ v : Int, inI ms 0 v = false := fun v => inI_no fun k hk => absurd hk (by omega)
  simp [seenC, h, List.range_succ]
theorem seen_at (ms : List Int) (i m : Nat) (h : m < 10) : (seenC ms i)[m]? = some (.bool (inI ms i (m : Nat))) := by simp [seenC, h]
theorem seen_step {ms : List Int} {i m : Nat} (h : m < 10) (e : ith ms i = (m : Nat)) : (seenC ms i).setIfInBounds m (.bool true) = seenC ms (i + 1) := by
  apply Array.ext'
  refine List.ext_getElem? fun j => ?_
  simp only [seenC, List.setIfInBounds_toArray, List.getElem?_set]
  by_cases hj : m = j
  · subst hj
    simp [h, inI_step, e]
  · by_cases hj10 : j < 10
    · have : ¬ ((m : Nat) : Int) = ((j : Nat) : Int) := by omega
      simp [hj, hj10, inI_step, e, this]
    · simp [hj, hj10]

set_option maxRecDepth 100000 in
set_option maxHeartbeats 2000000 in
theorem fine_any (w : World) (kd : Nat) (hk : kd < 256) {a_m : Option Addr} {n_m c_m : Nat} {ms : List Int} (h_m : RdI w a_m n_m c_m ms) (c : Int) (hc1 : 1 ≤ c) (hc2 : c ≤ 10) : Calls Try.prog 43 #[.agg #[.int .u8 ((kd : Nat) : Int), .slice a_m n_m c_m], .int .i64 c] w (fun e w' => e = .returned (.bool (fineQ kd ms c)) ∧ Below w.heap.size w w') := by
  have HM := Lib.hid h_m.len
  have hnm := h_m.lt
  obtain ⟨r, hr0⟩ : ∃ r, fineQ kd ms c = r := ⟨_, rfl⟩
  rw [hr0]
  have HR := Lib.hid hr0
  clear hr0
  have B0 : Below w.heap.size w w := Below.refl _ _
  have h_m_0 := h_m
  go_enter Try.func43, Try.ntmps43
  have hb := below_al w (.cells #[.int .u8 ((kd : Nat) : Int), .slice a_m n_m c_m] 37)
  have B1 := B0.trans (hb.mono B0.size)
  have h_m_1 := h_m_0.below hb
  clear hb B0 h_m_0
  have h_b_1 := PRow.new 37 w #[.int .u8 ((kd : Nat) : Int), .slice a_m n_m c_m]
  have k_b_0 := h_b_1.cell 0 _ rfl
  have k_b_1 := h_b_1.cell 1 _ rfl
  go_wp2_with fail
  clear k_b_0 k_b_1
  generalize (w.alloc (.cells #[.int .u8 ((kd : Nat) : Int), .slice a_m n_m c_m] 37)) = w1 at *
  by_cases h3 : kd = 3
  case pos =>
    have e3 : (((kd : Nat) : Int) == 3) = true := by simp; omega
    have e3n : (((kd : Nat) : Int) != 3) = false := by simp; omega
    have H3 := Lib.hid h3
    clear h3
    have HB := Lib.hid h_b_1
    have HMM := Lib.hid h_m_1
    go_loopw [13] (fun jv wr => ∃ i : Nat, i ≤ n_m ∧ jv = .int .i64 (i : Nat) ∧ w1 = wr ∧ Hid (∀ k, k < i → 0 ≤ ith ms k ∧ ith ms k < 11)) (fun jv _ => n_m - (intOf jv).toNat)
    case atStart => exact ⟨0, Nat.zero_le _, rfl, rfl, Lib.hid fun k hk => absurd hk (by omega)⟩
    case round =>
      obtain ⟨i, hi, rfl, hww, hS⟩ := hrel
      subst hww
      have k_b0 := HB.out.cell 0 _ rfl
      by_cases hlt : i < n_m
      case pos =>
        obtain ⟨b, off, rfl, hcc⟩ := HMM.out.addrI (by omega)
        have kx := hcc i hlt
        clear hcc
        obtain ⟨x, hx⟩ : ∃ x, ith ms i = x := ⟨_, rfl⟩
        rw [hx] at kx
        have HX := Lib.hid hx
        clear hx
        by_cases g : 0 ≤ x ∧ x < 11
        case pos =>
          have HG : Hid (0 ≤ ith ms i ∧ ith ms i < 11) := Lib.hid (by rw [HX.out]; exact g)
          have HWI := Lib.hid (within_yes g)
          clear g
          go_wp2_with fail
          refine (within_any _ x 0 11).mono ?_
          rintro e w9 ⟨rfl, hw9⟩
          subst hw9
          rw [HWI.out]
          go_wp2_with fail
          go_roundw
          case rel => exact ⟨i + 1, by omega, by go_num, by trivial, Lib.hid fun k hk => by
                        by_cases hki : k < i
                        · exact hS.out k hki
                        · obtain rfl : k = i := by omega
                          exact HG.out⟩
          case measure => simp [intOf]; omega
        case neg =>
          have HF := Lib.hid (show r = false by rw [← HR.out]; exact fine_bad (i := i) (by rw [HM.out]; exact hlt) (by rw [HX.out]; rw [if_pos H3.out]; exact g))
          have HWI := Lib.hid (within_no g)
          clear g
          go_wp2_with fail
          refine (within_any _ x 0 11).mono ?_
          rintro e w9 ⟨rfl, hw9⟩
          subst hw9
          rw [HWI.out]
          go_wp2_with fail
          go_ret
          exact ⟨by rw [HF.out]; rfl, B1⟩
      case neg =>
        obtain rfl : n_m = i := by omega
        have HA := Lib.hid (show ∀ k, k < ms.length → 0 ≤ ith ms k ∧ ith ms k < 11 by rw [HM.out]; exact hS.out)
        clear hlt hi hS
        have HF := Lib.hid (show r = decide ((ms.length : Int) = c) by rw [← HR.out, H3.out]; exact fine_score HA.out)
        have hcmp : (((n_m : Nat) : Int) == c) = decide (((n_m : Nat) : Int) = c) := rfl
        have k_b_0 := h_b_1.cell 0 _ rfl
        have k_b_1 := h_b_1.cell 1 _ rfl
        go_wp2_with fail
        clear k_b_0 k_b_1
        go_ret
        exact ⟨by rw [HF.out, HM.out]; rfl, B1⟩
  have e3 : (((kd : Nat) : Int) == 3) = false := by simp; omega
  have e3n : (((kd : Nat) : Int) != 3) = true := by simp; omega
  by_cases h2 : kd = 2
  case pos =>
    have e2 : (((kd : Nat) : Int) == 2) = true := by simp; omega
    have H2 := Lib.hid h2
    clear h2
    have HB := Lib.hid h_b_1
    have HMM := Lib.hid h_m_1
    go_loopw [13] (fun jv wr => ∃ i : Nat, i ≤ n_m ∧ jv = .int .i64 (i : Nat) ∧ w1 = wr ∧ Hid (∀ k, k < i → 0 ≤ ith ms k ∧ ith ms k < c)) (fun jv _ => n_m - (intOf jv).toNat)
    case atStart => exact ⟨0, Nat.zero_le _, rfl, rfl, Lib.hid fun k hk => absurd hk (by omega)⟩
    case round =>
      obtain ⟨i, hi, rfl, hww, hS⟩ := hrel
      subst hww
      have k_b0 := HB.out.cell 0 _ rfl
      by_cases hlt : i < n_m
      case pos =>
        obtain ⟨b, off, rfl, hcc⟩ := HMM.out.addrI (by omega)
        have kx := hcc i hlt
        clear hcc
        obtain ⟨x, hx⟩ : ∃ x, ith ms i = x := ⟨_, rfl⟩
        rw [hx] at kx
        have HX := Lib.hid hx
        clear hx
        by_cases g : 0 ≤ x ∧ x < c
        case pos =>
          have HG : Hid (0 ≤ ith ms i ∧ ith ms i < c) := Lib.hid (by rw [HX.out]; exact g)
          have HWI := Lib.hid (within_yes g)
          clear g
          go_wp2_with fail
          refine (within_any _ x 0 c).mono ?_
          rintro e w9 ⟨rfl, hw9⟩
          subst hw9
          rw [HWI.out]
          go_wp2_with fail
          go_roundw
          case rel => exact ⟨i + 1, by omega, by go_num, by trivial, Lib.hid fun k hk => by
                        by_cases hki : k < i
                        · exact hS.out k hki
                        · obtain rfl : k = i := by omega
                          exact HG.out⟩
          case measure => simp [intOf]; omega
        case neg =>
          have HF := Lib.hid (show r = false by rw [← HR.out]; exact fine_bad (i := i) (by rw [HM.out]; exact hlt) (by rw [HX.out]; rw [if_neg h3]; exact g))
          have HWI := Lib.hid (within_no g)
          clear g
          go_wp2_with fail
          refine (within_any _ x 0 c).mono ?_
          rintro e w9 ⟨rfl, hw9⟩
          subst hw9
          rw [HWI.out]
          go_wp2_with fail
          go_ret
          exact ⟨by rw [HF.out]; rfl, B1⟩
      case neg =>
        obtain rfl : n_m = i := by omega
        have HA := Lib.hid (show ∀ k, k < ms.length → 0 ≤ ith ms k ∧ ith ms k < c by rw [HM.out]; exact hS.out)
        clear hlt hi hS
        have k_b_0 := h_b_1.cell 0 _ rfl
        have k_b_1 := h_b_1.cell 1 _ rfl
        go_wp2_with fail
        clear k_b_0 k_b_1
        obtain ⟨so, hso⟩ : ∃ so, sortI ms = so := ⟨_, rfl⟩
        have HSO := Lib.hid hso
        clear hso
        have c := sorted_any w1 h_m_1
        rw [HSO.out] at c
        refine c.mono ?_
        rintro e w2 ⟨rfl, hb⟩
        clear c
        have B2 := B1.trans (hb.mono B1.size)
        have h_m_2 := h_m_1.below hb
        have h_b_2 := h_b_1.later hb
        clear hb B1 h_m_1 h_b_1
        cases so
        case false =>
          have HF := Lib.hid (show r = false by rw [← HR.out, H2.out, fine_mark HA.out, HSO.out]; rfl)
          go_wp2_with fail
          go_ret
          exact ⟨by rw [HF.out]; rfl, B2⟩
        case true =>
          have HD := Lib.hid (show r = distI ms by rw [← HR.out, H2.out, fine_mark HA.out, HSO.out]; rfl)
          have HMB := Lib.hid h_m_2
          have HB0 := Lib.hid B2
          have hb := below_al w2 (.cells #[.bool false, .bool false, .bool false, .bool false, .bool false, .bool false, .bool false, .bool false, .bool false, .bool false] 120)
          have B3 := B2.trans (hb.mono B2.size)
          have h_m_3 := h_m_2.below hb
          have h_b_3 := h_b_2.later hb
          clear hb B2 h_m_2 h_b_2
          have h_n_3 := PRow.new 120 w2 #[.bool false, .bool false, .bool false, .bool false, .bool false, .bool false, .bool false, .bool false, .bool false, .bool false]
          have HBB := Lib.hid h_b_3
          have k_b_0 := h_b_3.cell 0 _ rfl
          have k_b_1 := h_b_3.cell 1 _ rfl
          go_wp2_with fail
          clear k_b_0 k_b_1
          generalize (w2.alloc (.cells #[.bool false, .bool false, .bool false, .bool false, .bool false, .bool false, .bool false, .bool false, .bool false, .bool false] 120)) = w3 at *
          rw [← seen_zero ms] at h_n_3
          have HMQ := Lib.hid (h_m_3)
          go_loopw [57] (fun jv wr => ∃ i : Nat, i ≤ n_m ∧ jv = .int .i64 (i : Nat) ∧ PRow 120 w2 wr w2.heap.size (seenC ms i) ∧ Hid (∀ k, k < i → inI ms k (ith ms k) = false)) (fun jv _ => n_m - (intOf jv).toNat)
          case atStart => exact ⟨0, Nat.zero_le _, rfl, h_n_3, Lib.hid fun k hk => absurd hk (by omega)⟩
          case round =>
            rename World => wr
            obtain ⟨i, hi, rfl, PS, hS⟩ := hrel
            have hBW := HB0.out.trans (PS.below.mono HB0.out.size)
            by_cases hlt : i < n_m
            case pos =>
              obtain ⟨b, off, rfl, hcc⟩ := (HMB.out.below PS.below).addrI (by omega)
              have kx := hcc i hlt
              clear hcc
              obtain ⟨x1, x2⟩ := HA.out i (by rw [HM.out]; exact hlt)
              obtain ⟨m, hm⟩ : ∃ m : Nat, ith ms i = (m : Nat) := ⟨(ith ms i).toNat, by omega⟩
              rw [hm] at kx x2
              have HX := Lib.hid hm
              clear hm x1
              have hm10 : m < 10 := by omega
              have hmz : ((m : Nat) : Int) < 10 := by omega
              have kn := PS.cell m _ (seen_at ms i m hm10)
              have fn := PS.free m
              obtain ⟨bv, hbv⟩ : ∃ bv, inI ms i (m : Nat) = bv := ⟨_, rfl⟩
              rw [hbv] at kn
              have HBV := Lib.hid hbv
              clear hbv
              cases bv with
              | true =>
                have HF := Lib.hid (show r = false by rw [HD.out]; refine decide_eq_false fun hh => ?_; have := hh i (by rw [HM.out]; exact hlt); rw [HX.out, HBV.out] at this; cases this)
                go_wp2_with fail
                go_ret
                exact ⟨by rw [HF.out]; rfl, hBW⟩
              | false =>
                have h5 := PS.set m (.bool true)
                rw [seen_step hm10 HX.out] at h5
                have h6 : Hid (∀ k, k < i + 1 → inI ms k (ith ms k) = false) := Lib.hid fun k hk => by
                  by_cases hki : k < i
                  · exact hS.out k hki
                  · obtain rfl : k = i := by omega
                    rw [HX.out]; exact HBV.out
                go_wp2_with fail
                go_roundw
                case rel => exact ⟨i + 1, by omega, by go_num, h5, h6⟩
                case measure => simp [intOf]; omega
            case neg =>
              obtain rfl : n_m = i := by omega
              have HF := Lib.hid (show r = true by rw [HD.out]; exact decide_eq_true (by rw [HM.out]; exact hS.out))
              go_wp2_with fail
              go_ret
              exact ⟨by rw [HF.out]; rfl, hBW⟩
  by_cases h1 : kd = 1
  case pos =>
    have e2 : (((kd : Nat) : Int) == 2) = false := by simp; omega
    have e1 : (((kd : Nat) : Int) == 1) = true := by simp; omega
    have H1 := Lib.hid h1
    clear h1 h2
    have HB := Lib.hid h_b_1
    have HMM := Lib.hid h_m_1
    go_loopw [13] (fun jv wr => ∃ i : Nat, i ≤ n_m ∧ jv = .int .i64 (i : Nat) ∧ w1 = wr ∧ Hid (∀ k, k < i → 0 ≤ ith ms k ∧ ith ms k < c)) (fun jv _ => n_m - (intOf jv).toNat)
    case atStart => exact ⟨0, Nat.zero_le _, rfl, rfl, Lib.hid fun k hk => absurd hk (by omega)⟩
    case round =>
      obtain ⟨i, hi, rfl, hww, hS⟩ := hrel
      subst hww
      have k_b0 := HB.out.cell 0 _ rfl
      by_cases hlt : i < n_m
      case pos =>
        obtain ⟨b, off, rfl, hcc⟩ := HMM.out.addrI (by omega)
        have kx := hcc i hlt
        clear hcc
        obtain ⟨x, hx⟩ : ∃ x, ith ms i = x := ⟨_, rfl⟩
        rw [hx] at kx
        have HX := Lib.hid hx
        clear hx
        by_cases g : 0 ≤ x ∧ x < c
        case pos =>
          have HG : Hid (0 ≤ ith ms i ∧ ith ms i < c) := Lib.hid (by rw [HX.out]; exact g)
          have HWI := Lib.hid (within_yes g)
          clear g
          go_wp2_with fail
          refine (within_any _ x 0 c).mono ?_
          rintro e w9 ⟨rfl, hw9⟩
          subst hw9
          rw [HWI.out]
          go_wp2_with fail
          go_roundw
          case rel => exact ⟨i + 1, by omega, by go_num, by trivial, Lib.hid fun k hk => by
                        by_cases hki : k < i
                        · exact hS.out k hki
                        · obtain rfl : k = i := by omega
                          exact HG.out⟩
          case measure => simp [intOf]; omega
        case neg =>
          have HF := Lib.hid (show r = false by rw [← HR.out]; exact fine_bad (i := i) (by rw [HM.out]; exact hlt) (by rw [HX.out]; rw [if_neg h3]; exact g))
          have HWI := Lib.hid (within_no g)
          clear g
          go_wp2_with fail
          refine (within_any _ x 0 c).mono ?_
          rintro e w9 ⟨rfl, hw9⟩
          subst hw9
          rw [HWI.out]
          go_wp2_with fail
          go_ret
          exact ⟨by rw [HF.out]; rfl, B1⟩
      case neg =>
        obtain rfl : n_m = i := by omega
        have HA := Lib.hid (show ∀ k, k < ms.length → 0 ≤ ith ms k ∧ ith ms k < c by rw [HM.out]; exact hS.out)
        clear hlt hi hS
        have HD := Lib.hid (show r = distI ms by rw [← HR.out, H1.out]; exact fine_rank HA.out)
        have HMB := Lib.hid h_m_1
        have HB0 := Lib.hid B1
        have hb := below_al w1 (.cells #[.bool false, .bool false, .bool false, .bool false, .bool false, .bool false, .bool false, .bool false, .bool false, .bool false] 120)
        have B2 := B1.trans (hb.mono B1.size)
        have h_m_2 := h_m_1.below hb
        have h_b_2 := h_b_1.later hb
        clear hb B1 h_m_1 h_b_1
        have h_n_2 := PRow.new 120 w1 #[.bool false, .bool false, .bool false, .bool false, .bool false, .bool false, .bool false, .bool false, .bool false, .bool false]
        have HBB := Lib.hid h_b_2
        have k_b_0 := h_b_2.cell 0 _ rfl
        have k_b_1 := h_b_2.cell 1 _ rfl
        go_wp2_with fail
        clear k_b_0 k_b_1
        generalize (w1.alloc (.cells #[.bool false, .bool false, .bool false, .bool false, .bool false, .bool false, .bool false, .bool false, .bool false, .bool false] 120)) = w2 at *
        rw [← seen_zero ms] at h_n_2
        have HMQ := Lib.hid (h_m_2)
        go_loopw [57] (fun jv wr => ∃ i : Nat, i ≤ n_m ∧ jv = .int .i64 (i : Nat) ∧ PRow 120 w1 wr w1.heap.size (seenC ms i) ∧ Hid (∀ k, k < i → inI ms k (ith ms k) = false)) (fun jv _ => n_m - (intOf jv).toNat)
        case atStart => exact ⟨0, Nat.zero_le _, rfl, h_n_2, Lib.hid fun k hk => absurd hk (by omega)⟩
        case round =>
          rename World => wr
          obtain ⟨i, hi, rfl, PS, hS⟩ := hrel
          have hBW := HB0.out.trans (PS.below.mono HB0.out.size)
          by_cases hlt : i < n_m
          case pos =>
            obtain ⟨b, off, rfl, hcc⟩ := (HMB.out.below PS.below).addrI (by omega)
            have kx := hcc i hlt
            clear hcc
            obtain ⟨x1, x2⟩ := HA.out i (by rw [HM.out]; exact hlt)
            obtain ⟨m, hm⟩ : ∃ m : Nat, ith ms i = (m : Nat) := ⟨(ith ms i).toNat, by omega⟩
            rw [hm] at kx x2
            have HX := Lib.hid hm
            clear hm x1
            have hm10 : m < 10 := by omega
            have hmz : ((m : Nat) : Int) < 10 := by omega
            have kn := PS.cell m _ (seen_at ms i m hm10)
            have fn := PS.free m
            obtain ⟨bv, hbv⟩ : ∃ bv, inI ms i (m : Nat) = bv := ⟨_, rfl⟩
            rw [hbv] at kn
            have HBV := Lib.hid hbv
            clear hbv
            cases bv with
            | true =>
              have HF := Lib.hid (show r = false by rw [HD.out]; refine decide_eq_false fun hh => ?_; have := hh i (by rw [HM.out]; exact hlt); rw [HX.out, HBV.out] at this; cases this)
              go_wp2_with fail
              go_ret
              exact ⟨by rw [HF.out]; rfl, hBW⟩
            | false =>
              have h5 := PS.set m (.bool true)
              rw [seen_step hm10 HX.out] at h5
              have h6 : Hid (∀ k, k < i + 1 → inI ms k (ith ms k) = false) := Lib.hid fun k hk => by
                by_cases hki : k < i
                · exact hS.out k hki
                · obtain rfl : k = i := by omega
                  rw [HX.out]; exact HBV.out
              go_wp2_with fail
              go_roundw
              case rel => exact ⟨i + 1, by omega, by go_num, h5, h6⟩
              case measure => simp [intOf]; omega
          case neg =>
            obtain rfl : n_m = i := by omega
            have HF := Lib.hid (show r = true by rw [HD.out]; exact decide_eq_true (by rw [HM.out]; exact hS.out))
            go_wp2_with fail
            go_ret
            exact ⟨by rw [HF.out]; rfl, hBW⟩
  have HF := Lib.hid (show r = false by rw [← HR.out]; exact fine_other h1 h2 h3)
  have e1 : (((kd : Nat) : Int) == 1) = false := by simp; omega
  have e2 : (((kd : Nat) : Int) == 2) = false := by simp; omega
  have HB := Lib.hid h_b_1
  have HMM := Lib.hid h_m_1
  go_loopw [13] (fun jv wr => ∃ i : Nat, i ≤ n_m ∧ jv = .int .i64 (i : Nat) ∧ w1 = wr ∧ Hid (∀ k, k < i → 0 ≤ ith ms k ∧ ith ms k < c)) (fun jv _ => n_m - (intOf jv).toNat)
  case atStart => exact ⟨0, Nat.zero_le _, rfl, rfl, Lib.hid fun k hk => absurd hk (by omega)⟩
  case round =>
    obtain ⟨i, hi, rfl, hww, hS⟩ := hrel
    subst hww
    have k_b0 := HB.out.cell 0 _ rfl
    by_cases hlt : i < n_m
    case pos =>
      obtain ⟨b, off, rfl, hcc⟩ := HMM.out.addrI (by omega)
      have kx := hcc i hlt
      clear hcc
      obtain ⟨x, hx⟩ : ∃ x, ith ms i = x := ⟨_, rfl⟩
      rw [hx] at kx
      have HX := Lib.hid hx
      clear hx
      by_cases g : 0 ≤ x ∧ x < c
      case pos =>
        have HG : Hid (0 ≤ ith ms i ∧ ith ms i < c) := Lib.hid (by rw [HX.out]; exact g)
        have HWI := Lib.hid (within_yes g)
        clear g
        go_wp2_with fail
        refine (within_any _ x 0 c).mono ?_
        rintro e w9 ⟨rfl, hw9⟩
        subst hw9
        rw [HWI.out]
        go_wp2_with fail
        go_roundw
        case rel => exact ⟨i + 1, by omega, by go_num, by trivial, Lib.hid fun k hk => by
                      by_cases hki : k < i
                      · exact hS.out k hki
                      · obtain rfl : k = i := by omega
                        exact HG.out⟩
        case measure => simp [intOf]; omega
      case neg =>
        have HF := Lib.hid (show r = false by rw [← HR.out]; exact fine_bad (i := i) (by rw [HM.out]; exact hlt) (by rw [HX.out]; rw [if_neg h3]; exact g))
        have HWI := Lib.hid (within_no g)
        clear g
        go_wp2_with fail
        refine (within_any _ x 0 c).mono ?_
        rintro e w9 ⟨rfl, hw9⟩
        subst hw9
        rw [HWI.out]
        go_wp2_with fail
        go_ret
        exact ⟨by rw [HF.out]; rfl, B1⟩
    case neg =>
      obtain rfl : n_m = i := by omega
      have HA := Lib.hid (show ∀ k, k < ms.length → 0 ≤ ith ms k ∧ ith ms k < c by rw [HM.out]; exact hS.out)
      clear hlt hi hS
      have k_b_0 := h_b_1.cell 0 _ rfl
      have k_b_1 := h_b_1.cell 1 _ rfl
      go_wp2_with fail
      clear k_b_0 k_b_1
      go_ret
      exact ⟨by rw [HF.out]; rfl, B1⟩

set_option maxRecDepth 100000 in
set_option maxHeartbeats 2000000 in
theorem ballCheck_any (w : World) (kd : Nat) (hk : kd < 256) {a_m : Option Addr} {n_m c_m : Nat} {ms : List Int} (h_m : RdI w a_m n_m c_m ms) (c : Int) : Calls Try.prog 20 #[.agg #[.int .u8 ((kd : Nat) : Int), .slice a_m n_m c_m], .int .i64 c] w (fun e w' => e = .returned (.int .i64 (ballC kd ms c)) ∧ Below w.heap.size w w') := by
  obtain ⟨r, hr0⟩ : ∃ r, ballC kd ms c = r := ⟨_, rfl⟩
  rw [hr0]
  have HR := Lib.hid hr0
  clear hr0
  obtain ⟨f, hf⟩ : ∃ f, fineQ kd ms c = f := ⟨_, rfl⟩
  have HF := Lib.hid hf
  clear hf
  have B0 : Below w.heap.size w w := Below.refl _ _
  have h_m_0 := h_m
  go_enter Try.func20, Try.ntmps20
  have hb := below_al w (.cells #[.int .u8 ((kd : Nat) : Int), .slice a_m n_m c_m] 37)
  have B1 := B0.trans (hb.mono B0.size)
  have h_m_1 := h_m_0.below hb
  clear hb B0 h_m_0
  have h_b_1 := PRow.new 37 w #[.int .u8 ((kd : Nat) : Int), .slice a_m n_m c_m]
  go_wp2_with fail
  generalize (w.alloc (.cells #[.int .u8 ((kd : Nat) : Int), .slice a_m n_m c_m] 37)) = w1 at *
  refine (within_any _ c 1 11).mono ?_
  rintro e w9 ⟨rfl, hw9⟩
  subst hw9
  by_cases hc : 1 ≤ c ∧ c < 11
  case neg =>
    have HRR := Lib.hid (show r = 2 by rw [← HR.out]; unfold ballC; rw [if_neg (by omega)])
    rw [within_no hc]
    go_wp2_with fail
    go_ret
    exact ⟨by rw [HRR.out]; rfl, B1⟩
  have HRR := Lib.hid (show r = if f = true then 0 else 8 by rw [← HR.out, ← HF.out]; unfold ballC; rw [if_pos (by omega)])
  rw [within_yes hc]
  have k_b_0 := h_b_1.cell 0 _ rfl
  have k_b_1 := h_b_1.cell 1 _ rfl
  go_wp2_with fail
  clear k_b_0 k_b_1
  have c := fine_any w1 kd hk h_m_1 c hc.1 (by omega)
  rw [HF.out] at c
  refine c.mono ?_
  rintro e w2 ⟨rfl, hb⟩
  clear c
  have B2 := B1.trans (hb.mono B1.size)
  have h_m_2 := h_m_1.below hb
  have h_b_2 := h_b_1.later hb
  clear hb B1 h_m_1 h_b_1
  cases f
  case false =>
    go_wp2_with fail
    go_ret
    exact ⟨by rw [HRR.out]; rfl, B2⟩
  case true =>
    go_wp2_with fail
    go_ret
    exact ⟨by rw [HRR.out]; rfl, B2⟩

end Go.Proofs.Ythpjnbnheagpiaa
