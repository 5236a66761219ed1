/- The answer's Fine, Ints, Same and Great of ballots, and Same of readings. No condition. Printed by gen_shef.py. -/
import Derived.Test.YtlfempfhohejiaaSheD
namespace Go.Proofs.Ytlfempfhohejiaa
open Go.RowKit Go.Suf
set_option linter.unusedVariables false
set_option linter.unusedSimpArgs false

theorem inI_take {ms : List Int} {i : Nat} {v : Int} : inI (List.take i ms) i v = inI ms i v := by
  unfold inI
  refine decide_eq_decide.2 ⟨fun ⟨k, hk, e⟩ => ⟨k, hk, ?_⟩, fun ⟨k, hk, e⟩ => ⟨k, hk, ?_⟩⟩
  · rw [← e]; simp [gth, List.getD_eq_getElem?_getD, List.getElem?_take, hk]
  · rw [← e]; simp [gth, List.getD_eq_getElem?_getD, List.getElem?_take, hk]
theorem fine_all {kd : Nat} {ms : List Int} {c : Int} (h12 : kd = 1 ∨ kd = 2) (h3 : ¬ kd = 3) (h : ∀ k, k < ms.length → (0 ≤ ith ms k ∧ ith ms k < c) ∧ inI ms k (ith ms k) = false ∧ (kd = 2 → 0 < k → ith ms (k - 1) < ith ms k)) : fineQ kd ms c = true := by
  unfold fineQ
  rw [if_neg h3, if_pos h12, decide_eq_true (fun i hi => (h i hi).1), decide_eq_true (fun i hi => (h i hi).2.1), Bool.and_true, Bool.true_and]
  rcases h12 with h1 | h2
  · rw [decide_eq_true h1]; rfl
  · rw [decide_eq_true (fun i hi h0 => (h i hi).2.2 h2 h0), Bool.or_true]
theorem fine_dup {kd : Nat} {ms : List Int} {c : Int} {i : Nat} (h3 : ¬ kd = 3) (hi : i < ms.length) (h : inI ms i (ith ms i) = true) : fineQ kd ms c = false := by
  unfold fineQ
  rw [if_neg h3]
  split
  · rw [decide_eq_false (p := ∀ i, i < ms.length → inI ms i (ith ms i) = false) (fun hh => by rw [hh i hi] at h; cases h), Bool.and_false]
  · rfl
theorem fine_down {kd : Nat} {ms : List Int} {c : Int} {i : Nat} (h2 : kd = 2) (hi : i < ms.length) (h0 : 0 < i) (h : ¬ ith ms (i - 1) < ith ms i) : fineQ kd ms c = false := by
  unfold fineQ
  rw [if_neg (by omega), if_pos (.inr h2), decide_eq_false (p := kd = 1) (by omega), decide_eq_false (p := ∀ i, i < ms.length → 0 < i → ith ms (i - 1) < ith ms i) (fun hh => h (hh i hi h0))]
  simp

set_option maxRecDepth 100000 in
set_option maxHeartbeats 4000000 in
theorem refFine_any (w : World) (kd : Nat) (hk : kd < 256) {a_m : Option Addr} {n_m c_m : Nat} {ms : List Int} (h_m : RdI w a_m n_m c_m ms) (c : Int) : Calls Try.prog 54 #[.agg #[.int .u8 ((kd : Nat) : Int), .slice a_m n_m c_m], .int .i64 c] w (fun e w' => e = .returned (.bool (fineQ kd ms c)) ∧ Below w.heap.size w w') := by
  have HM := Lib.hid h_m.len
  have hnm := h_m.lt
  obtain ⟨r, hr0⟩ : ∃ r, fineQ kd ms c = r := ⟨_, rfl⟩
  rw [hr0]
  have HR := Lib.hid hr0
  clear hr0
  have B0 : Below w.heap.size w w := Below.refl _ _
  have h_m_0 := h_m
  go_enter Try.func54, Try.ntmps54
  have hb := below_al w (.cells #[.int .u8 ((kd : Nat) : Int), .slice a_m n_m c_m] 39)
  have B1 := B0.trans (hb.mono B0.size)
  have h_m_1 := h_m_0.below hb
  clear hb B0 h_m_0
  have h_b_1 := PRow.new 39 w #[.int .u8 ((kd : Nat) : Int), .slice a_m n_m c_m]
  by_cases h3 : kd = 3
  case pos =>
    have e3 : (((kd : Nat) : Int) == 3) = true := by simp; omega
    have H3 := Lib.hid h3
    clear h3
    have k_b_0 := h_b_1.cell 0 _ rfl
    have k_b_1 := h_b_1.cell 1 _ rfl
    go_wp2_with fail
    clear k_b_0 k_b_1
    generalize (w.alloc (.cells #[.int .u8 ((kd : Nat) : Int), .slice a_m n_m c_m] 39)) = w1 at *
    have HMM := Lib.hid h_m_1
    go_loopw [6] (fun jv wr => ∃ i : Nat, i ≤ n_m ∧ jv = .int .i64 (i : Nat) ∧ w1 = wr ∧ Hid (∀ k, k < i → 0 ≤ ith ms k ∧ ith ms k < 11)) (fun jv _ => n_m - (intOf jv).toNat)
    case atStart => exact ⟨0, Nat.zero_le _, rfl, rfl, Lib.hid fun k hk => absurd hk (by omega)⟩
    case round =>
      obtain ⟨i, hi, rfl, hww, hS⟩ := hrel
      subst hww
      by_cases hlt : i < n_m
      case pos =>
        obtain ⟨b, off, rfl, hcc⟩ := HMM.out.addrI (by omega)
        have kx := hcc i hlt
        clear hcc
        obtain ⟨x, hx⟩ : ∃ x, ith ms i = x := ⟨_, rfl⟩
        rw [hx] at kx
        have HX := Lib.hid hx
        clear hx
        by_cases g : 0 ≤ x ∧ x < 11
        case pos =>
          have HG : Hid (0 ≤ ith ms i ∧ ith ms i < 11) := Lib.hid (by rw [HX.out]; exact g)
          have d1 : decide (x < 0) = false := decide_eq_false (by omega)
          have d2 : decide (x > 10) = false := decide_eq_false (by omega)
          go_wp2_with fail
          go_roundw
          case rel => exact ⟨i + 1, by omega, by go_num, by trivial, Lib.hid fun k hk => by
                        by_cases hki : k < i
                        · exact hS.out k hki
                        · obtain rfl : k = i := by omega
                          exact HG.out⟩
          case measure => simp [intOf]; omega
        case neg =>
          have HF := Lib.hid (show r = false by rw [← HR.out]; exact fine_bad (i := i) (by rw [HM.out]; exact hlt) (by rw [HX.out, if_pos H3.out]; exact g))
          by_cases d1 : x < 0
          case pos =>
            have d2 : decide (x < 0) = true := decide_eq_true d1
            go_wp2_with fail
            go_ret
            exact ⟨by rw [HF.out]; rfl, B1⟩
          case neg =>
            have d2 : decide (x < 0) = false := decide_eq_false d1
            have d3 : decide (x > 10) = true := decide_eq_true (by omega)
            clear g
            go_wp2_with fail
            go_ret
            exact ⟨by rw [HF.out]; rfl, B1⟩
      case neg =>
        obtain rfl : n_m = i := by omega
        have HA := Lib.hid (show ∀ k, k < ms.length → 0 ≤ ith ms k ∧ ith ms k < 11 by rw [HM.out]; exact hS.out)
        have HF := Lib.hid (show r = decide ((ms.length : Int) = c) by rw [← HR.out, H3.out]; exact fine_score HA.out)
        go_wp2_with fail
        go_ret
        exact ⟨by rw [HF.out, HM.out]; rfl, B1⟩
  have e3 : (((kd : Nat) : Int) == 3) = false := by simp; omega
  by_cases h12 : kd = 1 ∨ kd = 2
  case neg =>
    have HF := Lib.hid (show r = false by rw [← HR.out]; exact fine_other (by omega) (by omega) h3)
    have e1 : (((kd : Nat) : Int) != 1) = true := by simp; omega
    have e2 : (((kd : Nat) : Int) != 2) = true := by simp; omega
    have k_b_0 := h_b_1.cell 0 _ rfl
    have k_b_1 := h_b_1.cell 1 _ rfl
    go_wp2_with fail
    clear k_b_0 k_b_1
    generalize (w.alloc (.cells #[.int .u8 ((kd : Nat) : Int), .slice a_m n_m c_m] 39)) = w1 at *
    go_ret
    exact ⟨by rw [HF.out]; rfl, B1⟩
  have H12 := Lib.hid h12
  have H3 := Lib.hid h3
  have E2 : ((((kd : Nat) : Int) == 2) = true ∧ (((kd : Nat) : Int) != 1) = true ∧ (((kd : Nat) : Int) != 2) = false) ∨ ((((kd : Nat) : Int) == 2) = false ∧ (((kd : Nat) : Int) != 1) = false) := by
    rcases h12 with h | h
    · right; constructor <;> (simp; omega)
    · left; refine ⟨?_, ?_, ?_⟩ <;> (simp; omega)
  have HE2 := Lib.hid E2
  by_cases hk2 : kd = 2
  case pos =>
    have H2 := Lib.hid hk2
    clear hk2
    have e2 : (((kd : Nat) : Int) == 2) = true := by have := H2.out; simp; omega
    have e1n : (((kd : Nat) : Int) != 1) = true := by have := H2.out; simp; omega
    have e2n : (((kd : Nat) : Int) != 2) = false := by have := H2.out; simp; omega
    have k_b_0 := h_b_1.cell 0 _ rfl
    have k_b_1 := h_b_1.cell 1 _ rfl
    go_wp2_with fail
    clear k_b_0 k_b_1
    generalize (w.alloc (.cells #[.int .u8 ((kd : Nat) : Int), .slice a_m n_m c_m] 39)) = w1 at *
    have HMM := Lib.hid h_m_1
    have HBB := Lib.hid h_b_1
    have HBZ := Lib.hid B1
    go_loopw [7] (fun jv wr => ∃ i : Nat, i ≤ n_m ∧ jv = .int .i64 (i : Nat) ∧ Below w1.heap.size w1 wr ∧ Hid (∀ k, k < i → (0 ≤ ith ms k ∧ ith ms k < c) ∧ inI ms k (ith ms k) = false ∧ (kd = 2 → 0 < k → ith ms (k - 1) < ith ms k))) (fun jv _ => n_m - (intOf jv).toNat)
    case atStart => exact ⟨0, Nat.zero_le _, rfl, Below.refl _ _, Lib.hid fun k hk => absurd hk (by omega)⟩
    case round =>
      rename World => wr
      obtain ⟨i, hi, rfl, BT, hS⟩ := hrel
      by_cases hlt : i < n_m
      case neg =>
        obtain rfl : n_m = i := by omega
        have HF := Lib.hid (show r = true by rw [← HR.out]; exact fine_all H12.out H3.out (by rw [HM.out]; exact hS.out))
        have BE := HBZ.out.trans (BT.mono HBZ.out.size)
        go_wp2_with fail
        go_ret
        exact ⟨by rw [HF.out]; rfl, BE⟩
      case pos =>
        have B300 := BT
        have h_m_300 := HMM.out.below BT
        have h_b_300 := HBB.out.later BT
        clear BT
        obtain ⟨b, off, rfl, hcc⟩ := h_m_300.addrI (by omega)
        have kx := hcc i hlt
        have HCC := Lib.hid hcc
        clear hcc
        obtain ⟨x, hx⟩ : ∃ x, ith ms i = x := ⟨_, rfl⟩
        rw [hx] at kx
        have HX := Lib.hid hx
        clear hx
        obtain ⟨a', hr', s1, s2⟩ := run_uptoG 0 etI h_m_300 i hi
        by_cases g : 0 ≤ x ∧ x < c
        have h_t_300 := hr'
        clear hr'
        case neg =>
          have HF := Lib.hid (show r = false by rw [← HR.out]; exact fine_bad (i := i) (by rw [HM.out]; exact hlt) (by rw [HX.out, if_neg H3.out]; exact g))
          by_cases d1 : x < 0
          case pos =>
            have d2 : decide (x < 0) = true := decide_eq_true d1
            have BE := HBZ.out.trans (B300.mono HBZ.out.size)
            go_wp2_with fail
            go_ret
            exact ⟨by rw [HF.out]; rfl, BE⟩
          have d2 : decide (x < 0) = false := decide_eq_false d1
          have d3 : decide (x ≥ c) = true := decide_eq_true (by omega)
          have d4 : decide (c ≤ x) = true := decide_eq_true (by omega)
          clear g
          have BE := HBZ.out.trans (B300.mono HBZ.out.size)
          go_wp2_with fail
          go_ret
          exact ⟨by rw [HF.out]; rfl, BE⟩
        have HG : Hid (0 ≤ ith ms i ∧ ith ms i < c) := Lib.hid (by rw [HX.out]; exact g)
        have d1 : decide (x < 0) = false := decide_eq_false (by omega)
        have d2 : decide (x ≥ c) = false := decide_eq_false (by omega)
        have d3 : decide (c ≤ x) = false := decide_eq_false (by omega)
        clear g
        by_cases h0 : i = 0
        case pos =>
          have HDN : Hid (kd = 2 → 0 < i → ith ms (i - 1) < ith ms i) := Lib.hid fun _ h => absurd h (by rw [h0]; decide)
          have kb0 := h_b_300.cell 0 _ rfl
          have dz : decide (0 < i) = false := decide_eq_false (by omega)
          have dz2 : decide (((i : Nat) : Int) > 0) = false := decide_eq_false (by omega)
          have H0 := Lib.hid h0
          clear h0
          go_upto_region 16 with fail
          have hb := (Below.refl wr.heap.size wr).drew
          replace kb0 := cell_below hb kb0
          replace kx := cell_below hb kx
          have B301 := B300.trans (hb.mono B300.size)
          have h_m_301 := h_m_300.below hb
          have h_b_301 := h_b_300.later hb
          have h_t_301 := h_t_300.below hb
          clear hb B300 h_m_300 h_b_300 h_t_300
          refine wp_region_held_drew (S := (fun w' => w'.cell? ⟨w.heap.size, 0, none⟩ = some (.int .u8 ((kd : Nat) : Int)) ∧ w'.cell? ⟨b, off + i, none⟩ = some (.int .i64 x) ∧ True)) (by kernel_rfl) ?_ (fun hHeld => ?_)
          · exact ⟨kb0, kx, trivial⟩
          generalize wr.drew = w301 at *
          refine wpAnyH_take (i := 0) (oi := ?oir1_0) (v := ?vr1_0) ?hir1_0 (by kernel_rfl) (by kernel_rfl) (by kernel_rfl) ?hqr1_0 ?hyr1_0 (by assumption) ?restr1_0
          case hir1_0 => simp only [List.getElem?_toArray, List.getElem?_cons_succ, List.getElem?_cons_zero]; rfl
          case hqr1_0 => exact fun _ _ _ h => h
          case hyr1_0 => (refine Or.inl ⟨by rfl, ?_⟩; intro w hSw; (try dsimp only at hSw); go_simp; all_goals with_reducible rfl)
          try simp only [Act.put, List.setIfInBounds_toArray, List.set_cons_zero, List.set_cons_succ]
          refine wpAnyH_take (i := 1) (oi := ?oir1_1) (v := ?vr1_1) ?hir1_1 (by kernel_rfl) (by kernel_rfl) (by kernel_rfl) ?hqr1_1 ?hyr1_1 (by assumption) ?restr1_1
          case hir1_1 => simp only [List.getElem?_toArray, List.getElem?_cons_succ, List.getElem?_cons_zero]; rfl
          case hqr1_1 => exact fun _ _ _ h => h
          case hyr1_1 => (refine Or.inl ⟨by rfl, ?_⟩; intro w hSw; (try dsimp only at hSw); go_simp; all_goals with_reducible rfl)
          try simp only [Act.put, List.setIfInBounds_toArray, List.set_cons_zero, List.set_cons_succ]
          refine wpAnyH_take (i := 2) (oi := ?oir1_2) (v := ?vr1_2) ?hir1_2 (by kernel_rfl) (by kernel_rfl) (by kernel_rfl) ?hqr1_2 ?hyr1_2 (by assumption) ?restr1_2
          case hir1_2 => simp only [List.getElem?_toArray, List.getElem?_cons_succ, List.getElem?_cons_zero]; rfl
          case hqr1_2 => exact fun _ _ _ h => h
          case hyr1_2 => (refine Or.inl ⟨by rfl, ?_⟩; intro w hSw; (try dsimp only at hSw); go_simp; all_goals with_reducible rfl)
          try simp only [Act.put, List.setIfInBounds_toArray, List.set_cons_zero, List.set_cons_succ]
          refine wpAnyH_take (i := 3) (oi := ?oir1_3) (v := undef) ?hir1_3 (by kernel_rfl) (by kernel_rfl) (by kernel_rfl) ?hqr1_3 ?hyr1_3 (by assumption) ?restr1_3
          case hir1_3 => simp only [List.getElem?_toArray, List.getElem?_cons_succ, List.getElem?_cons_zero]; rfl
          case hqr1_3 => exact fun _ _ _ h => h
          case hyr1_3 => exact Or.inr ⟨by rfl, rfl⟩
          try simp only [Act.put, List.setIfInBounds_toArray, List.set_cons_zero, List.set_cons_succ]
          refine wpAnyH_take (i := 4) (oi := ?oir1_4) (v := undef) ?hir1_4 (by kernel_rfl) (by kernel_rfl) (by kernel_rfl) ?hqr1_4 ?hyr1_4 (by assumption) ?restr1_4
          case hir1_4 => simp only [List.getElem?_toArray, List.getElem?_cons_succ, List.getElem?_cons_zero]; rfl
          case hqr1_4 => exact fun _ _ _ h => h
          case hyr1_4 => exact Or.inr ⟨by rfl, rfl⟩
          try simp only [Act.put, List.setIfInBounds_toArray, List.set_cons_zero, List.set_cons_succ]
          refine wpAnyH_take (i := 5) (oi := ?oir1_5) (v := undef) ?hir1_5 (by kernel_rfl) (by kernel_rfl) (by kernel_rfl) ?hqr1_5 ?hyr1_5 (by assumption) ?restr1_5
          case hir1_5 => simp only [List.getElem?_toArray, List.getElem?_cons_succ, List.getElem?_cons_zero]; rfl
          case hqr1_5 => exact fun _ _ _ h => h
          case hyr1_5 => exact Or.inr ⟨by rfl, rfl⟩
          try simp only [Act.put, List.setIfInBounds_toArray, List.set_cons_zero, List.set_cons_succ]
          refine wpAnyH_take (i := 6) (oi := ?oir1_6) (v := ?vr1_6) ?hir1_6 (by kernel_rfl) (by kernel_rfl) (by kernel_rfl) ?hqr1_6 ?hyr1_6 (by assumption) ?restr1_6
          case hir1_6 => simp only [List.getElem?_toArray, List.getElem?_cons_succ, List.getElem?_cons_zero]; rfl
          case hqr1_6 => exact fun _ _ _ h => h
          case hyr1_6 => (refine Or.inl ⟨by rfl, ?_⟩; intro w hSw; (try dsimp only at hSw); go_simp; all_goals with_reducible rfl)
          try simp only [Act.put, List.setIfInBounds_toArray, List.set_cons_zero, List.set_cons_succ]
          refine wpAnyH_take (i := 7) (oi := ?oir1_7) (v := ?vr1_7) ?hir1_7 (by kernel_rfl) (by kernel_rfl) (by kernel_rfl) ?hqr1_7 ?hyr1_7 (by assumption) ?restr1_7
          case hir1_7 => simp only [List.getElem?_toArray, List.getElem?_cons_succ, List.getElem?_cons_zero]; rfl
          case hqr1_7 => exact fun _ _ _ h => h
          case hyr1_7 => (refine Or.inl ⟨by rfl, ?_⟩; intro w hSw; (try dsimp only at hSw); go_simp; all_goals with_reducible rfl)
          try simp only [Act.put, List.setIfInBounds_toArray, List.set_cons_zero, List.set_cons_succ]
          refine wpAnyH_take (i := 8) (oi := ?oir1_8) (v := undef) ?hir1_8 (by kernel_rfl) (by kernel_rfl) (by kernel_rfl) ?hqr1_8 ?hyr1_8 (by assumption) ?restr1_8
          case hir1_8 => simp only [List.getElem?_toArray, List.getElem?_cons_succ, List.getElem?_cons_zero]; rfl
          case hqr1_8 => exact fun _ _ _ h => h
          case hyr1_8 => exact Or.inr ⟨by rfl, rfl⟩
          try simp only [Act.put, List.setIfInBounds_toArray, List.set_cons_zero, List.set_cons_succ]
          refine wpAnyH_take (i := 9) (oi := ?oir1_9) (v := undef) ?hir1_9 (by kernel_rfl) (by kernel_rfl) (by kernel_rfl) ?hqr1_9 ?hyr1_9 (by assumption) ?restr1_9
          case hir1_9 => simp only [List.getElem?_toArray, List.getElem?_cons_succ, List.getElem?_cons_zero]; rfl
          case hqr1_9 => exact fun _ _ _ h => h
          case hyr1_9 => exact Or.inr ⟨by rfl, rfl⟩
          try simp only [Act.put, List.setIfInBounds_toArray, List.set_cons_zero, List.set_cons_succ]
          refine wpAnyH_take (i := 10) (oi := ?oir1_10) (v := undef) ?hir1_10 (by kernel_rfl) (by kernel_rfl) (by kernel_rfl) ?hqr1_10 ?hyr1_10 (by assumption) ?restr1_10
          case hir1_10 => simp only [List.getElem?_toArray, List.getElem?_cons_succ, List.getElem?_cons_zero]; rfl
          case hqr1_10 => exact fun _ _ _ h => h
          case hyr1_10 => exact Or.inr ⟨by rfl, rfl⟩
          try simp only [Act.put, List.setIfInBounds_toArray, List.set_cons_zero, List.set_cons_succ]
          refine wpAnyH_take (i := 11) (oi := ?oir1_11) (v := undef) ?hir1_11 (by kernel_rfl) (by kernel_rfl) (by kernel_rfl) ?hqr1_11 ?hyr1_11 (by assumption) ?restr1_11
          case hir1_11 => simp only [List.getElem?_toArray, List.getElem?_cons_succ, List.getElem?_cons_zero]; rfl
          case hqr1_11 => exact fun _ _ _ h => h
          case hyr1_11 => exact Or.inr ⟨by rfl, rfl⟩
          try simp only [Act.put, List.setIfInBounds_toArray, List.set_cons_zero, List.set_cons_succ]
          refine wpAnyH_take (i := 12) (oi := ?oir1_12) (v := undef) ?hir1_12 (by kernel_rfl) (by kernel_rfl) (by kernel_rfl) ?hqr1_12 ?hyr1_12 (by assumption) ?restr1_12
          case hir1_12 => simp only [List.getElem?_toArray, List.getElem?_cons_succ, List.getElem?_cons_zero]; rfl
          case hqr1_12 => exact fun _ _ _ h => h
          case hyr1_12 => exact Or.inr ⟨by rfl, rfl⟩
          try simp only [Act.put, List.setIfInBounds_toArray, List.set_cons_zero, List.set_cons_succ]
          refine wpAnyH_take (i := 13) (oi := ?oir1_13) (v := undef) ?hir1_13 (by kernel_rfl) (by kernel_rfl) (by kernel_rfl) ?hqr1_13 ?hyr1_13 (by assumption) ?restr1_13
          case hir1_13 => simp only [List.getElem?_toArray, List.getElem?_cons_succ, List.getElem?_cons_zero]; rfl
          case hqr1_13 => exact fun _ _ _ h => h
          case hyr1_13 => exact Or.inr ⟨by rfl, rfl⟩
          try simp only [Act.put, List.setIfInBounds_toArray, List.set_cons_zero, List.set_cons_succ]
          refine wpAnyH_take (i := 14) (oi := ?oir1_14) (v := undef) ?hir1_14 (by kernel_rfl) (by kernel_rfl) (by kernel_rfl) ?hqr1_14 ?hyr1_14 (by assumption) ?restr1_14
          case hir1_14 => simp only [List.getElem?_toArray, List.getElem?_cons_succ, List.getElem?_cons_zero]; rfl
          case hqr1_14 => exact fun _ _ _ h => h
          case hyr1_14 => exact Or.inr ⟨by rfl, rfl⟩
          try simp only [Act.put, List.setIfInBounds_toArray, List.set_cons_zero, List.set_cons_succ]
          refine wpAnyH_take (i := 15) (oi := ?oir1_15) (v := undef) ?hir1_15 (by kernel_rfl) (by kernel_rfl) (by kernel_rfl) ?hqr1_15 ?hyr1_15 (by assumption) ?restr1_15
          case hir1_15 => simp only [List.getElem?_toArray, List.getElem?_cons_succ, List.getElem?_cons_zero]; rfl
          case hqr1_15 => exact fun _ _ _ h => h
          case hyr1_15 => exact Or.inr ⟨by rfl, rfl⟩
          try simp only [Act.put, List.setIfInBounds_toArray, List.set_cons_zero, List.set_cons_succ]
          refine wpAnyH_take (i := 16) (oi := ?oir1_16) (v := undef) ?hir1_16 (by kernel_rfl) (by kernel_rfl) (by kernel_rfl) ?hqr1_16 ?hyr1_16 (by assumption) ?restr1_16
          case hir1_16 => simp only [List.getElem?_toArray, List.getElem?_cons_succ, List.getElem?_cons_zero]; rfl
          case hqr1_16 => exact fun _ _ _ h => h
          case hyr1_16 => exact Or.inr ⟨by rfl, rfl⟩
          try simp only [Act.put, List.setIfInBounds_toArray, List.set_cons_zero, List.set_cons_succ]
          refine wpAnyH_take (i := 17) (oi := ?oir1_17) (v := undef) ?hir1_17 (by kernel_rfl) (by kernel_rfl) (by kernel_rfl) ?hqr1_17 ?hyr1_17 (by assumption) ?restr1_17
          case hir1_17 => simp only [List.getElem?_toArray, List.getElem?_cons_succ, List.getElem?_cons_zero]; rfl
          case hqr1_17 => exact fun _ _ _ h => h
          case hyr1_17 => exact Or.inr ⟨by rfl, rfl⟩
          try simp only [Act.put, List.setIfInBounds_toArray, List.set_cons_zero, List.set_cons_succ]
          refine wpAnyH_take (i := 18) (oi := ?oir1_18) (v := ?vr1_18) ?hir1_18 (by kernel_rfl) (by kernel_rfl) (by kernel_rfl) ?hqr1_18 ?hyr1_18 (by assumption) ?restr1_18
          case hir1_18 => simp only [List.getElem?_toArray, List.getElem?_cons_succ, List.getElem?_cons_zero]; rfl
          case hqr1_18 => exact fun _ _ _ h => h
          case hyr1_18 => (refine Or.inl ⟨by rfl, ?_⟩; intro w hSw; (try dsimp only at hSw); go_simp; all_goals with_reducible rfl)
          try simp only [Act.put, List.setIfInBounds_toArray, List.set_cons_zero, List.set_cons_succ]
          refine wpAnyH_done (by kernel_rfl) ?_ _
          clear hHeld
          have HCX := Lib.hid kx
          clear kx kb0
          go_upto_region 18 with fail
          have kx := HCX.out
          obtain ⟨iv, hiv⟩ : ∃ iv, inI ms i x = iv := ⟨_, rfl⟩
          have HIV2 := Lib.hid (show inI (List.take i ms) i x = iv by rw [← hiv]; exact inI_take)
          have HIV := Lib.hid hiv
          clear hiv
          have hb := (Below.refl w301.heap.size w301).drew
          replace kx := cell_below hb kx
          have B302 := B301.trans (hb.mono B301.size)
          have h_m_302 := h_m_301.below hb
          have h_b_302 := h_b_301.later hb
          have h_t_302 := h_t_301.below hb
          clear hb B301 h_m_301 h_b_301 h_t_301
          refine wp_region_held_drew (S := (fun w' => w'.cell? ⟨b, off + i, none⟩ = some (.int .i64 x) ∧ True)) (by kernel_rfl) ?_ (fun hHeld => ?_)
          · exact ⟨kx, trivial⟩
          generalize w301.drew = w302 at *
          refine wpAnyH_take (i := 0) (oi := ?oir2_0) (v := ?vr2_0) ?hir2_0 (by kernel_rfl) (by kernel_rfl) (by kernel_rfl) ?hqr2_0 ?hyr2_0 (by assumption) ?restr2_0
          case hir2_0 => simp only [List.getElem?_toArray, List.getElem?_cons_succ, List.getElem?_cons_zero]; rfl
          case hqr2_0 => exact fun _ _ _ h => h
          case hyr2_0 => (refine Or.inl ⟨by rfl, ?_⟩; intro w hSw; (try dsimp only at hSw); go_simp; all_goals with_reducible rfl)
          try simp only [Act.put, List.setIfInBounds_toArray, List.set_cons_zero, List.set_cons_succ]
          refine wpAnyH_take (i := 1) (oi := ?oir2_1) (v := ?vr2_1) ?hir2_1 (by kernel_rfl) (by kernel_rfl) (by kernel_rfl) ?hqr2_1 ?hyr2_1 (by assumption) ?restr2_1
          case hir2_1 => simp only [List.getElem?_toArray, List.getElem?_cons_succ, List.getElem?_cons_zero]; rfl
          case hqr2_1 => exact fun _ _ _ h => h
          case hyr2_1 => (refine Or.inl ⟨by rfl, ?_⟩; intro w hSw; (try dsimp only at hSw); go_simp; all_goals with_reducible rfl)
          try simp only [Act.put, List.setIfInBounds_toArray, List.set_cons_zero, List.set_cons_succ]
          refine wpAnyH_take (i := 2) (oi := ?oir2_2) (v := ?vr2_2) ?hir2_2 (by kernel_rfl) (by kernel_rfl) (by kernel_rfl) ?hqr2_2 ?hyr2_2 (by assumption) ?restr2_2
          case hir2_2 => simp only [List.getElem?_toArray, List.getElem?_cons_succ, List.getElem?_cons_zero]; rfl
          case hqr2_2 => exact fun _ _ _ h => h
          case hyr2_2 => (refine Or.inl ⟨by rfl, ?_⟩; intro w hSw; (try dsimp only at hSw); go_simp; all_goals with_reducible rfl)
          try simp only [Act.put, List.setIfInBounds_toArray, List.set_cons_zero, List.set_cons_succ]
          refine wpAnyH_take (i := 3) (oi := ?oir2_3) (v := ?vr2_3) ?hir2_3 (by kernel_rfl) (by kernel_rfl) (by kernel_rfl) ?hqr2_3 ?hyr2_3 (by assumption) ?restr2_3
          case hir2_3 => simp only [List.getElem?_toArray, List.getElem?_cons_succ, List.getElem?_cons_zero]; rfl
          case hqr2_3 => exact fun _ _ _ h => h
          case hyr2_3 => (refine Or.inl ⟨by rfl, ?_⟩; intro w hSw; (try dsimp only at hSw); go_simp; all_goals with_reducible rfl)
          try simp only [Act.put, List.setIfInBounds_toArray, List.set_cons_zero, List.set_cons_succ]
          refine wpAnyH_take (i := 4) (oi := ?oir2_4) (v := ?vr2_4) ?hir2_4 (by kernel_rfl) (by kernel_rfl) (by kernel_rfl) ?hqr2_4 ?hyr2_4 (by assumption) ?restr2_4
          case hir2_4 => simp only [List.getElem?_toArray, List.getElem?_cons_succ, List.getElem?_cons_zero]; rfl
          case hqr2_4 => exact fun _ _ _ h => h
          case hyr2_4 => (refine Or.inl ⟨by rfl, ?_⟩; intro w hSw; (try dsimp only at hSw); go_simp; all_goals with_reducible rfl)
          try simp only [Act.put, List.setIfInBounds_toArray, List.set_cons_zero, List.set_cons_succ]
          refine wpAnyH_take (i := 5) (oi := ?oir2_5) (v := ?vr2_5) ?hir2_5 (by kernel_rfl) (by kernel_rfl) (by kernel_rfl) ?hqr2_5 ?hyr2_5 (by assumption) ?restr2_5
          case hir2_5 => simp only [List.getElem?_toArray, List.getElem?_cons_succ, List.getElem?_cons_zero]; rfl
          case hqr2_5 => exact fun _ _ _ h => h
          case hyr2_5 => (refine Or.inl ⟨by rfl, ?_⟩; intro w hSw; (try dsimp only at hSw); go_simp; all_goals with_reducible rfl)
          try simp only [Act.put, List.setIfInBounds_toArray, List.set_cons_zero, List.set_cons_succ]
          refine wpAnyH_take (i := 6) (oi := ?oir2_6) (v := ?vr2_6) ?hir2_6 (by kernel_rfl) (by kernel_rfl) (by kernel_rfl) ?hqr2_6 ?hyr2_6 (by assumption) ?restr2_6
          case hir2_6 => simp only [List.getElem?_toArray, List.getElem?_cons_succ, List.getElem?_cons_zero]; rfl
          case hqr2_6 => exact fun _ _ _ h => h
          case hyr2_6 => (refine Or.inl ⟨by rfl, ?_⟩; intro w hSw; (try dsimp only at hSw); go_simp; all_goals with_reducible rfl)
          try simp only [Act.put, List.setIfInBounds_toArray, List.set_cons_zero, List.set_cons_succ]
          refine wpAnyH_ready (rs := [7]) (by kernel_rfl) (by simp) ?_
          refine AllReadyH.cons (o := ?or3_7) ?hor3_7 (fun K hK => ?kr3_7) AllReadyH.nil
          case hor3_7 => simp only [List.getElem?_toArray, List.getElem?_cons_succ, List.getElem?_cons_zero]; rfl
          go_simp
          refine (place_any _ h_t_302 x).mono ?_
          rintro e w9 ⟨z, rfl, hz, hw9⟩
          subst hw9
          rw [HIV2.out] at hz
          go_wp2_with fail
          clear hHeld
          refine hK.out _ _ ?_ (fun hHeld => ?_)
          · exact ⟨kx, trivial⟩
          clear hK K
          try simp only [Act.put, List.setIfInBounds_toArray, List.set_cons_zero, List.set_cons_succ]
          refine wpAnyH_take (i := 8) (oi := ?oir4_8) (v := ?vr4_8) ?hir4_8 (by kernel_rfl) (by kernel_rfl) (by kernel_rfl) ?hqr4_8 ?hyr4_8 (by assumption) ?restr4_8
          case hir4_8 => simp only [List.getElem?_toArray, List.getElem?_cons_succ, List.getElem?_cons_zero]; rfl
          case hqr4_8 => exact fun _ _ _ h => h
          case hyr4_8 => (refine Or.inl ⟨by rfl, ?_⟩; intro w hSw; (try dsimp only at hSw); go_simp; all_goals with_reducible rfl)
          try simp only [Act.put, List.setIfInBounds_toArray, List.set_cons_zero, List.set_cons_succ]
          refine wpAnyH_done (by kernel_rfl) ?_ _
          clear hHeld kx
          cases iv
          case false =>
            have hzn : ¬ 0 ≤ z := of_decide_eq_false hz
            have HS2 := Lib.hid (show (0 ≤ ith ms i ∧ ith ms i < c) ∧ inI ms i (ith ms i) = false ∧ (kd = 2 → 0 < i → ith ms (i - 1) < ith ms i) from ⟨HG.out, by rw [HX.out]; exact HIV.out, HDN.out⟩)
            go_wp2_with fail
            go_roundw
            case rel => exact ⟨i + 1, by omega, by go_num, B302, Lib.hid fun k hk => by
                          by_cases hki : k < i
                          · exact hS.out k hki
                          · obtain rfl : k = i := by omega
                            exact HS2.out⟩
            case measure => simp [intOf]; omega
          case true =>
            have hzn : 0 ≤ z := of_decide_eq_true hz
            have HF := Lib.hid (show r = false by rw [← HR.out]; exact fine_dup (i := i) H3.out (by rw [HM.out]; exact hlt) (by rw [HX.out]; exact HIV.out))
            have BE := HBZ.out.trans (B302.mono HBZ.out.size)
            go_wp2_with fail
            go_ret
            exact ⟨by rw [HF.out]; rfl, BE⟩
        have dz : decide (0 < i) = true := decide_eq_true (by omega)
        have dz2 : decide (((i : Nat) : Int) > 0) = true := decide_eq_true (by omega)
        have dz3 : 0 < i := by omega
        have kb0 := h_b_300.cell 0 _ rfl
        obtain ⟨j, rfl⟩ : ∃ j, i = j + 1 := ⟨i - 1, by omega⟩
        have ky := HCC.out j (by omega)
        obtain ⟨y, hy⟩ : ∃ y, ith ms j = y := ⟨_, rfl⟩
        rw [hy] at ky
        have HY := Lib.hid hy
        clear hy
        have hw1 : IntKind.i64.wrap (((j : Nat) : Int) + 1 - 1) = ((j : Nat) : Int) := (congrArg IntKind.i64.wrap (by omega)).trans (wrap_in (by omega) (by omega))
        have hw2 : IntKind.i64.wrap ((j : Nat) : Int) = ((j : Nat) : Int) := wrap_in (by omega) (by omega)
        have hj1 : (0 : Int) ≤ ((j : Nat) : Int) + 1 := by omega
        have hj2 : ((j : Nat) : Int) + 1 < ((n_m : Nat) : Int) := by omega
        have hj3 : j < n_m := by omega
        have s3 : ∀ W, (Instr.sliceAt 37 (.slice (some ⟨b, off, none⟩) n_m c_m) none (some (.int .i64 (((j : Nat) : Int) + 1))) none).run Try.prog W = .ok (.slice a' (j + 1) c_m) W := s1
        have s4 : ∀ W, (Instr.slice 37 (.slice (some ⟨b, off, none⟩) n_m c_m) none (some (.int .i64 (((j : Nat) : Int) + 1))) none).run Try.prog W = .ok (.slice a' (j + 1) c_m) W := s2
        go_upto_region 16 with fail
        have hb := (Below.refl wr.heap.size wr).drew
        replace kb0 := cell_below hb kb0
        replace kx := cell_below hb kx
        replace ky := cell_below hb ky
        have B301 := B300.trans (hb.mono B300.size)
        have h_m_301 := h_m_300.below hb
        have h_b_301 := h_b_300.later hb
        have h_t_301 := h_t_300.below hb
        clear hb B300 h_m_300 h_b_300 h_t_300
        refine wp_region_held_drew (S := (fun w' => w'.cell? ⟨w.heap.size, 0, none⟩ = some (.int .u8 ((kd : Nat) : Int)) ∧ w'.cell? ⟨b, off + (j + 1), none⟩ = some (.int .i64 x) ∧ w'.cell? ⟨b, off + j, none⟩ = some (.int .i64 y) ∧ True)) (by kernel_rfl) ?_ (fun hHeld => ?_)
        · exact ⟨kb0, kx, ky, trivial⟩
        generalize wr.drew = w301 at *
        refine wpAnyH_take (i := 0) (oi := ?oir5_0) (v := ?vr5_0) ?hir5_0 (by kernel_rfl) (by kernel_rfl) (by kernel_rfl) ?hqr5_0 ?hyr5_0 (by assumption) ?restr5_0
        case hir5_0 => simp only [List.getElem?_toArray, List.getElem?_cons_succ, List.getElem?_cons_zero]; rfl
        case hqr5_0 => exact fun _ _ _ h => h
        case hyr5_0 => (refine Or.inl ⟨by rfl, ?_⟩; intro w hSw; (try dsimp only at hSw); go_simp; all_goals with_reducible rfl)
        try simp only [Act.put, List.setIfInBounds_toArray, List.set_cons_zero, List.set_cons_succ]
        refine wpAnyH_take (i := 1) (oi := ?oir5_1) (v := ?vr5_1) ?hir5_1 (by kernel_rfl) (by kernel_rfl) (by kernel_rfl) ?hqr5_1 ?hyr5_1 (by assumption) ?restr5_1
        case hir5_1 => simp only [List.getElem?_toArray, List.getElem?_cons_succ, List.getElem?_cons_zero]; rfl
        case hqr5_1 => exact fun _ _ _ h => h
        case hyr5_1 => (refine Or.inl ⟨by rfl, ?_⟩; intro w hSw; (try dsimp only at hSw); go_simp; all_goals with_reducible rfl)
        try simp only [Act.put, List.setIfInBounds_toArray, List.set_cons_zero, List.set_cons_succ]
        refine wpAnyH_take (i := 2) (oi := ?oir5_2) (v := ?vr5_2) ?hir5_2 (by kernel_rfl) (by kernel_rfl) (by kernel_rfl) ?hqr5_2 ?hyr5_2 (by assumption) ?restr5_2
        case hir5_2 => simp only [List.getElem?_toArray, List.getElem?_cons_succ, List.getElem?_cons_zero]; rfl
        case hqr5_2 => exact fun _ _ _ h => h
        case hyr5_2 => (refine Or.inl ⟨by rfl, ?_⟩; intro w hSw; (try dsimp only at hSw); go_simp; all_goals with_reducible rfl)
        try simp only [Act.put, List.setIfInBounds_toArray, List.set_cons_zero, List.set_cons_succ]
        refine wpAnyH_take (i := 3) (oi := ?oir5_3) (v := ?vr5_3) ?hir5_3 (by kernel_rfl) (by kernel_rfl) (by kernel_rfl) ?hqr5_3 ?hyr5_3 (by assumption) ?restr5_3
        case hir5_3 => simp only [List.getElem?_toArray, List.getElem?_cons_succ, List.getElem?_cons_zero]; rfl
        case hqr5_3 => exact fun _ _ _ h => h
        case hyr5_3 => (refine Or.inl ⟨by rfl, ?_⟩; intro w hSw; (try dsimp only at hSw); go_simp; all_goals with_reducible rfl)
        try simp only [Act.put, List.setIfInBounds_toArray, List.set_cons_zero, List.set_cons_succ]
        refine wpAnyH_take (i := 4) (oi := ?oir5_4) (v := ?vr5_4) ?hir5_4 (by kernel_rfl) (by kernel_rfl) (by kernel_rfl) ?hqr5_4 ?hyr5_4 (by assumption) ?restr5_4
        case hir5_4 => simp only [List.getElem?_toArray, List.getElem?_cons_succ, List.getElem?_cons_zero]; rfl
        case hqr5_4 => exact fun _ _ _ h => h
        case hyr5_4 => (refine Or.inl ⟨by rfl, ?_⟩; intro w hSw; (try dsimp only at hSw); go_simp; all_goals with_reducible rfl)
        try simp only [Act.put, List.setIfInBounds_toArray, List.set_cons_zero, List.set_cons_succ]
        refine wpAnyH_take (i := 5) (oi := ?oir5_5) (v := ?vr5_5) ?hir5_5 (by kernel_rfl) (by kernel_rfl) (by kernel_rfl) ?hqr5_5 ?hyr5_5 (by assumption) ?restr5_5
        case hir5_5 => simp only [List.getElem?_toArray, List.getElem?_cons_succ, List.getElem?_cons_zero]; rfl
        case hqr5_5 => exact fun _ _ _ h => h
        case hyr5_5 => (refine Or.inl ⟨by rfl, ?_⟩; intro w hSw; (try dsimp only at hSw); go_simp; all_goals with_reducible rfl)
        try simp only [Act.put, List.setIfInBounds_toArray, List.set_cons_zero, List.set_cons_succ]
        refine wpAnyH_take (i := 6) (oi := ?oir5_6) (v := ?vr5_6) ?hir5_6 (by kernel_rfl) (by kernel_rfl) (by kernel_rfl) ?hqr5_6 ?hyr5_6 (by assumption) ?restr5_6
        case hir5_6 => simp only [List.getElem?_toArray, List.getElem?_cons_succ, List.getElem?_cons_zero]; rfl
        case hqr5_6 => exact fun _ _ _ h => h
        case hyr5_6 => (refine Or.inl ⟨by rfl, ?_⟩; intro w hSw; (try dsimp only at hSw); go_simp; all_goals with_reducible rfl)
        try simp only [Act.put, List.setIfInBounds_toArray, List.set_cons_zero, List.set_cons_succ]
        refine wpAnyH_take (i := 7) (oi := ?oir5_7) (v := ?vr5_7) ?hir5_7 (by kernel_rfl) (by kernel_rfl) (by kernel_rfl) ?hqr5_7 ?hyr5_7 (by assumption) ?restr5_7
        case hir5_7 => simp only [List.getElem?_toArray, List.getElem?_cons_succ, List.getElem?_cons_zero]; rfl
        case hqr5_7 => exact fun _ _ _ h => h
        case hyr5_7 => (refine Or.inl ⟨by rfl, ?_⟩; intro w hSw; (try dsimp only at hSw); go_simp; all_goals with_reducible rfl)
        try simp only [Act.put, List.setIfInBounds_toArray, List.set_cons_zero, List.set_cons_succ]
        refine wpAnyH_take (i := 8) (oi := ?oir5_8) (v := ?vr5_8) ?hir5_8 (by kernel_rfl) (by kernel_rfl) (by kernel_rfl) ?hqr5_8 ?hyr5_8 (by assumption) ?restr5_8
        case hir5_8 => simp only [List.getElem?_toArray, List.getElem?_cons_succ, List.getElem?_cons_zero]; rfl
        case hqr5_8 => exact fun _ _ _ h => h
        case hyr5_8 => (refine Or.inl ⟨by rfl, ?_⟩; intro w hSw; (try dsimp only at hSw); go_simp; all_goals with_reducible rfl)
        try simp only [Act.put, List.setIfInBounds_toArray, List.set_cons_zero, List.set_cons_succ]
        refine wpAnyH_take (i := 9) (oi := ?oir5_9) (v := ?vr5_9) ?hir5_9 (by kernel_rfl) (by kernel_rfl) (by kernel_rfl) ?hqr5_9 ?hyr5_9 (by assumption) ?restr5_9
        case hir5_9 => simp only [List.getElem?_toArray, List.getElem?_cons_succ, List.getElem?_cons_zero]; rfl
        case hqr5_9 => exact fun _ _ _ h => h
        case hyr5_9 => (refine Or.inl ⟨by rfl, ?_⟩; intro w hSw; (try dsimp only at hSw); go_simp; all_goals with_reducible rfl)
        try simp only [Act.put, List.setIfInBounds_toArray, List.set_cons_zero, List.set_cons_succ]
        refine wpAnyH_take (i := 10) (oi := ?oir5_10) (v := ?vr5_10) ?hir5_10 (by kernel_rfl) (by kernel_rfl) (by kernel_rfl) ?hqr5_10 ?hyr5_10 (by assumption) ?restr5_10
        case hir5_10 => simp only [List.getElem?_toArray, List.getElem?_cons_succ, List.getElem?_cons_zero]; rfl
        case hqr5_10 => exact fun _ _ _ h => h
        case hyr5_10 => (refine Or.inl ⟨by rfl, ?_⟩; intro w hSw; (try dsimp only at hSw); go_simp; all_goals with_reducible rfl)
        try simp only [Act.put, List.setIfInBounds_toArray, List.set_cons_zero, List.set_cons_succ]
        refine wpAnyH_take (i := 11) (oi := ?oir5_11) (v := ?vr5_11) ?hir5_11 (by kernel_rfl) (by kernel_rfl) (by kernel_rfl) ?hqr5_11 ?hyr5_11 (by assumption) ?restr5_11
        case hir5_11 => simp only [List.getElem?_toArray, List.getElem?_cons_succ, List.getElem?_cons_zero]; rfl
        case hqr5_11 => exact fun _ _ _ h => h
        case hyr5_11 => (refine Or.inl ⟨by rfl, ?_⟩; intro w hSw; (try dsimp only at hSw); go_simp; all_goals with_reducible rfl)
        try simp only [Act.put, List.setIfInBounds_toArray, List.set_cons_zero, List.set_cons_succ]
        refine wpAnyH_take (i := 12) (oi := ?oir5_12) (v := ?vr5_12) ?hir5_12 (by kernel_rfl) (by kernel_rfl) (by kernel_rfl) ?hqr5_12 ?hyr5_12 (by assumption) ?restr5_12
        case hir5_12 => simp only [List.getElem?_toArray, List.getElem?_cons_succ, List.getElem?_cons_zero]; rfl
        case hqr5_12 => exact fun _ _ _ h => h
        case hyr5_12 => (refine Or.inl ⟨by rfl, ?_⟩; intro w hSw; (try dsimp only at hSw); go_simp; all_goals with_reducible rfl)
        try simp only [Act.put, List.setIfInBounds_toArray, List.set_cons_zero, List.set_cons_succ]
        refine wpAnyH_take (i := 13) (oi := ?oir5_13) (v := ?vr5_13) ?hir5_13 (by kernel_rfl) (by kernel_rfl) (by kernel_rfl) ?hqr5_13 ?hyr5_13 (by assumption) ?restr5_13
        case hir5_13 => simp only [List.getElem?_toArray, List.getElem?_cons_succ, List.getElem?_cons_zero]; rfl
        case hqr5_13 => exact fun _ _ _ h => h
        case hyr5_13 => (refine Or.inl ⟨by rfl, ?_⟩; intro w hSw; (try dsimp only at hSw); go_simp; all_goals with_reducible rfl)
        try simp only [Act.put, List.setIfInBounds_toArray, List.set_cons_zero, List.set_cons_succ]
        refine wpAnyH_take (i := 14) (oi := ?oir5_14) (v := ?vr5_14) ?hir5_14 (by kernel_rfl) (by kernel_rfl) (by kernel_rfl) ?hqr5_14 ?hyr5_14 (by assumption) ?restr5_14
        case hir5_14 => simp only [List.getElem?_toArray, List.getElem?_cons_succ, List.getElem?_cons_zero]; rfl
        case hqr5_14 => exact fun _ _ _ h => h
        case hyr5_14 => (refine Or.inl ⟨by rfl, ?_⟩; intro w hSw; (try dsimp only at hSw); go_simp; all_goals with_reducible rfl)
        try simp only [Act.put, List.setIfInBounds_toArray, List.set_cons_zero, List.set_cons_succ]
        refine wpAnyH_take (i := 15) (oi := ?oir5_15) (v := ?vr5_15) ?hir5_15 (by kernel_rfl) (by kernel_rfl) (by kernel_rfl) ?hqr5_15 ?hyr5_15 (by assumption) ?restr5_15
        case hir5_15 => simp only [List.getElem?_toArray, List.getElem?_cons_succ, List.getElem?_cons_zero]; rfl
        case hqr5_15 => exact fun _ _ _ h => h
        case hyr5_15 => (refine Or.inl ⟨by rfl, ?_⟩; intro w hSw; (try dsimp only at hSw); go_simp; all_goals with_reducible rfl)
        try simp only [Act.put, List.setIfInBounds_toArray, List.set_cons_zero, List.set_cons_succ]
        refine wpAnyH_take (i := 16) (oi := ?oir5_16) (v := ?vr5_16) ?hir5_16 (by kernel_rfl) (by kernel_rfl) (by kernel_rfl) ?hqr5_16 ?hyr5_16 (by assumption) ?restr5_16
        case hir5_16 => simp only [List.getElem?_toArray, List.getElem?_cons_succ, List.getElem?_cons_zero]; rfl
        case hqr5_16 => exact fun _ _ _ h => h
        case hyr5_16 => (refine Or.inl ⟨by rfl, ?_⟩; intro w hSw; (try dsimp only at hSw); go_simp; all_goals with_reducible rfl)
        try simp only [Act.put, List.setIfInBounds_toArray, List.set_cons_zero, List.set_cons_succ]
        refine wpAnyH_take (i := 17) (oi := ?oir5_17) (v := ?vr5_17) ?hir5_17 (by kernel_rfl) (by kernel_rfl) (by kernel_rfl) ?hqr5_17 ?hyr5_17 (by assumption) ?restr5_17
        case hir5_17 => simp only [List.getElem?_toArray, List.getElem?_cons_succ, List.getElem?_cons_zero]; rfl
        case hqr5_17 => exact fun _ _ _ h => h
        case hyr5_17 => (refine Or.inl ⟨by rfl, ?_⟩; intro w hSw; (try dsimp only at hSw); go_simp; all_goals with_reducible rfl)
        try simp only [Act.put, List.setIfInBounds_toArray, List.set_cons_zero, List.set_cons_succ]
        refine wpAnyH_take (i := 18) (oi := ?oir5_18) (v := ?vr5_18) ?hir5_18 (by kernel_rfl) (by kernel_rfl) (by kernel_rfl) ?hqr5_18 ?hyr5_18 (by assumption) ?restr5_18
        case hir5_18 => simp only [List.getElem?_toArray, List.getElem?_cons_succ, List.getElem?_cons_zero]; rfl
        case hqr5_18 => exact fun _ _ _ h => h
        case hyr5_18 => (refine Or.inl ⟨by rfl, ?_⟩; intro w hSw; (try dsimp only at hSw); go_simp; all_goals with_reducible rfl)
        try simp only [Act.put, List.setIfInBounds_toArray, List.set_cons_zero, List.set_cons_succ]
        refine wpAnyH_done (by kernel_rfl) ?_ _
        clear hHeld
        have HCX := Lib.hid kx
        clear kx kb0 ky
        by_cases gd : y < x
        case pos =>
          have HDN : Hid (kd = 2 → 0 < j + 1 → ith ms (j + 1 - 1) < ith ms (j + 1)) := Lib.hid fun _ _ => by rw [Nat.add_sub_cancel, HY.out, HX.out]; exact gd
          have dle : decide (x ≤ y) = false := decide_eq_false (by omega)
          have gle : ¬ x ≤ y := by omega
          go_upto_region 18 with fail
          have kx := HCX.out
          obtain ⟨iv, hiv⟩ : ∃ iv, inI ms (j + 1) x = iv := ⟨_, rfl⟩
          have HIV2 := Lib.hid (show inI (List.take (j + 1) ms) (j + 1) x = iv by rw [← hiv]; exact inI_take)
          have HIV := Lib.hid hiv
          clear hiv
          have hb := (Below.refl w301.heap.size w301).drew
          replace kx := cell_below hb kx
          have B302 := B301.trans (hb.mono B301.size)
          have h_m_302 := h_m_301.below hb
          have h_b_302 := h_b_301.later hb
          have h_t_302 := h_t_301.below hb
          clear hb B301 h_m_301 h_b_301 h_t_301
          refine wp_region_held_drew (S := (fun w' => w'.cell? ⟨b, off + (j + 1), none⟩ = some (.int .i64 x) ∧ True)) (by kernel_rfl) ?_ (fun hHeld => ?_)
          · exact ⟨kx, trivial⟩
          generalize w301.drew = w302 at *
          refine wpAnyH_take (i := 0) (oi := ?oir6_0) (v := ?vr6_0) ?hir6_0 (by kernel_rfl) (by kernel_rfl) (by kernel_rfl) ?hqr6_0 ?hyr6_0 (by assumption) ?restr6_0
          case hir6_0 => simp only [List.getElem?_toArray, List.getElem?_cons_succ, List.getElem?_cons_zero]; rfl
          case hqr6_0 => exact fun _ _ _ h => h
          case hyr6_0 => (refine Or.inl ⟨by rfl, ?_⟩; intro w hSw; (try dsimp only at hSw); go_simp; all_goals with_reducible rfl)
          try simp only [Act.put, List.setIfInBounds_toArray, List.set_cons_zero, List.set_cons_succ]
          refine wpAnyH_take (i := 1) (oi := ?oir6_1) (v := ?vr6_1) ?hir6_1 (by kernel_rfl) (by kernel_rfl) (by kernel_rfl) ?hqr6_1 ?hyr6_1 (by assumption) ?restr6_1
          case hir6_1 => simp only [List.getElem?_toArray, List.getElem?_cons_succ, List.getElem?_cons_zero]; rfl
          case hqr6_1 => exact fun _ _ _ h => h
          case hyr6_1 => (refine Or.inl ⟨by rfl, ?_⟩; intro w hSw; (try dsimp only at hSw); go_simp; all_goals with_reducible rfl)
          try simp only [Act.put, List.setIfInBounds_toArray, List.set_cons_zero, List.set_cons_succ]
          refine wpAnyH_take (i := 2) (oi := ?oir6_2) (v := ?vr6_2) ?hir6_2 (by kernel_rfl) (by kernel_rfl) (by kernel_rfl) ?hqr6_2 ?hyr6_2 (by assumption) ?restr6_2
          case hir6_2 => simp only [List.getElem?_toArray, List.getElem?_cons_succ, List.getElem?_cons_zero]; rfl
          case hqr6_2 => exact fun _ _ _ h => h
          case hyr6_2 => (refine Or.inl ⟨by rfl, ?_⟩; intro w hSw; (try dsimp only at hSw); go_simp; all_goals with_reducible rfl)
          try simp only [Act.put, List.setIfInBounds_toArray, List.set_cons_zero, List.set_cons_succ]
          refine wpAnyH_take (i := 3) (oi := ?oir6_3) (v := ?vr6_3) ?hir6_3 (by kernel_rfl) (by kernel_rfl) (by kernel_rfl) ?hqr6_3 ?hyr6_3 (by assumption) ?restr6_3
          case hir6_3 => simp only [List.getElem?_toArray, List.getElem?_cons_succ, List.getElem?_cons_zero]; rfl
          case hqr6_3 => exact fun _ _ _ h => h
          case hyr6_3 => (refine Or.inl ⟨by rfl, ?_⟩; intro w hSw; (try dsimp only at hSw); go_simp; all_goals with_reducible rfl)
          try simp only [Act.put, List.setIfInBounds_toArray, List.set_cons_zero, List.set_cons_succ]
          refine wpAnyH_take (i := 4) (oi := ?oir6_4) (v := ?vr6_4) ?hir6_4 (by kernel_rfl) (by kernel_rfl) (by kernel_rfl) ?hqr6_4 ?hyr6_4 (by assumption) ?restr6_4
          case hir6_4 => simp only [List.getElem?_toArray, List.getElem?_cons_succ, List.getElem?_cons_zero]; rfl
          case hqr6_4 => exact fun _ _ _ h => h
          case hyr6_4 => (refine Or.inl ⟨by rfl, ?_⟩; intro w hSw; (try dsimp only at hSw); go_simp; all_goals with_reducible rfl)
          try simp only [Act.put, List.setIfInBounds_toArray, List.set_cons_zero, List.set_cons_succ]
          refine wpAnyH_take (i := 5) (oi := ?oir6_5) (v := ?vr6_5) ?hir6_5 (by kernel_rfl) (by kernel_rfl) (by kernel_rfl) ?hqr6_5 ?hyr6_5 (by assumption) ?restr6_5
          case hir6_5 => simp only [List.getElem?_toArray, List.getElem?_cons_succ, List.getElem?_cons_zero]; rfl
          case hqr6_5 => exact fun _ _ _ h => h
          case hyr6_5 => (refine Or.inl ⟨by rfl, ?_⟩; intro w hSw; (try dsimp only at hSw); go_simp; all_goals with_reducible rfl)
          try simp only [Act.put, List.setIfInBounds_toArray, List.set_cons_zero, List.set_cons_succ]
          refine wpAnyH_take (i := 6) (oi := ?oir6_6) (v := ?vr6_6) ?hir6_6 (by kernel_rfl) (by kernel_rfl) (by kernel_rfl) ?hqr6_6 ?hyr6_6 (by assumption) ?restr6_6
          case hir6_6 => simp only [List.getElem?_toArray, List.getElem?_cons_succ, List.getElem?_cons_zero]; rfl
          case hqr6_6 => exact fun _ _ _ h => h
          case hyr6_6 => (refine Or.inl ⟨by rfl, ?_⟩; intro w hSw; (try dsimp only at hSw); go_simp; all_goals with_reducible rfl)
          try simp only [Act.put, List.setIfInBounds_toArray, List.set_cons_zero, List.set_cons_succ]
          refine wpAnyH_ready (rs := [7]) (by kernel_rfl) (by simp) ?_
          refine AllReadyH.cons (o := ?or7_7) ?hor7_7 (fun K hK => ?kr7_7) AllReadyH.nil
          case hor7_7 => simp only [List.getElem?_toArray, List.getElem?_cons_succ, List.getElem?_cons_zero]; rfl
          go_simp
          refine (place_any _ h_t_302 x).mono ?_
          rintro e w9 ⟨z, rfl, hz, hw9⟩
          subst hw9
          rw [HIV2.out] at hz
          go_wp2_with fail
          clear hHeld
          refine hK.out _ _ ?_ (fun hHeld => ?_)
          · exact ⟨kx, trivial⟩
          clear hK K
          try simp only [Act.put, List.setIfInBounds_toArray, List.set_cons_zero, List.set_cons_succ]
          refine wpAnyH_take (i := 8) (oi := ?oir8_8) (v := ?vr8_8) ?hir8_8 (by kernel_rfl) (by kernel_rfl) (by kernel_rfl) ?hqr8_8 ?hyr8_8 (by assumption) ?restr8_8
          case hir8_8 => simp only [List.getElem?_toArray, List.getElem?_cons_succ, List.getElem?_cons_zero]; rfl
          case hqr8_8 => exact fun _ _ _ h => h
          case hyr8_8 => (refine Or.inl ⟨by rfl, ?_⟩; intro w hSw; (try dsimp only at hSw); go_simp; all_goals with_reducible rfl)
          try simp only [Act.put, List.setIfInBounds_toArray, List.set_cons_zero, List.set_cons_succ]
          refine wpAnyH_done (by kernel_rfl) ?_ _
          clear hHeld kx
          cases iv
          case false =>
            have hzn : ¬ 0 ≤ z := of_decide_eq_false hz
            have HS2 := Lib.hid (show (0 ≤ ith ms (j + 1) ∧ ith ms (j + 1) < c) ∧ inI ms (j + 1) (ith ms (j + 1)) = false ∧ (kd = 2 → 0 < j + 1 → ith ms (j + 1 - 1) < ith ms (j + 1)) from ⟨HG.out, by rw [HX.out]; exact HIV.out, HDN.out⟩)
            go_wp2_with fail
            go_roundw
            case rel => exact ⟨j + 1 + 1, by omega, by go_num, B302, Lib.hid fun k hk => by
                          by_cases hki : k < j + 1
                          · exact hS.out k hki
                          · obtain rfl : k = j + 1 := by omega
                            exact HS2.out⟩
            case measure => simp [intOf]; omega
          case true =>
            have hzn : 0 ≤ z := of_decide_eq_true hz
            have HF := Lib.hid (show r = false by rw [← HR.out]; exact fine_dup (i := j + 1) H3.out (by rw [HM.out]; exact hlt) (by rw [HX.out]; exact HIV.out))
            have BE := HBZ.out.trans (B302.mono HBZ.out.size)
            go_wp2_with fail
            go_ret
            exact ⟨by rw [HF.out]; rfl, BE⟩
        case neg =>
          have HF := Lib.hid (show r = false by rw [← HR.out]; exact fine_down H2.out (by rw [HM.out]; exact hlt) (by omega : 0 < j + 1) (by show ¬ ith ms (j + 1 - 1) < ith ms (j + 1); rw [Nat.add_sub_cancel, HY.out, HX.out]; exact gd))
          have dle : decide (x ≤ y) = true := decide_eq_true (by omega)
          have gle : x ≤ y := by omega
          have BE := HBZ.out.trans (B301.mono HBZ.out.size)
          go_wp2_with fail
          go_ret
          exact ⟨by rw [HF.out]; rfl, BE⟩
  case neg =>
    have H2 := Lib.hid hk2
    clear hk2
    have e2 : (((kd : Nat) : Int) == 2) = false := by have := H2.out; simp; omega
    have e1n : (((kd : Nat) : Int) != 1) = false := by have := H2.out; have := H12.out; simp; omega
    have k_b_0 := h_b_1.cell 0 _ rfl
    have k_b_1 := h_b_1.cell 1 _ rfl
    go_wp2_with fail
    clear k_b_0 k_b_1
    generalize (w.alloc (.cells #[.int .u8 ((kd : Nat) : Int), .slice a_m n_m c_m] 39)) = w1 at *
    have HMM := Lib.hid h_m_1
    have HBB := Lib.hid h_b_1
    have HBZ := Lib.hid B1
    go_loopw [7] (fun jv wr => ∃ i : Nat, i ≤ n_m ∧ jv = .int .i64 (i : Nat) ∧ Below w1.heap.size w1 wr ∧ Hid (∀ k, k < i → (0 ≤ ith ms k ∧ ith ms k < c) ∧ inI ms k (ith ms k) = false ∧ (kd = 2 → 0 < k → ith ms (k - 1) < ith ms k))) (fun jv _ => n_m - (intOf jv).toNat)
    case atStart => exact ⟨0, Nat.zero_le _, rfl, Below.refl _ _, Lib.hid fun k hk => absurd hk (by omega)⟩
    case round =>
      rename World => wr
      obtain ⟨i, hi, rfl, BT, hS⟩ := hrel
      by_cases hlt : i < n_m
      case neg =>
        obtain rfl : n_m = i := by omega
        have HF := Lib.hid (show r = true by rw [← HR.out]; exact fine_all H12.out H3.out (by rw [HM.out]; exact hS.out))
        have BE := HBZ.out.trans (BT.mono HBZ.out.size)
        go_wp2_with fail
        go_ret
        exact ⟨by rw [HF.out]; rfl, BE⟩
      case pos =>
        have B300 := BT
        have h_m_300 := HMM.out.below BT
        have h_b_300 := HBB.out.later BT
        clear BT
        obtain ⟨b, off, rfl, hcc⟩ := h_m_300.addrI (by omega)
        have kx := hcc i hlt
        have HCC := Lib.hid hcc
        clear hcc
        obtain ⟨x, hx⟩ : ∃ x, ith ms i = x := ⟨_, rfl⟩
        rw [hx] at kx
        have HX := Lib.hid hx
        clear hx
        obtain ⟨a', hr', s1, s2⟩ := run_uptoG 0 etI h_m_300 i hi
        by_cases g : 0 ≤ x ∧ x < c
        have h_t_300 := hr'
        clear hr'
        case neg =>
          have HF := Lib.hid (show r = false by rw [← HR.out]; exact fine_bad (i := i) (by rw [HM.out]; exact hlt) (by rw [HX.out, if_neg H3.out]; exact g))
          by_cases d1 : x < 0
          case pos =>
            have d2 : decide (x < 0) = true := decide_eq_true d1
            have BE := HBZ.out.trans (B300.mono HBZ.out.size)
            go_wp2_with fail
            go_ret
            exact ⟨by rw [HF.out]; rfl, BE⟩
          have d2 : decide (x < 0) = false := decide_eq_false d1
          have d3 : decide (x ≥ c) = true := decide_eq_true (by omega)
          have d4 : decide (c ≤ x) = true := decide_eq_true (by omega)
          clear g
          have BE := HBZ.out.trans (B300.mono HBZ.out.size)
          go_wp2_with fail
          go_ret
          exact ⟨by rw [HF.out]; rfl, BE⟩
        have HG : Hid (0 ≤ ith ms i ∧ ith ms i < c) := Lib.hid (by rw [HX.out]; exact g)
        have d1 : decide (x < 0) = false := decide_eq_false (by omega)
        have d2 : decide (x ≥ c) = false := decide_eq_false (by omega)
        have d3 : decide (c ≤ x) = false := decide_eq_false (by omega)
        clear g
        by_cases h0 : i = 0
        case pos =>
          have HDN : Hid (kd = 2 → 0 < i → ith ms (i - 1) < ith ms i) := Lib.hid fun _ h => absurd h (by rw [h0]; decide)
          have kb0 := h_b_300.cell 0 _ rfl
          have dz : decide (0 < i) = false := decide_eq_false (by omega)
          have dz2 : decide (((i : Nat) : Int) > 0) = false := decide_eq_false (by omega)
          have H0 := Lib.hid h0
          clear h0
          go_upto_region 16 with fail
          have hb := (Below.refl wr.heap.size wr).drew
          replace kb0 := cell_below hb kb0
          replace kx := cell_below hb kx
          have B301 := B300.trans (hb.mono B300.size)
          have h_m_301 := h_m_300.below hb
          have h_b_301 := h_b_300.later hb
          have h_t_301 := h_t_300.below hb
          clear hb B300 h_m_300 h_b_300 h_t_300
          refine wp_region_held_drew (S := (fun w' => w'.cell? ⟨w.heap.size, 0, none⟩ = some (.int .u8 ((kd : Nat) : Int)) ∧ w'.cell? ⟨b, off + i, none⟩ = some (.int .i64 x) ∧ True)) (by kernel_rfl) ?_ (fun hHeld => ?_)
          · exact ⟨kb0, kx, trivial⟩
          generalize wr.drew = w301 at *
          refine wpAnyH_take (i := 0) (oi := ?oir9_0) (v := ?vr9_0) ?hir9_0 (by kernel_rfl) (by kernel_rfl) (by kernel_rfl) ?hqr9_0 ?hyr9_0 (by assumption) ?restr9_0
          case hir9_0 => simp only [List.getElem?_toArray, List.getElem?_cons_succ, List.getElem?_cons_zero]; rfl
          case hqr9_0 => exact fun _ _ _ h => h
          case hyr9_0 => (refine Or.inl ⟨by rfl, ?_⟩; intro w hSw; (try dsimp only at hSw); go_simp; all_goals with_reducible rfl)
          try simp only [Act.put, List.setIfInBounds_toArray, List.set_cons_zero, List.set_cons_succ]
          refine wpAnyH_take (i := 1) (oi := ?oir9_1) (v := ?vr9_1) ?hir9_1 (by kernel_rfl) (by kernel_rfl) (by kernel_rfl) ?hqr9_1 ?hyr9_1 (by assumption) ?restr9_1
          case hir9_1 => simp only [List.getElem?_toArray, List.getElem?_cons_succ, List.getElem?_cons_zero]; rfl
          case hqr9_1 => exact fun _ _ _ h => h
          case hyr9_1 => (refine Or.inl ⟨by rfl, ?_⟩; intro w hSw; (try dsimp only at hSw); go_simp; all_goals with_reducible rfl)
          try simp only [Act.put, List.setIfInBounds_toArray, List.set_cons_zero, List.set_cons_succ]
          refine wpAnyH_take (i := 2) (oi := ?oir9_2) (v := ?vr9_2) ?hir9_2 (by kernel_rfl) (by kernel_rfl) (by kernel_rfl) ?hqr9_2 ?hyr9_2 (by assumption) ?restr9_2
          case hir9_2 => simp only [List.getElem?_toArray, List.getElem?_cons_succ, List.getElem?_cons_zero]; rfl
          case hqr9_2 => exact fun _ _ _ h => h
          case hyr9_2 => (refine Or.inl ⟨by rfl, ?_⟩; intro w hSw; (try dsimp only at hSw); go_simp; all_goals with_reducible rfl)
          try simp only [Act.put, List.setIfInBounds_toArray, List.set_cons_zero, List.set_cons_succ]
          refine wpAnyH_take (i := 3) (oi := ?oir9_3) (v := undef) ?hir9_3 (by kernel_rfl) (by kernel_rfl) (by kernel_rfl) ?hqr9_3 ?hyr9_3 (by assumption) ?restr9_3
          case hir9_3 => simp only [List.getElem?_toArray, List.getElem?_cons_succ, List.getElem?_cons_zero]; rfl
          case hqr9_3 => exact fun _ _ _ h => h
          case hyr9_3 => exact Or.inr ⟨by rfl, rfl⟩
          try simp only [Act.put, List.setIfInBounds_toArray, List.set_cons_zero, List.set_cons_succ]
          refine wpAnyH_take (i := 4) (oi := ?oir9_4) (v := undef) ?hir9_4 (by kernel_rfl) (by kernel_rfl) (by kernel_rfl) ?hqr9_4 ?hyr9_4 (by assumption) ?restr9_4
          case hir9_4 => simp only [List.getElem?_toArray, List.getElem?_cons_succ, List.getElem?_cons_zero]; rfl
          case hqr9_4 => exact fun _ _ _ h => h
          case hyr9_4 => exact Or.inr ⟨by rfl, rfl⟩
          try simp only [Act.put, List.setIfInBounds_toArray, List.set_cons_zero, List.set_cons_succ]
          refine wpAnyH_take (i := 5) (oi := ?oir9_5) (v := undef) ?hir9_5 (by kernel_rfl) (by kernel_rfl) (by kernel_rfl) ?hqr9_5 ?hyr9_5 (by assumption) ?restr9_5
          case hir9_5 => simp only [List.getElem?_toArray, List.getElem?_cons_succ, List.getElem?_cons_zero]; rfl
          case hqr9_5 => exact fun _ _ _ h => h
          case hyr9_5 => exact Or.inr ⟨by rfl, rfl⟩
          try simp only [Act.put, List.setIfInBounds_toArray, List.set_cons_zero, List.set_cons_succ]
          refine wpAnyH_take (i := 6) (oi := ?oir9_6) (v := ?vr9_6) ?hir9_6 (by kernel_rfl) (by kernel_rfl) (by kernel_rfl) ?hqr9_6 ?hyr9_6 (by assumption) ?restr9_6
          case hir9_6 => simp only [List.getElem?_toArray, List.getElem?_cons_succ, List.getElem?_cons_zero]; rfl
          case hqr9_6 => exact fun _ _ _ h => h
          case hyr9_6 => (refine Or.inl ⟨by rfl, ?_⟩; intro w hSw; (try dsimp only at hSw); go_simp; all_goals with_reducible rfl)
          try simp only [Act.put, List.setIfInBounds_toArray, List.set_cons_zero, List.set_cons_succ]
          refine wpAnyH_take (i := 7) (oi := ?oir9_7) (v := ?vr9_7) ?hir9_7 (by kernel_rfl) (by kernel_rfl) (by kernel_rfl) ?hqr9_7 ?hyr9_7 (by assumption) ?restr9_7
          case hir9_7 => simp only [List.getElem?_toArray, List.getElem?_cons_succ, List.getElem?_cons_zero]; rfl
          case hqr9_7 => exact fun _ _ _ h => h
          case hyr9_7 => (refine Or.inl ⟨by rfl, ?_⟩; intro w hSw; (try dsimp only at hSw); go_simp; all_goals with_reducible rfl)
          try simp only [Act.put, List.setIfInBounds_toArray, List.set_cons_zero, List.set_cons_succ]
          refine wpAnyH_take (i := 8) (oi := ?oir9_8) (v := undef) ?hir9_8 (by kernel_rfl) (by kernel_rfl) (by kernel_rfl) ?hqr9_8 ?hyr9_8 (by assumption) ?restr9_8
          case hir9_8 => simp only [List.getElem?_toArray, List.getElem?_cons_succ, List.getElem?_cons_zero]; rfl
          case hqr9_8 => exact fun _ _ _ h => h
          case hyr9_8 => exact Or.inr ⟨by rfl, rfl⟩
          try simp only [Act.put, List.setIfInBounds_toArray, List.set_cons_zero, List.set_cons_succ]
          refine wpAnyH_take (i := 9) (oi := ?oir9_9) (v := undef) ?hir9_9 (by kernel_rfl) (by kernel_rfl) (by kernel_rfl) ?hqr9_9 ?hyr9_9 (by assumption) ?restr9_9
          case hir9_9 => simp only [List.getElem?_toArray, List.getElem?_cons_succ, List.getElem?_cons_zero]; rfl
          case hqr9_9 => exact fun _ _ _ h => h
          case hyr9_9 => exact Or.inr ⟨by rfl, rfl⟩
          try simp only [Act.put, List.setIfInBounds_toArray, List.set_cons_zero, List.set_cons_succ]
          refine wpAnyH_take (i := 10) (oi := ?oir9_10) (v := undef) ?hir9_10 (by kernel_rfl) (by kernel_rfl) (by kernel_rfl) ?hqr9_10 ?hyr9_10 (by assumption) ?restr9_10
          case hir9_10 => simp only [List.getElem?_toArray, List.getElem?_cons_succ, List.getElem?_cons_zero]; rfl
          case hqr9_10 => exact fun _ _ _ h => h
          case hyr9_10 => exact Or.inr ⟨by rfl, rfl⟩
          try simp only [Act.put, List.setIfInBounds_toArray, List.set_cons_zero, List.set_cons_succ]
          refine wpAnyH_take (i := 11) (oi := ?oir9_11) (v := undef) ?hir9_11 (by kernel_rfl) (by kernel_rfl) (by kernel_rfl) ?hqr9_11 ?hyr9_11 (by assumption) ?restr9_11
          case hir9_11 => simp only [List.getElem?_toArray, List.getElem?_cons_succ, List.getElem?_cons_zero]; rfl
          case hqr9_11 => exact fun _ _ _ h => h
          case hyr9_11 => exact Or.inr ⟨by rfl, rfl⟩
          try simp only [Act.put, List.setIfInBounds_toArray, List.set_cons_zero, List.set_cons_succ]
          refine wpAnyH_take (i := 12) (oi := ?oir9_12) (v := undef) ?hir9_12 (by kernel_rfl) (by kernel_rfl) (by kernel_rfl) ?hqr9_12 ?hyr9_12 (by assumption) ?restr9_12
          case hir9_12 => simp only [List.getElem?_toArray, List.getElem?_cons_succ, List.getElem?_cons_zero]; rfl
          case hqr9_12 => exact fun _ _ _ h => h
          case hyr9_12 => exact Or.inr ⟨by rfl, rfl⟩
          try simp only [Act.put, List.setIfInBounds_toArray, List.set_cons_zero, List.set_cons_succ]
          refine wpAnyH_take (i := 13) (oi := ?oir9_13) (v := undef) ?hir9_13 (by kernel_rfl) (by kernel_rfl) (by kernel_rfl) ?hqr9_13 ?hyr9_13 (by assumption) ?restr9_13
          case hir9_13 => simp only [List.getElem?_toArray, List.getElem?_cons_succ, List.getElem?_cons_zero]; rfl
          case hqr9_13 => exact fun _ _ _ h => h
          case hyr9_13 => exact Or.inr ⟨by rfl, rfl⟩
          try simp only [Act.put, List.setIfInBounds_toArray, List.set_cons_zero, List.set_cons_succ]
          refine wpAnyH_take (i := 14) (oi := ?oir9_14) (v := undef) ?hir9_14 (by kernel_rfl) (by kernel_rfl) (by kernel_rfl) ?hqr9_14 ?hyr9_14 (by assumption) ?restr9_14
          case hir9_14 => simp only [List.getElem?_toArray, List.getElem?_cons_succ, List.getElem?_cons_zero]; rfl
          case hqr9_14 => exact fun _ _ _ h => h
          case hyr9_14 => exact Or.inr ⟨by rfl, rfl⟩
          try simp only [Act.put, List.setIfInBounds_toArray, List.set_cons_zero, List.set_cons_succ]
          refine wpAnyH_take (i := 15) (oi := ?oir9_15) (v := undef) ?hir9_15 (by kernel_rfl) (by kernel_rfl) (by kernel_rfl) ?hqr9_15 ?hyr9_15 (by assumption) ?restr9_15
          case hir9_15 => simp only [List.getElem?_toArray, List.getElem?_cons_succ, List.getElem?_cons_zero]; rfl
          case hqr9_15 => exact fun _ _ _ h => h
          case hyr9_15 => exact Or.inr ⟨by rfl, rfl⟩
          try simp only [Act.put, List.setIfInBounds_toArray, List.set_cons_zero, List.set_cons_succ]
          refine wpAnyH_take (i := 16) (oi := ?oir9_16) (v := undef) ?hir9_16 (by kernel_rfl) (by kernel_rfl) (by kernel_rfl) ?hqr9_16 ?hyr9_16 (by assumption) ?restr9_16
          case hir9_16 => simp only [List.getElem?_toArray, List.getElem?_cons_succ, List.getElem?_cons_zero]; rfl
          case hqr9_16 => exact fun _ _ _ h => h
          case hyr9_16 => exact Or.inr ⟨by rfl, rfl⟩
          try simp only [Act.put, List.setIfInBounds_toArray, List.set_cons_zero, List.set_cons_succ]
          refine wpAnyH_take (i := 17) (oi := ?oir9_17) (v := undef) ?hir9_17 (by kernel_rfl) (by kernel_rfl) (by kernel_rfl) ?hqr9_17 ?hyr9_17 (by assumption) ?restr9_17
          case hir9_17 => simp only [List.getElem?_toArray, List.getElem?_cons_succ, List.getElem?_cons_zero]; rfl
          case hqr9_17 => exact fun _ _ _ h => h
          case hyr9_17 => exact Or.inr ⟨by rfl, rfl⟩
          try simp only [Act.put, List.setIfInBounds_toArray, List.set_cons_zero, List.set_cons_succ]
          refine wpAnyH_take (i := 18) (oi := ?oir9_18) (v := ?vr9_18) ?hir9_18 (by kernel_rfl) (by kernel_rfl) (by kernel_rfl) ?hqr9_18 ?hyr9_18 (by assumption) ?restr9_18
          case hir9_18 => simp only [List.getElem?_toArray, List.getElem?_cons_succ, List.getElem?_cons_zero]; rfl
          case hqr9_18 => exact fun _ _ _ h => h
          case hyr9_18 => (refine Or.inl ⟨by rfl, ?_⟩; intro w hSw; (try dsimp only at hSw); go_simp; all_goals with_reducible rfl)
          try simp only [Act.put, List.setIfInBounds_toArray, List.set_cons_zero, List.set_cons_succ]
          refine wpAnyH_done (by kernel_rfl) ?_ _
          clear hHeld
          have HCX := Lib.hid kx
          clear kx kb0
          go_upto_region 18 with fail
          have kx := HCX.out
          obtain ⟨iv, hiv⟩ : ∃ iv, inI ms i x = iv := ⟨_, rfl⟩
          have HIV2 := Lib.hid (show inI (List.take i ms) i x = iv by rw [← hiv]; exact inI_take)
          have HIV := Lib.hid hiv
          clear hiv
          have hb := (Below.refl w301.heap.size w301).drew
          replace kx := cell_below hb kx
          have B302 := B301.trans (hb.mono B301.size)
          have h_m_302 := h_m_301.below hb
          have h_b_302 := h_b_301.later hb
          have h_t_302 := h_t_301.below hb
          clear hb B301 h_m_301 h_b_301 h_t_301
          refine wp_region_held_drew (S := (fun w' => w'.cell? ⟨b, off + i, none⟩ = some (.int .i64 x) ∧ True)) (by kernel_rfl) ?_ (fun hHeld => ?_)
          · exact ⟨kx, trivial⟩
          generalize w301.drew = w302 at *
          refine wpAnyH_take (i := 0) (oi := ?oir10_0) (v := ?vr10_0) ?hir10_0 (by kernel_rfl) (by kernel_rfl) (by kernel_rfl) ?hqr10_0 ?hyr10_0 (by assumption) ?restr10_0
          case hir10_0 => simp only [List.getElem?_toArray, List.getElem?_cons_succ, List.getElem?_cons_zero]; rfl
          case hqr10_0 => exact fun _ _ _ h => h
          case hyr10_0 => (refine Or.inl ⟨by rfl, ?_⟩; intro w hSw; (try dsimp only at hSw); go_simp; all_goals with_reducible rfl)
          try simp only [Act.put, List.setIfInBounds_toArray, List.set_cons_zero, List.set_cons_succ]
          refine wpAnyH_take (i := 1) (oi := ?oir10_1) (v := ?vr10_1) ?hir10_1 (by kernel_rfl) (by kernel_rfl) (by kernel_rfl) ?hqr10_1 ?hyr10_1 (by assumption) ?restr10_1
          case hir10_1 => simp only [List.getElem?_toArray, List.getElem?_cons_succ, List.getElem?_cons_zero]; rfl
          case hqr10_1 => exact fun _ _ _ h => h
          case hyr10_1 => (refine Or.inl ⟨by rfl, ?_⟩; intro w hSw; (try dsimp only at hSw); go_simp; all_goals with_reducible rfl)
          try simp only [Act.put, List.setIfInBounds_toArray, List.set_cons_zero, List.set_cons_succ]
          refine wpAnyH_take (i := 2) (oi := ?oir10_2) (v := ?vr10_2) ?hir10_2 (by kernel_rfl) (by kernel_rfl) (by kernel_rfl) ?hqr10_2 ?hyr10_2 (by assumption) ?restr10_2
          case hir10_2 => simp only [List.getElem?_toArray, List.getElem?_cons_succ, List.getElem?_cons_zero]; rfl
          case hqr10_2 => exact fun _ _ _ h => h
          case hyr10_2 => (refine Or.inl ⟨by rfl, ?_⟩; intro w hSw; (try dsimp only at hSw); go_simp; all_goals with_reducible rfl)
          try simp only [Act.put, List.setIfInBounds_toArray, List.set_cons_zero, List.set_cons_succ]
          refine wpAnyH_take (i := 3) (oi := ?oir10_3) (v := ?vr10_3) ?hir10_3 (by kernel_rfl) (by kernel_rfl) (by kernel_rfl) ?hqr10_3 ?hyr10_3 (by assumption) ?restr10_3
          case hir10_3 => simp only [List.getElem?_toArray, List.getElem?_cons_succ, List.getElem?_cons_zero]; rfl
          case hqr10_3 => exact fun _ _ _ h => h
          case hyr10_3 => (refine Or.inl ⟨by rfl, ?_⟩; intro w hSw; (try dsimp only at hSw); go_simp; all_goals with_reducible rfl)
          try simp only [Act.put, List.setIfInBounds_toArray, List.set_cons_zero, List.set_cons_succ]
          refine wpAnyH_take (i := 4) (oi := ?oir10_4) (v := ?vr10_4) ?hir10_4 (by kernel_rfl) (by kernel_rfl) (by kernel_rfl) ?hqr10_4 ?hyr10_4 (by assumption) ?restr10_4
          case hir10_4 => simp only [List.getElem?_toArray, List.getElem?_cons_succ, List.getElem?_cons_zero]; rfl
          case hqr10_4 => exact fun _ _ _ h => h
          case hyr10_4 => (refine Or.inl ⟨by rfl, ?_⟩; intro w hSw; (try dsimp only at hSw); go_simp; all_goals with_reducible rfl)
          try simp only [Act.put, List.setIfInBounds_toArray, List.set_cons_zero, List.set_cons_succ]
          refine wpAnyH_take (i := 5) (oi := ?oir10_5) (v := ?vr10_5) ?hir10_5 (by kernel_rfl) (by kernel_rfl) (by kernel_rfl) ?hqr10_5 ?hyr10_5 (by assumption) ?restr10_5
          case hir10_5 => simp only [List.getElem?_toArray, List.getElem?_cons_succ, List.getElem?_cons_zero]; rfl
          case hqr10_5 => exact fun _ _ _ h => h
          case hyr10_5 => (refine Or.inl ⟨by rfl, ?_⟩; intro w hSw; (try dsimp only at hSw); go_simp; all_goals with_reducible rfl)
          try simp only [Act.put, List.setIfInBounds_toArray, List.set_cons_zero, List.set_cons_succ]
          refine wpAnyH_take (i := 6) (oi := ?oir10_6) (v := ?vr10_6) ?hir10_6 (by kernel_rfl) (by kernel_rfl) (by kernel_rfl) ?hqr10_6 ?hyr10_6 (by assumption) ?restr10_6
          case hir10_6 => simp only [List.getElem?_toArray, List.getElem?_cons_succ, List.getElem?_cons_zero]; rfl
          case hqr10_6 => exact fun _ _ _ h => h
          case hyr10_6 => (refine Or.inl ⟨by rfl, ?_⟩; intro w hSw; (try dsimp only at hSw); go_simp; all_goals with_reducible rfl)
          try simp only [Act.put, List.setIfInBounds_toArray, List.set_cons_zero, List.set_cons_succ]
          refine wpAnyH_ready (rs := [7]) (by kernel_rfl) (by simp) ?_
          refine AllReadyH.cons (o := ?or11_7) ?hor11_7 (fun K hK => ?kr11_7) AllReadyH.nil
          case hor11_7 => simp only [List.getElem?_toArray, List.getElem?_cons_succ, List.getElem?_cons_zero]; rfl
          go_simp
          refine (place_any _ h_t_302 x).mono ?_
          rintro e w9 ⟨z, rfl, hz, hw9⟩
          subst hw9
          rw [HIV2.out] at hz
          go_wp2_with fail
          clear hHeld
          refine hK.out _ _ ?_ (fun hHeld => ?_)
          · exact ⟨kx, trivial⟩
          clear hK K
          try simp only [Act.put, List.setIfInBounds_toArray, List.set_cons_zero, List.set_cons_succ]
          refine wpAnyH_take (i := 8) (oi := ?oir12_8) (v := ?vr12_8) ?hir12_8 (by kernel_rfl) (by kernel_rfl) (by kernel_rfl) ?hqr12_8 ?hyr12_8 (by assumption) ?restr12_8
          case hir12_8 => simp only [List.getElem?_toArray, List.getElem?_cons_succ, List.getElem?_cons_zero]; rfl
          case hqr12_8 => exact fun _ _ _ h => h
          case hyr12_8 => (refine Or.inl ⟨by rfl, ?_⟩; intro w hSw; (try dsimp only at hSw); go_simp; all_goals with_reducible rfl)
          try simp only [Act.put, List.setIfInBounds_toArray, List.set_cons_zero, List.set_cons_succ]
          refine wpAnyH_done (by kernel_rfl) ?_ _
          clear hHeld kx
          cases iv
          case false =>
            have hzn : ¬ 0 ≤ z := of_decide_eq_false hz
            have HS2 := Lib.hid (show (0 ≤ ith ms i ∧ ith ms i < c) ∧ inI ms i (ith ms i) = false ∧ (kd = 2 → 0 < i → ith ms (i - 1) < ith ms i) from ⟨HG.out, by rw [HX.out]; exact HIV.out, HDN.out⟩)
            go_wp2_with fail
            go_roundw
            case rel => exact ⟨i + 1, by omega, by go_num, B302, Lib.hid fun k hk => by
                          by_cases hki : k < i
                          · exact hS.out k hki
                          · obtain rfl : k = i := by omega
                            exact HS2.out⟩
            case measure => simp [intOf]; omega
          case true =>
            have hzn : 0 ≤ z := of_decide_eq_true hz
            have HF := Lib.hid (show r = false by rw [← HR.out]; exact fine_dup (i := i) H3.out (by rw [HM.out]; exact hlt) (by rw [HX.out]; exact HIV.out))
            have BE := HBZ.out.trans (B302.mono HBZ.out.size)
            go_wp2_with fail
            go_ret
            exact ⟨by rw [HF.out]; rfl, BE⟩
        have dz : decide (0 < i) = true := decide_eq_true (by omega)
        have dz2 : decide (((i : Nat) : Int) > 0) = true := decide_eq_true (by omega)
        have dz3 : 0 < i := by omega
        have kb0 := h_b_300.cell 0 _ rfl
        have HDN : Hid (kd = 2 → 0 < i → ith ms (i - 1) < ith ms i) := Lib.hid fun h _ => absurd h H2.out
        go_upto_region 16 with fail
        have hb := (Below.refl wr.heap.size wr).drew
        replace kb0 := cell_below hb kb0
        replace kx := cell_below hb kx
        have B301 := B300.trans (hb.mono B300.size)
        have h_m_301 := h_m_300.below hb
        have h_b_301 := h_b_300.later hb
        have h_t_301 := h_t_300.below hb
        clear hb B300 h_m_300 h_b_300 h_t_300
        refine wp_region_held_drew (S := (fun w' => w'.cell? ⟨w.heap.size, 0, none⟩ = some (.int .u8 ((kd : Nat) : Int)) ∧ w'.cell? ⟨b, off + i, none⟩ = some (.int .i64 x) ∧ True)) (by kernel_rfl) ?_ (fun hHeld => ?_)
        · exact ⟨kb0, kx, trivial⟩
        generalize wr.drew = w301 at *
        refine wpAnyH_take (i := 0) (oi := ?oir13_0) (v := ?vr13_0) ?hir13_0 (by kernel_rfl) (by kernel_rfl) (by kernel_rfl) ?hqr13_0 ?hyr13_0 (by assumption) ?restr13_0
        case hir13_0 => simp only [List.getElem?_toArray, List.getElem?_cons_succ, List.getElem?_cons_zero]; rfl
        case hqr13_0 => exact fun _ _ _ h => h
        case hyr13_0 => (refine Or.inl ⟨by rfl, ?_⟩; intro w hSw; (try dsimp only at hSw); go_simp; all_goals with_reducible rfl)
        try simp only [Act.put, List.setIfInBounds_toArray, List.set_cons_zero, List.set_cons_succ]
        refine wpAnyH_take (i := 1) (oi := ?oir13_1) (v := ?vr13_1) ?hir13_1 (by kernel_rfl) (by kernel_rfl) (by kernel_rfl) ?hqr13_1 ?hyr13_1 (by assumption) ?restr13_1
        case hir13_1 => simp only [List.getElem?_toArray, List.getElem?_cons_succ, List.getElem?_cons_zero]; rfl
        case hqr13_1 => exact fun _ _ _ h => h
        case hyr13_1 => (refine Or.inl ⟨by rfl, ?_⟩; intro w hSw; (try dsimp only at hSw); go_simp; all_goals with_reducible rfl)
        try simp only [Act.put, List.setIfInBounds_toArray, List.set_cons_zero, List.set_cons_succ]
        refine wpAnyH_take (i := 2) (oi := ?oir13_2) (v := ?vr13_2) ?hir13_2 (by kernel_rfl) (by kernel_rfl) (by kernel_rfl) ?hqr13_2 ?hyr13_2 (by assumption) ?restr13_2
        case hir13_2 => simp only [List.getElem?_toArray, List.getElem?_cons_succ, List.getElem?_cons_zero]; rfl
        case hqr13_2 => exact fun _ _ _ h => h
        case hyr13_2 => (refine Or.inl ⟨by rfl, ?_⟩; intro w hSw; (try dsimp only at hSw); go_simp; all_goals with_reducible rfl)
        try simp only [Act.put, List.setIfInBounds_toArray, List.set_cons_zero, List.set_cons_succ]
        refine wpAnyH_take (i := 3) (oi := ?oir13_3) (v := ?vr13_3) ?hir13_3 (by kernel_rfl) (by kernel_rfl) (by kernel_rfl) ?hqr13_3 ?hyr13_3 (by assumption) ?restr13_3
        case hir13_3 => simp only [List.getElem?_toArray, List.getElem?_cons_succ, List.getElem?_cons_zero]; rfl
        case hqr13_3 => exact fun _ _ _ h => h
        case hyr13_3 => (refine Or.inl ⟨by rfl, ?_⟩; intro w hSw; (try dsimp only at hSw); go_simp; all_goals with_reducible rfl)
        try simp only [Act.put, List.setIfInBounds_toArray, List.set_cons_zero, List.set_cons_succ]
        refine wpAnyH_take (i := 4) (oi := ?oir13_4) (v := ?vr13_4) ?hir13_4 (by kernel_rfl) (by kernel_rfl) (by kernel_rfl) ?hqr13_4 ?hyr13_4 (by assumption) ?restr13_4
        case hir13_4 => simp only [List.getElem?_toArray, List.getElem?_cons_succ, List.getElem?_cons_zero]; rfl
        case hqr13_4 => exact fun _ _ _ h => h
        case hyr13_4 => (refine Or.inl ⟨by rfl, ?_⟩; intro w hSw; (try dsimp only at hSw); go_simp; all_goals with_reducible rfl)
        try simp only [Act.put, List.setIfInBounds_toArray, List.set_cons_zero, List.set_cons_succ]
        refine wpAnyH_take (i := 5) (oi := ?oir13_5) (v := ?vr13_5) ?hir13_5 (by kernel_rfl) (by kernel_rfl) (by kernel_rfl) ?hqr13_5 ?hyr13_5 (by assumption) ?restr13_5
        case hir13_5 => simp only [List.getElem?_toArray, List.getElem?_cons_succ, List.getElem?_cons_zero]; rfl
        case hqr13_5 => exact fun _ _ _ h => h
        case hyr13_5 => (refine Or.inl ⟨by rfl, ?_⟩; intro w hSw; (try dsimp only at hSw); go_simp; all_goals with_reducible rfl)
        try simp only [Act.put, List.setIfInBounds_toArray, List.set_cons_zero, List.set_cons_succ]
        refine wpAnyH_take (i := 6) (oi := ?oir13_6) (v := ?vr13_6) ?hir13_6 (by kernel_rfl) (by kernel_rfl) (by kernel_rfl) ?hqr13_6 ?hyr13_6 (by assumption) ?restr13_6
        case hir13_6 => simp only [List.getElem?_toArray, List.getElem?_cons_succ, List.getElem?_cons_zero]; rfl
        case hqr13_6 => exact fun _ _ _ h => h
        case hyr13_6 => (refine Or.inl ⟨by rfl, ?_⟩; intro w hSw; (try dsimp only at hSw); go_simp; all_goals with_reducible rfl)
        try simp only [Act.put, List.setIfInBounds_toArray, List.set_cons_zero, List.set_cons_succ]
        refine wpAnyH_take (i := 7) (oi := ?oir13_7) (v := ?vr13_7) ?hir13_7 (by kernel_rfl) (by kernel_rfl) (by kernel_rfl) ?hqr13_7 ?hyr13_7 (by assumption) ?restr13_7
        case hir13_7 => simp only [List.getElem?_toArray, List.getElem?_cons_succ, List.getElem?_cons_zero]; rfl
        case hqr13_7 => exact fun _ _ _ h => h
        case hyr13_7 => (refine Or.inl ⟨by rfl, ?_⟩; intro w hSw; (try dsimp only at hSw); go_simp; all_goals with_reducible rfl)
        try simp only [Act.put, List.setIfInBounds_toArray, List.set_cons_zero, List.set_cons_succ]
        refine wpAnyH_take (i := 8) (oi := ?oir13_8) (v := undef) ?hir13_8 (by kernel_rfl) (by kernel_rfl) (by kernel_rfl) ?hqr13_8 ?hyr13_8 (by assumption) ?restr13_8
        case hir13_8 => simp only [List.getElem?_toArray, List.getElem?_cons_succ, List.getElem?_cons_zero]; rfl
        case hqr13_8 => exact fun _ _ _ h => h
        case hyr13_8 => exact Or.inr ⟨by rfl, rfl⟩
        try simp only [Act.put, List.setIfInBounds_toArray, List.set_cons_zero, List.set_cons_succ]
        refine wpAnyH_take (i := 9) (oi := ?oir13_9) (v := undef) ?hir13_9 (by kernel_rfl) (by kernel_rfl) (by kernel_rfl) ?hqr13_9 ?hyr13_9 (by assumption) ?restr13_9
        case hir13_9 => simp only [List.getElem?_toArray, List.getElem?_cons_succ, List.getElem?_cons_zero]; rfl
        case hqr13_9 => exact fun _ _ _ h => h
        case hyr13_9 => exact Or.inr ⟨by rfl, rfl⟩
        try simp only [Act.put, List.setIfInBounds_toArray, List.set_cons_zero, List.set_cons_succ]
        refine wpAnyH_take (i := 10) (oi := ?oir13_10) (v := undef) ?hir13_10 (by kernel_rfl) (by kernel_rfl) (by kernel_rfl) ?hqr13_10 ?hyr13_10 (by assumption) ?restr13_10
        case hir13_10 => simp only [List.getElem?_toArray, List.getElem?_cons_succ, List.getElem?_cons_zero]; rfl
        case hqr13_10 => exact fun _ _ _ h => h
        case hyr13_10 => exact Or.inr ⟨by rfl, rfl⟩
        try simp only [Act.put, List.setIfInBounds_toArray, List.set_cons_zero, List.set_cons_succ]
        refine wpAnyH_take (i := 11) (oi := ?oir13_11) (v := undef) ?hir13_11 (by kernel_rfl) (by kernel_rfl) (by kernel_rfl) ?hqr13_11 ?hyr13_11 (by assumption) ?restr13_11
        case hir13_11 => simp only [List.getElem?_toArray, List.getElem?_cons_succ, List.getElem?_cons_zero]; rfl
        case hqr13_11 => exact fun _ _ _ h => h
        case hyr13_11 => exact Or.inr ⟨by rfl, rfl⟩
        try simp only [Act.put, List.setIfInBounds_toArray, List.set_cons_zero, List.set_cons_succ]
        refine wpAnyH_take (i := 12) (oi := ?oir13_12) (v := undef) ?hir13_12 (by kernel_rfl) (by kernel_rfl) (by kernel_rfl) ?hqr13_12 ?hyr13_12 (by assumption) ?restr13_12
        case hir13_12 => simp only [List.getElem?_toArray, List.getElem?_cons_succ, List.getElem?_cons_zero]; rfl
        case hqr13_12 => exact fun _ _ _ h => h
        case hyr13_12 => exact Or.inr ⟨by rfl, rfl⟩
        try simp only [Act.put, List.setIfInBounds_toArray, List.set_cons_zero, List.set_cons_succ]
        refine wpAnyH_take (i := 13) (oi := ?oir13_13) (v := undef) ?hir13_13 (by kernel_rfl) (by kernel_rfl) (by kernel_rfl) ?hqr13_13 ?hyr13_13 (by assumption) ?restr13_13
        case hir13_13 => simp only [List.getElem?_toArray, List.getElem?_cons_succ, List.getElem?_cons_zero]; rfl
        case hqr13_13 => exact fun _ _ _ h => h
        case hyr13_13 => exact Or.inr ⟨by rfl, rfl⟩
        try simp only [Act.put, List.setIfInBounds_toArray, List.set_cons_zero, List.set_cons_succ]
        refine wpAnyH_take (i := 14) (oi := ?oir13_14) (v := undef) ?hir13_14 (by kernel_rfl) (by kernel_rfl) (by kernel_rfl) ?hqr13_14 ?hyr13_14 (by assumption) ?restr13_14
        case hir13_14 => simp only [List.getElem?_toArray, List.getElem?_cons_succ, List.getElem?_cons_zero]; rfl
        case hqr13_14 => exact fun _ _ _ h => h
        case hyr13_14 => exact Or.inr ⟨by rfl, rfl⟩
        try simp only [Act.put, List.setIfInBounds_toArray, List.set_cons_zero, List.set_cons_succ]
        refine wpAnyH_take (i := 15) (oi := ?oir13_15) (v := undef) ?hir13_15 (by kernel_rfl) (by kernel_rfl) (by kernel_rfl) ?hqr13_15 ?hyr13_15 (by assumption) ?restr13_15
        case hir13_15 => simp only [List.getElem?_toArray, List.getElem?_cons_succ, List.getElem?_cons_zero]; rfl
        case hqr13_15 => exact fun _ _ _ h => h
        case hyr13_15 => exact Or.inr ⟨by rfl, rfl⟩
        try simp only [Act.put, List.setIfInBounds_toArray, List.set_cons_zero, List.set_cons_succ]
        refine wpAnyH_take (i := 16) (oi := ?oir13_16) (v := undef) ?hir13_16 (by kernel_rfl) (by kernel_rfl) (by kernel_rfl) ?hqr13_16 ?hyr13_16 (by assumption) ?restr13_16
        case hir13_16 => simp only [List.getElem?_toArray, List.getElem?_cons_succ, List.getElem?_cons_zero]; rfl
        case hqr13_16 => exact fun _ _ _ h => h
        case hyr13_16 => exact Or.inr ⟨by rfl, rfl⟩
        try simp only [Act.put, List.setIfInBounds_toArray, List.set_cons_zero, List.set_cons_succ]
        refine wpAnyH_take (i := 17) (oi := ?oir13_17) (v := undef) ?hir13_17 (by kernel_rfl) (by kernel_rfl) (by kernel_rfl) ?hqr13_17 ?hyr13_17 (by assumption) ?restr13_17
        case hir13_17 => simp only [List.getElem?_toArray, List.getElem?_cons_succ, List.getElem?_cons_zero]; rfl
        case hqr13_17 => exact fun _ _ _ h => h
        case hyr13_17 => exact Or.inr ⟨by rfl, rfl⟩
        try simp only [Act.put, List.setIfInBounds_toArray, List.set_cons_zero, List.set_cons_succ]
        refine wpAnyH_take (i := 18) (oi := ?oir13_18) (v := ?vr13_18) ?hir13_18 (by kernel_rfl) (by kernel_rfl) (by kernel_rfl) ?hqr13_18 ?hyr13_18 (by assumption) ?restr13_18
        case hir13_18 => simp only [List.getElem?_toArray, List.getElem?_cons_succ, List.getElem?_cons_zero]; rfl
        case hqr13_18 => exact fun _ _ _ h => h
        case hyr13_18 => (refine Or.inl ⟨by rfl, ?_⟩; intro w hSw; (try dsimp only at hSw); go_simp; all_goals with_reducible rfl)
        try simp only [Act.put, List.setIfInBounds_toArray, List.set_cons_zero, List.set_cons_succ]
        refine wpAnyH_done (by kernel_rfl) ?_ _
        clear hHeld
        have HCX := Lib.hid kx
        clear kx kb0
        go_upto_region 18 with fail
        have kx := HCX.out
        obtain ⟨iv, hiv⟩ : ∃ iv, inI ms i x = iv := ⟨_, rfl⟩
        have HIV2 := Lib.hid (show inI (List.take i ms) i x = iv by rw [← hiv]; exact inI_take)
        have HIV := Lib.hid hiv
        clear hiv
        have hb := (Below.refl w301.heap.size w301).drew
        replace kx := cell_below hb kx
        have B302 := B301.trans (hb.mono B301.size)
        have h_m_302 := h_m_301.below hb
        have h_b_302 := h_b_301.later hb
        have h_t_302 := h_t_301.below hb
        clear hb B301 h_m_301 h_b_301 h_t_301
        refine wp_region_held_drew (S := (fun w' => w'.cell? ⟨b, off + i, none⟩ = some (.int .i64 x) ∧ True)) (by kernel_rfl) ?_ (fun hHeld => ?_)
        · exact ⟨kx, trivial⟩
        generalize w301.drew = w302 at *
        refine wpAnyH_take (i := 0) (oi := ?oir14_0) (v := ?vr14_0) ?hir14_0 (by kernel_rfl) (by kernel_rfl) (by kernel_rfl) ?hqr14_0 ?hyr14_0 (by assumption) ?restr14_0
        case hir14_0 => simp only [List.getElem?_toArray, List.getElem?_cons_succ, List.getElem?_cons_zero]; rfl
        case hqr14_0 => exact fun _ _ _ h => h
        case hyr14_0 => (refine Or.inl ⟨by rfl, ?_⟩; intro w hSw; (try dsimp only at hSw); go_simp; all_goals with_reducible rfl)
        try simp only [Act.put, List.setIfInBounds_toArray, List.set_cons_zero, List.set_cons_succ]
        refine wpAnyH_take (i := 1) (oi := ?oir14_1) (v := ?vr14_1) ?hir14_1 (by kernel_rfl) (by kernel_rfl) (by kernel_rfl) ?hqr14_1 ?hyr14_1 (by assumption) ?restr14_1
        case hir14_1 => simp only [List.getElem?_toArray, List.getElem?_cons_succ, List.getElem?_cons_zero]; rfl
        case hqr14_1 => exact fun _ _ _ h => h
        case hyr14_1 => (refine Or.inl ⟨by rfl, ?_⟩; intro w hSw; (try dsimp only at hSw); go_simp; all_goals with_reducible rfl)
        try simp only [Act.put, List.setIfInBounds_toArray, List.set_cons_zero, List.set_cons_succ]
        refine wpAnyH_take (i := 2) (oi := ?oir14_2) (v := ?vr14_2) ?hir14_2 (by kernel_rfl) (by kernel_rfl) (by kernel_rfl) ?hqr14_2 ?hyr14_2 (by assumption) ?restr14_2
        case hir14_2 => simp only [List.getElem?_toArray, List.getElem?_cons_succ, List.getElem?_cons_zero]; rfl
        case hqr14_2 => exact fun _ _ _ h => h
        case hyr14_2 => (refine Or.inl ⟨by rfl, ?_⟩; intro w hSw; (try dsimp only at hSw); go_simp; all_goals with_reducible rfl)
        try simp only [Act.put, List.setIfInBounds_toArray, List.set_cons_zero, List.set_cons_succ]
        refine wpAnyH_take (i := 3) (oi := ?oir14_3) (v := ?vr14_3) ?hir14_3 (by kernel_rfl) (by kernel_rfl) (by kernel_rfl) ?hqr14_3 ?hyr14_3 (by assumption) ?restr14_3
        case hir14_3 => simp only [List.getElem?_toArray, List.getElem?_cons_succ, List.getElem?_cons_zero]; rfl
        case hqr14_3 => exact fun _ _ _ h => h
        case hyr14_3 => (refine Or.inl ⟨by rfl, ?_⟩; intro w hSw; (try dsimp only at hSw); go_simp; all_goals with_reducible rfl)
        try simp only [Act.put, List.setIfInBounds_toArray, List.set_cons_zero, List.set_cons_succ]
        refine wpAnyH_take (i := 4) (oi := ?oir14_4) (v := ?vr14_4) ?hir14_4 (by kernel_rfl) (by kernel_rfl) (by kernel_rfl) ?hqr14_4 ?hyr14_4 (by assumption) ?restr14_4
        case hir14_4 => simp only [List.getElem?_toArray, List.getElem?_cons_succ, List.getElem?_cons_zero]; rfl
        case hqr14_4 => exact fun _ _ _ h => h
        case hyr14_4 => (refine Or.inl ⟨by rfl, ?_⟩; intro w hSw; (try dsimp only at hSw); go_simp; all_goals with_reducible rfl)
        try simp only [Act.put, List.setIfInBounds_toArray, List.set_cons_zero, List.set_cons_succ]
        refine wpAnyH_take (i := 5) (oi := ?oir14_5) (v := ?vr14_5) ?hir14_5 (by kernel_rfl) (by kernel_rfl) (by kernel_rfl) ?hqr14_5 ?hyr14_5 (by assumption) ?restr14_5
        case hir14_5 => simp only [List.getElem?_toArray, List.getElem?_cons_succ, List.getElem?_cons_zero]; rfl
        case hqr14_5 => exact fun _ _ _ h => h
        case hyr14_5 => (refine Or.inl ⟨by rfl, ?_⟩; intro w hSw; (try dsimp only at hSw); go_simp; all_goals with_reducible rfl)
        try simp only [Act.put, List.setIfInBounds_toArray, List.set_cons_zero, List.set_cons_succ]
        refine wpAnyH_take (i := 6) (oi := ?oir14_6) (v := ?vr14_6) ?hir14_6 (by kernel_rfl) (by kernel_rfl) (by kernel_rfl) ?hqr14_6 ?hyr14_6 (by assumption) ?restr14_6
        case hir14_6 => simp only [List.getElem?_toArray, List.getElem?_cons_succ, List.getElem?_cons_zero]; rfl
        case hqr14_6 => exact fun _ _ _ h => h
        case hyr14_6 => (refine Or.inl ⟨by rfl, ?_⟩; intro w hSw; (try dsimp only at hSw); go_simp; all_goals with_reducible rfl)
        try simp only [Act.put, List.setIfInBounds_toArray, List.set_cons_zero, List.set_cons_succ]
        refine wpAnyH_ready (rs := [7]) (by kernel_rfl) (by simp) ?_
        refine AllReadyH.cons (o := ?or15_7) ?hor15_7 (fun K hK => ?kr15_7) AllReadyH.nil
        case hor15_7 => simp only [List.getElem?_toArray, List.getElem?_cons_succ, List.getElem?_cons_zero]; rfl
        go_simp
        refine (place_any _ h_t_302 x).mono ?_
        rintro e w9 ⟨z, rfl, hz, hw9⟩
        subst hw9
        rw [HIV2.out] at hz
        go_wp2_with fail
        clear hHeld
        refine hK.out _ _ ?_ (fun hHeld => ?_)
        · exact ⟨kx, trivial⟩
        clear hK K
        try simp only [Act.put, List.setIfInBounds_toArray, List.set_cons_zero, List.set_cons_succ]
        refine wpAnyH_take (i := 8) (oi := ?oir16_8) (v := ?vr16_8) ?hir16_8 (by kernel_rfl) (by kernel_rfl) (by kernel_rfl) ?hqr16_8 ?hyr16_8 (by assumption) ?restr16_8
        case hir16_8 => simp only [List.getElem?_toArray, List.getElem?_cons_succ, List.getElem?_cons_zero]; rfl
        case hqr16_8 => exact fun _ _ _ h => h
        case hyr16_8 => (refine Or.inl ⟨by rfl, ?_⟩; intro w hSw; (try dsimp only at hSw); go_simp; all_goals with_reducible rfl)
        try simp only [Act.put, List.setIfInBounds_toArray, List.set_cons_zero, List.set_cons_succ]
        refine wpAnyH_done (by kernel_rfl) ?_ _
        clear hHeld kx
        cases iv
        case false =>
          have hzn : ¬ 0 ≤ z := of_decide_eq_false hz
          have HS2 := Lib.hid (show (0 ≤ ith ms i ∧ ith ms i < c) ∧ inI ms i (ith ms i) = false ∧ (kd = 2 → 0 < i → ith ms (i - 1) < ith ms i) from ⟨HG.out, by rw [HX.out]; exact HIV.out, HDN.out⟩)
          go_wp2_with fail
          go_roundw
          case rel => exact ⟨i + 1, by omega, by go_num, B302, Lib.hid fun k hk => by
                        by_cases hki : k < i
                        · exact hS.out k hki
                        · obtain rfl : k = i := by omega
                          exact HS2.out⟩
          case measure => simp [intOf]; omega
        case true =>
          have hzn : 0 ≤ z := of_decide_eq_true hz
          have HF := Lib.hid (show r = false by rw [← HR.out]; exact fine_dup (i := i) H3.out (by rw [HM.out]; exact hlt) (by rw [HX.out]; exact HIV.out))
          have BE := HBZ.out.trans (B302.mono HBZ.out.size)
          go_wp2_with fail
          go_ret
          exact ⟨by rw [HF.out]; rfl, BE⟩

end Go.Proofs.Ytlfempfhohejiaa
