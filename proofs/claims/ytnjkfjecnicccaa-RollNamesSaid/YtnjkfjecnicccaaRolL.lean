/- Count of the program. Condition: none. Printed by gen_roll.py. -/
import Derived.Test.YtnjkfjecnicccaaRolK
namespace Go.Proofs.Ytnjkfjecnicccaa
open Go.RowKit Go.Suf
set_option linter.unusedVariables false
set_option linter.unusedSimpArgs false

def Four (vs : List VQ) (p : Int) (f g u s : Nat) : Prop := f = manyV vs p 1 ∧ g = manyV vs p 2 ∧ u = manyV vs p 3 ∧ s = manyV vs p 4

set_option maxRecDepth 100000 in
set_option maxHeartbeats 4000000 in
theorem Count_any (w : World) {a : Option Addr} {n cap : Nat} {vs : List VQ} (h : RdV w a n cap vs) (p : Int) (hp1 : -9223372036854775808 ≤ p) (hp2 : p ≤ 9223372036854775807) :
    Calls Try.prog 22 #[.slice a n cap, .int .i64 p] w (RetT w (cntV vs p)) := by
  have R0 := PRow.new 47 w #[.int .i64 0, .int .i64 0, .int .i64 0, .int .i64 0]
  have HL := Lib.hid h.len
  obtain ⟨r, hr⟩ : ∃ r, r = cntV vs p := ⟨_, rfl⟩
  rw [← hr]
  obtain ⟨ck, hck⟩ : ∃ ck, chkV vs = ck := ⟨_, rfl⟩
  have HC := Lib.hid hck
  have hd := h.below R0.below
  have c := Check_any (w.alloc (.cells #[.int .i64 0, .int .i64 0, .int .i64 0, .int .i64 0] 47)) hd
  rw [hck] at c
  clear hck
  go_enter Try.func22, Try.ntmps22
  go_wp2_with fail
  refine c.mono ?_
  rintro e w1 ⟨rfl, hb1⟩
  clear c
  have R1 := R0.later hb1
  have hd := hd.below hb1
  clear R0
  by_cases hc : ck = 0
  case neg =>
    have HE : Hid (r = ((0, 0, 0, 0), ck)) := Lib.hid (by rw [hr, cntV, HC.out, if_neg hc])
    clear hr
    have u0 := R1.cell 0 _ rfl
    have u1 := R1.cell 1 _ rfl
    have u2 := R1.cell 2 _ rfl
    have u3 := R1.cell 3 _ rfl
    go_wp2_with first | refine wpList_store_whole rfl 47 _ _ rfl atTur _ _ _ R1.row rfl rfl rfl rfl (tur_one 0 0 0 0) ?_
    refine bodyPost_ret (results_cell_two rfl _ _ _ _ _ _ _ rfl (setRow_heap _ _ _ _ _ _ R1.row) Try.underlying47 rfl (by kernel_rfl) _ rfl) rfl ?_
    exact ⟨by rw [HE.out]; rfl, (R1.put _).below⟩
  subst hc
  by_cases hq : p < -1 ∨ 8 ≤ p
  case pos =>
    have HE : Hid (r = ((0, 0, 0, 0), 2)) := Lib.hid (by rw [hr, cntV, HC.out, if_pos rfl, if_pos hq])
    clear hr
    have u0 := R1.cell 0 _ rfl
    have u1 := R1.cell 1 _ rfl
    have u2 := R1.cell 2 _ rfl
    have u3 := R1.cell 3 _ rfl
    by_cases hq1 : p < -1
    case pos =>
      go_wp2_with first | refine wpList_store_whole rfl 47 _ _ rfl atTur _ _ _ R1.row rfl rfl rfl rfl (tur_one 0 0 0 0) ?_
      refine bodyPost_ret (results_cell_two rfl _ _ _ _ _ _ _ rfl (setRow_heap _ _ _ _ _ _ R1.row) Try.underlying47 rfl (by kernel_rfl) _ rfl) rfl ?_
      exact ⟨by rw [HE.out]; rfl, (R1.put _).below⟩
    case neg =>
      have hq2 : 8 ≤ p := by omega
      go_wp2_with first | refine wpList_store_whole rfl 47 _ _ rfl atTur _ _ _ R1.row rfl rfl rfl rfl (tur_one 0 0 0 0) ?_
      refine bodyPost_ret (results_cell_two rfl _ _ _ _ _ _ _ rfl (setRow_heap _ _ _ _ _ _ R1.row) Try.underlying47 rfl (by kernel_rfl) _ rfl) rfl ?_
      exact ⟨by rw [HE.out]; rfl, (R1.put _).below⟩
  case neg =>
    have HE : Hid (r = ((manyV vs p 1, manyV vs p 2, manyV vs p 3, manyV vs p 4), 0)) := Lib.hid (by rw [hr, cntV, HC.out, if_pos rfl, if_neg hq])
    have hq1 : ¬ p < -1 := by omega
    have hq2 : ¬ 8 ≤ p := by omega
    obtain ⟨-, hlen, hmay⟩ := rise_of HC.out
    have hn : n ≤ 64 := by have := HL.out; omega
    have HMAY := Lib.hid hmay
    clear hr hq hmay hlen
    go_wp2_with fail
    go_loopw [23] (fun j wr => ∃ i f g u s : Nat, i ≤ n ∧ f ≤ i ∧ g ≤ i ∧ u ≤ i ∧ s ≤ i ∧ j = .int .i64 (i : Nat) ∧ PRow 47 w wr w.heap.size #[.int .i64 ((f : Nat) : Int), .int .i64 ((g : Nat) : Int), .int .i64 ((u : Nat) : Int), .int .i64 ((s : Nat) : Int)] ∧ Hid (Four (vs.take i) p f g u s)) (fun j _ => n - (intOf j).toNat)
    case atStart => exact ⟨0, 0, 0, 0, 0, Nat.zero_le _, Nat.le_refl _, Nat.le_refl _, Nat.le_refl _, Nat.le_refl _, rfl, R1, Lib.hid ⟨rfl, rfl, rfl, rfl⟩⟩
    clear R1 hd
    case round =>
      rename_i wr _
      obtain ⟨i, f, g, u, s, hi, hf, hg, hu, hs, rfl, R1, hI⟩ := hrel
      by_cases hlt : i < n
      case neg =>
        obtain rfl : i = n := by omega
        have HX : Hid (Four vs p f g u s) := by have := hI; rwa [← HL.out, List.take_length] at this
        have u0 := R1.cell 0 _ rfl
        have u1 := R1.cell 1 _ rfl
        have u2 := R1.cell 2 _ rfl
        have u3 := R1.cell 3 _ rfl
        go_wp2_with first | refine wpList_store_whole rfl 47 _ _ rfl atTur _ _ _ R1.row rfl rfl rfl rfl (tur_one _ _ _ _) ?_
        refine bodyPost_ret (results_cell_two rfl _ _ _ _ _ _ _ rfl (setRow_heap _ _ _ _ _ _ R1.row) Try.underlying47 rfl (by kernel_rfl) _ rfl) rfl ?_
        obtain ⟨x1, x2, x3, x4⟩ := HX.out
        exact ⟨by rw [HE.out, x1, x2, x3, x4]; rfl, (R1.put _).below⟩
      case pos =>
        obtain ⟨b, off, rfl, hcc⟩ := (h.below R1.below).addr (by omega)
        obtain ⟨k0, k1, k2⟩ := hcc i hlt
        clear hcc
        have HT : Hid (∀ q, manyV (vs.take (i + 1)) p q = manyV (vs.take i) p q + (if hasV p q (vth vs i) = true then 1 else 0)) := Lib.hid fun q => many_take vs p q (by rw [HL.out]; exact hlt)
        have hmv := HMAY.out i (by rw [HL.out]; exact hlt)
        obtain ⟨v, hv⟩ : ∃ v, vth vs i = v := ⟨_, rfl⟩
        rw [hv] at k0 k1 k2 hmv
        have HV := Lib.hid hv
        clear hv
        have hst : 1 ≤ v.st ∧ v.st ≤ 4 := by
          simp only [mayV, Bool.and_eq_true, decide_eq_true_eq] at hmv
          omega
        clear hmv
        have hlw : ((i : Nat) : Int) < (n : Int) := by omega
        have hld : decide (((i : Nat) : Int) < (n : Int)) = true := decide_eq_true hlw
        have BA := below_al wr (.cells #[.string v.nm, .int .i64 v.pc, .int .u8 ((v.st : Nat) : Int)] 32)
        obtain ⟨m0, m1, m2⟩ := vot_cells wr v
        have RA := R1.later BA
        have u0 := RA.cell 0 _ rfl
        have u1 := RA.cell 1 _ rfl
        have u2 := RA.cell 2 _ rfl
        have u3 := RA.cell 3 _ rfl
        have q0 := RA.free 0
        have q1 := RA.free 1
        have q2 := RA.free 2
        have q3 := RA.free 3
        have HRA := Lib.hid RA
        clear BA RA R1
        by_cases hin : inV p v = true
        case neg =>
          have hin' : 0 ≤ p ∧ v.pc ≠ p := by
            simp only [inV, Bool.or_eq_true, decide_eq_true_eq, not_or] at hin
            exact ⟨by omega, hin.2⟩
          have HX : Hid (Four (vs.take (i + 1)) p f g u s) := Lib.hid (by
            have hz : ∀ q, hasV p q v = false := fun q => by simp [hasV, show inV p v = false by simpa using hin]
            unfold Four
            simp only [HT.out, HV.out, hz, Bool.false_eq_true, if_false, Nat.add_zero]
            exact hI.out)
          obtain ⟨hp0, hpn⟩ := hin'
          have hpb : decide (v.pc = p) = false := decide_eq_false hpn
          clear hin
          go_wp2_with first | refine wpList_store_new rfl 32 _ _ rfl atVot _ _ _ rfl rfl rfl rfl (vot_one v) ?_
          go_roundw
          case rel => exact ⟨i + 1, f, g, u, s, by omega, by omega, by omega, by omega, by omega, by go_num, HRA.out, HX⟩
          case measure => simp [intOf]; omega
        case pos =>
          have HIN := Lib.hid hin
          by_cases hp0 : 0 ≤ p
          case pos =>
            have hpe : decide (v.pc = p) = true := decide_eq_true (by
              simp only [inV, Bool.or_eq_true, decide_eq_true_eq] at hin
              omega)
            have hpe2 : (v.pc == p) = true := beq_iff_eq.2 (of_decide_eq_true hpe)
            clear hin
            by_cases e1 : v.st = 1
            case pos =>
              have HQ : Hid (v.st = 1) := Lib.hid (by omega)
              have dk1 : decide (((v.st : Nat) : Int) = 1) = true := decide_eq_true (by omega)
              have dk2 : (((v.st : Nat) : Int) == 1) = true := beq_iff_eq.2 (by omega)
              have HX : Hid (Four (vs.take (i + 1)) p (f + 1) g u s) := Lib.hid (by
                obtain ⟨x1, x2, x3, x4⟩ := hI.out
                have hq : v.st = 1 := HQ.out
                refine ⟨?_, ?_, ?_, ?_⟩ <;> simp only [HT.out, HV.out, hasV, HIN.out, hq] <;> simp <;> omega)
              clear hst e1
              go_wp2_with first | refine wpList_store_new rfl 32 _ _ rfl atVot _ _ _ rfl rfl rfl rfl (vot_one v) ?_
              go_roundw
              case rel => exact ⟨i + 1, f + 1, g, u, s, by omega, by omega, by omega, by omega, by omega, by go_num, by simpa using HRA.out.set 0 (.int .i64 (((f + 1 : Nat)) : Int)), HX⟩
              case measure => simp [intOf]; omega
            have d1 : decide (((v.st : Nat) : Int) = 1) = false := decide_eq_false (by omega)
            by_cases e2 : v.st = 2
            case pos =>
              have HQ : Hid (v.st = 2) := Lib.hid (by omega)
              have dk1 : decide (((v.st : Nat) : Int) = 2) = true := decide_eq_true (by omega)
              have dk2 : (((v.st : Nat) : Int) == 2) = true := beq_iff_eq.2 (by omega)
              have HX : Hid (Four (vs.take (i + 1)) p f (g + 1) u s) := Lib.hid (by
                obtain ⟨x1, x2, x3, x4⟩ := hI.out
                have hq : v.st = 2 := HQ.out
                refine ⟨?_, ?_, ?_, ?_⟩ <;> simp only [HT.out, HV.out, hasV, HIN.out, hq] <;> simp <;> omega)
              clear hst e2
              go_wp2_with first | refine wpList_store_new rfl 32 _ _ rfl atVot _ _ _ rfl rfl rfl rfl (vot_one v) ?_
              go_roundw
              case rel => exact ⟨i + 1, f, g + 1, u, s, by omega, by omega, by omega, by omega, by omega, by go_num, by simpa using HRA.out.set 1 (.int .i64 (((g + 1 : Nat)) : Int)), HX⟩
              case measure => simp [intOf]; omega
            have d2 : decide (((v.st : Nat) : Int) = 2) = false := decide_eq_false (by omega)
            by_cases e3 : v.st = 3
            case pos =>
              have HQ : Hid (v.st = 3) := Lib.hid (by omega)
              have dk1 : decide (((v.st : Nat) : Int) = 3) = true := decide_eq_true (by omega)
              have dk2 : (((v.st : Nat) : Int) == 3) = true := beq_iff_eq.2 (by omega)
              have HX : Hid (Four (vs.take (i + 1)) p f g (u + 1) s) := Lib.hid (by
                obtain ⟨x1, x2, x3, x4⟩ := hI.out
                have hq : v.st = 3 := HQ.out
                refine ⟨?_, ?_, ?_, ?_⟩ <;> simp only [HT.out, HV.out, hasV, HIN.out, hq] <;> simp <;> omega)
              clear hst e3
              go_wp2_with first | refine wpList_store_new rfl 32 _ _ rfl atVot _ _ _ rfl rfl rfl rfl (vot_one v) ?_
              go_roundw
              case rel => exact ⟨i + 1, f, g, u + 1, s, by omega, by omega, by omega, by omega, by omega, by go_num, by simpa using HRA.out.set 2 (.int .i64 (((u + 1 : Nat)) : Int)), HX⟩
              case measure => simp [intOf]; omega
            have d3 : decide (((v.st : Nat) : Int) = 3) = false := decide_eq_false (by omega)
            have HQ : Hid (v.st = 4) := Lib.hid (by omega)
            have dk1 : decide (((v.st : Nat) : Int) = 4) = true := decide_eq_true (by omega)
            have dk2 : (((v.st : Nat) : Int) == 4) = true := beq_iff_eq.2 (by omega)
            have HX : Hid (Four (vs.take (i + 1)) p f g u (s + 1)) := Lib.hid (by
              obtain ⟨x1, x2, x3, x4⟩ := hI.out
              have hq : v.st = 4 := HQ.out
              refine ⟨?_, ?_, ?_, ?_⟩ <;> simp only [HT.out, HV.out, hasV, HIN.out, hq] <;> simp <;> omega)
            clear hst e1 e2 e3
            go_wp2_with first | refine wpList_store_new rfl 32 _ _ rfl atVot _ _ _ rfl rfl rfl rfl (vot_one v) ?_
            go_roundw
            case rel => exact ⟨i + 1, f, g, u, s + 1, by omega, by omega, by omega, by omega, by omega, by go_num, by simpa using HRA.out.set 3 (.int .i64 (((s + 1 : Nat)) : Int)), HX⟩
            case measure => simp [intOf]; omega
          case neg =>
            clear hin
            by_cases e1 : v.st = 1
            case pos =>
              have HQ : Hid (v.st = 1) := Lib.hid (by omega)
              have dk1 : decide (((v.st : Nat) : Int) = 1) = true := decide_eq_true (by omega)
              have dk2 : (((v.st : Nat) : Int) == 1) = true := beq_iff_eq.2 (by omega)
              have HX : Hid (Four (vs.take (i + 1)) p (f + 1) g u s) := Lib.hid (by
                obtain ⟨x1, x2, x3, x4⟩ := hI.out
                have hq : v.st = 1 := HQ.out
                refine ⟨?_, ?_, ?_, ?_⟩ <;> simp only [HT.out, HV.out, hasV, HIN.out, hq] <;> simp <;> omega)
              clear hst e1
              go_wp2_with first | refine wpList_store_new rfl 32 _ _ rfl atVot _ _ _ rfl rfl rfl rfl (vot_one v) ?_
              go_roundw
              case rel => exact ⟨i + 1, f + 1, g, u, s, by omega, by omega, by omega, by omega, by omega, by go_num, by simpa using HRA.out.set 0 (.int .i64 (((f + 1 : Nat)) : Int)), HX⟩
              case measure => simp [intOf]; omega
            have d1 : decide (((v.st : Nat) : Int) = 1) = false := decide_eq_false (by omega)
            by_cases e2 : v.st = 2
            case pos =>
              have HQ : Hid (v.st = 2) := Lib.hid (by omega)
              have dk1 : decide (((v.st : Nat) : Int) = 2) = true := decide_eq_true (by omega)
              have dk2 : (((v.st : Nat) : Int) == 2) = true := beq_iff_eq.2 (by omega)
              have HX : Hid (Four (vs.take (i + 1)) p f (g + 1) u s) := Lib.hid (by
                obtain ⟨x1, x2, x3, x4⟩ := hI.out
                have hq : v.st = 2 := HQ.out
                refine ⟨?_, ?_, ?_, ?_⟩ <;> simp only [HT.out, HV.out, hasV, HIN.out, hq] <;> simp <;> omega)
              clear hst e2
              go_wp2_with first | refine wpList_store_new rfl 32 _ _ rfl atVot _ _ _ rfl rfl rfl rfl (vot_one v) ?_
              go_roundw
              case rel => exact ⟨i + 1, f, g + 1, u, s, by omega, by omega, by omega, by omega, by omega, by go_num, by simpa using HRA.out.set 1 (.int .i64 (((g + 1 : Nat)) : Int)), HX⟩
              case measure => simp [intOf]; omega
            have d2 : decide (((v.st : Nat) : Int) = 2) = false := decide_eq_false (by omega)
            by_cases e3 : v.st = 3
            case pos =>
              have HQ : Hid (v.st = 3) := Lib.hid (by omega)
              have dk1 : decide (((v.st : Nat) : Int) = 3) = true := decide_eq_true (by omega)
              have dk2 : (((v.st : Nat) : Int) == 3) = true := beq_iff_eq.2 (by omega)
              have HX : Hid (Four (vs.take (i + 1)) p f g (u + 1) s) := Lib.hid (by
                obtain ⟨x1, x2, x3, x4⟩ := hI.out
                have hq : v.st = 3 := HQ.out
                refine ⟨?_, ?_, ?_, ?_⟩ <;> simp only [HT.out, HV.out, hasV, HIN.out, hq] <;> simp <;> omega)
              clear hst e3
              go_wp2_with first | refine wpList_store_new rfl 32 _ _ rfl atVot _ _ _ rfl rfl rfl rfl (vot_one v) ?_
              go_roundw
              case rel => exact ⟨i + 1, f, g, u + 1, s, by omega, by omega, by omega, by omega, by omega, by go_num, by simpa using HRA.out.set 2 (.int .i64 (((u + 1 : Nat)) : Int)), HX⟩
              case measure => simp [intOf]; omega
            have d3 : decide (((v.st : Nat) : Int) = 3) = false := decide_eq_false (by omega)
            have HQ : Hid (v.st = 4) := Lib.hid (by omega)
            have dk1 : decide (((v.st : Nat) : Int) = 4) = true := decide_eq_true (by omega)
            have dk2 : (((v.st : Nat) : Int) == 4) = true := beq_iff_eq.2 (by omega)
            have HX : Hid (Four (vs.take (i + 1)) p f g u (s + 1)) := Lib.hid (by
              obtain ⟨x1, x2, x3, x4⟩ := hI.out
              have hq : v.st = 4 := HQ.out
              refine ⟨?_, ?_, ?_, ?_⟩ <;> simp only [HT.out, HV.out, hasV, HIN.out, hq] <;> simp <;> omega)
            clear hst e1 e2 e3
            go_wp2_with first | refine wpList_store_new rfl 32 _ _ rfl atVot _ _ _ rfl rfl rfl rfl (vot_one v) ?_
            go_roundw
            case rel => exact ⟨i + 1, f, g, u, s + 1, by omega, by omega, by omega, by omega, by omega, by go_num, by simpa using HRA.out.set 3 (.int .i64 (((s + 1 : Nat)) : Int)), HX⟩
            case measure => simp [intOf]; omega

end Go.Proofs.Ytnjkfjecnicccaa
