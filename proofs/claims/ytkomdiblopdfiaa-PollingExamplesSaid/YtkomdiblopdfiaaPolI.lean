/- Observe in the document's answer. -/
import Derived.Test.YtkomdiblopdfiaaPolF
namespace Go.Proofs.Ytkomdiblopdfiaa
open Go.RowKit Go.Suf
set_option linter.unusedVariables false
set_option linter.unusedSimpArgs false

theorem fac_down {b : Int} (h1 : 1 ≤ b) (h2 : b ≤ 999) : IntKind.u64.wrap (wrap64 (1000 + wrap64 (-b))) = 1000 + -b := by
  simp only [IntKind.wrap, IntKind.bits, IntKind.signed, wrap64]
  simp
  omega
theorem fac_up {b : Int} (h1 : 1 ≤ b) (h2 : b ≤ 999) : IntKind.u64.wrap (wrap64 (1000 + wrap64 b)) = 1000 + b := by
  simp only [IntKind.wrap, IntKind.bits, IntKind.signed, wrap64]
  simp
  omega

/-- A state that was boxed, and a block for the result behind it. -/
theorem pol_blocks (w : World) (x : Array Value) :
    PRow 25 w ((w.alloc (.cells x 25)).alloc (.cells zc 25)) w.heap.size x ∧ PRow 25 w ((w.alloc (.cells x 25)).alloc (.cells zc 25)) (w.heap.size + 1) zc := by
  have s1 : (w.alloc (.cells x 25)).heap.size = w.heap.size + 1 := World.size_alloc _ _
  have h1 := PRow.new 25 w x
  have h2 := PRow.new 25 (w.alloc (.cells x 25)) zc
  have h3 := h1.later h2.below
  rw [s1] at h2
  exact ⟨h3, h3.below, h2.row, by omega, h2.lt⟩

set_option maxRecDepth 100000 in
set_option maxHeartbeats 8000000 in
theorem refObserve_any (w : World) {p : PV} {a b : Option Addr} {n m c d : Nat} (h1 : Rd .u32 w a n c p.lev) (h2 : Rd .u32 w b m d p.best) (hw : PW p)
    {av : Option Addr} {nv cv : Nat} {vs : List Int} (hv : RdI w av nv cv vs) :
    Calls Try.prog 24 #[polV p a n c b m d, .slice av nv cv] w (RetPE w (obsC p vs)) := by
  obtain ⟨r, hr⟩ : ∃ r, r = obsC p vs := ⟨_, rfl⟩
  rw [← hr]
  obtain ⟨R0, R1⟩ := pol_blocks w (polC p a n c b m d)
  have k0 := R0.cell 0 _ rfl
  have k1 := R0.cell 1 _ rfl
  have k2 := R0.cell 2 _ rfl
  have k3 := R0.cell 3 _ rfl
  have k4 := R0.cell 4 _ rfl
  have k5 := R0.cell 5 _ rfl
  have hn := hv.lt
  have HL := Lib.hid hv.len
  by_cases hc : chkP p = 0
  case neg =>
    have e := Lib.hid (show r = (zeroP, 8) by rw [hr]; exact obsC_bad hc)
    have C := Lib.hid ((chkP_two _).resolve_left hc)
    clear hr hc
    go_enter Try.func24, Try.ntmps24
    go_wp2_with fail
    have cc := refPolCheck_any _ (h1.below R0.below) (h2.below R0.below) hw
    rw [C.out] at cc
    refine cc.mono ?_
    rintro e1 w1 ⟨rfl, hb⟩
    have R1 := R1.later hb
    have row1 := R1.row
    have HB := Lib.hid (fun cs => below_row R1.below R1.lo cs)
    clear cc hb
    go_wp2_with (refine wpList_store_whole rfl 25 _ _ rfl atPol _ _ _ row1 rfl rfl rfl rfl (pol_one zeroP _ _ _ _ _ _) ?_)
    refine bodyPost_ret (results_cell_two rfl _ _ _ _ _ _ _ rfl (setRow_heap _ _ _ _ _ _ row1) Try.underlying25 rfl (by kernel_rfl) _ rfl) rfl ?_
    refine ⟨none, 0, 0, none, 0, 0, by rw [e.out]; rfl, ?_, ?_, HB.out _⟩
    · rw [e.out]; exact Rd.nil _ _
    · rw [e.out]; exact Rd.nil _ _
  case pos =>
  obtain ⟨L0, B0, vld0⟩ := chkP_get (fun x hx => h1.bd x hx) (fun x hx => h2.bd x hx) hc
  have C := Lib.hid hc
  have HR := Lib.hid hr
  have VL := Lib.hid vld0
  clear hr hc vld0
  go_enter Try.func24, Try.ntmps24
  go_wp2_with fail
  have cc := refPolCheck_any _ (h1.below R0.below) (h2.below R0.below) hw
  rw [C.out] at cc
  refine cc.mono ?_
  rintro e1 w1 ⟨rfl, hb⟩
  clear cc
  have R0 := R0.later hb
  have R1 := R1.later hb
  have start : ObI w w1 w.heap.size (w.heap.size + 1) p vs 0 := ⟨p, L0, B0, a, n, c, b, m, d, R0, R1, by rw [← VL.out.lev]; exact h1.below R0.below, by rw [← VL.out.best]; exact h2.below R0.below, rfl, VL.out⟩
  clear k0 k1 k2 k3 k4 k5 hb R0 R1
  go_wp2_with fail
  go_loopw [7] (fun i wr => ∃ (k : Nat), k ≤ nv ∧ i = .int .i64 (k : Nat) ∧ ObI w wr w.heap.size (w.heap.size + 1) p vs k) (fun i _ => nv - (intOf i).toNat)
  case atStart => exact ⟨0, Nat.zero_le _, rfl, start⟩
  case round =>
    obtain ⟨k, hk, rfl, q, L, B, a', n', c', b', m', d', R0, R1, ra, rb, ho, hvld⟩ := hrel
    have HO := Lib.hid ho
    have vld := Lib.hid hvld
    have row1 := R1.row
    have HB := Lib.hid (fun cs => below_row R1.below R1.lo cs)
    clear ho hvld start
    have k0 := R0.cell 0 _ rfl
    have k1 := R0.cell 1 _ rfl
    have k2 := R0.cell 2 _ rfl
    have k3 := R0.cell 3 _ rfl
    have k4 := R0.cell 4 _ rfl
    have k5 := R0.cell 5 _ rfl
    by_cases hlt : k < nv
    · obtain ⟨bv, off, rfl, hall⟩ := (hv.below R0.below).addr (by omega)
      have hcell := hall k hlt
      obtain ⟨x, hx⟩ : ∃ x, x = ith vs k := ⟨_, rfl⟩
      rw [← hx] at hcell
      have HX := Lib.hid hx
      clear hx hall
      by_cases x0 : x < 0
      · have d1 : decide (x < 0) = true := decide_eq_true x0
        have e := Lib.hid (show r = (zeroP, 2) by
          rw [HR.out]
          exact obsC_none C.out (obsN_fail (k := k + 1) (by rw [obsN_snoc HO.out (by rw [HL.out]; exact hlt), ← HX.out]; exact obs1_out (.inl x0))))
        clear ra rb
        go_wp2_with (refine wpList_store_whole rfl 25 _ _ rfl atPol _ _ _ row1 rfl rfl rfl rfl (pol_one zeroP _ _ _ _ _ _) ?_)
        refine bodyPost_ret (results_cell_two rfl _ _ _ _ _ _ _ rfl (setRow_heap _ _ _ _ _ _ row1) Try.underlying25 rfl (by kernel_rfl) _ rfl) rfl ?_
        refine ⟨none, 0, 0, none, 0, 0, by rw [e.out]; rfl, ?_, ?_, HB.out _⟩
        · rw [e.out]; exact Rd.nil _ _
        · rw [e.out]; exact Rd.nil _ _
      by_cases x2 : 2 < x
      · have d1 : decide (x < 0) = false := decide_eq_false x0
        have d2 : decide (2 < x) = true := decide_eq_true x2
        have e := Lib.hid (show r = (zeroP, 2) by
          rw [HR.out]
          exact obsC_none C.out (obsN_fail (k := k + 1) (by rw [obsN_snoc HO.out (by rw [HL.out]; exact hlt), ← HX.out]; exact obs1_out (.inr (.inl x2)))))
        clear ra rb
        go_wp2_with (refine wpList_store_whole rfl 25 _ _ rfl atPol _ _ _ row1 rfl rfl rfl rfl (pol_one zeroP _ _ _ _ _ _) ?_)
        refine bodyPost_ret (results_cell_two rfl _ _ _ _ _ _ _ rfl (setRow_heap _ _ _ _ _ _ row1) Try.underlying25 rfl (by kernel_rfl) _ rfl) rfl ?_
        refine ⟨none, 0, 0, none, 0, 0, by rw [e.out]; rfl, ?_, ?_, HB.out _⟩
        · rw [e.out]; exact Rd.nil _ _
        · rw [e.out]; exact Rd.nil _ _
      have three : x = 0 ∨ x = 1 ∨ x = 2 := by omega
      clear x0 x2
      rcases three with rfl | rfl | rfl
      · have d1 : decide ((0 : Int) < 0) = false := by decide
        have HF := Lib.hid (show seenAt q 0 = q.s0 from rfl)
        by_cases full : 1000000 ≤ q.s0
        · have e := Lib.hid (show r = (zeroP, 2) by
            rw [HR.out]
            exact obsC_none C.out (obsN_fail (k := k + 1) (by rw [obsN_snoc HO.out (by rw [HL.out]; exact hlt), ← HX.out]; exact obs1_out (.inr (.inr full)))))
          have d2 : decide (1000000 ≤ q.s0) = true := decide_eq_true full
          clear ra rb
          go_wp2_with (refine wpList_store_whole rfl 25 _ _ rfl atPol _ _ _ row1 rfl rfl rfl rfl (pol_one zeroP _ _ _ _ _ _) ?_)
          refine bodyPost_ret (results_cell_two rfl _ _ _ _ _ _ _ rfl (setRow_heap _ _ _ _ _ _ row1) Try.underlying25 rfl (by kernel_rfl) _ rfl) rfl ?_
          refine ⟨none, 0, 0, none, 0, 0, by rw [e.out]; rfl, ?_, ?_, HB.out _⟩
          · rw [e.out]; exact Rd.nil _ _
          · rw [e.out]; exact Rd.nil _ _
        · have d2 : decide (1000000 ≤ q.s0) = false := decide_eq_false full
          have HV := Lib.hid (step_vld vld.out (v := 0) (by decide) (by decide) (by rw [HF.out]; omega))
          have HO2 := Lib.hid (show obsN p (vs.take (k + 1)) = some (step q 0) by
            rw [obsN_snoc HO.out (by rw [HL.out]; exact hlt), ← HX.out]
            exact obs1_in (by rw [HF.out]; omega))
          have bet1 := vld.out.bet.1
          have bet2 := vld.out.bet.2
          have sv0 : 0 ≤ q.s0 := vld.out.s0.1
          have sv1 : q.s0 < 1000000 := by omega
          obtain ⟨N, hN⟩ : ∃ N : Nat, (N : Int) = 1000 + -q.bet := ⟨(1000 + -q.bet : Int).toNat, by omega⟩
          have HN := Lib.hid (show factN q.bet 0 = N by unfold factN; omega)
          have NB := Lib.hid (show N < 18446744073709551616 by omega)
          have R0' : PRow 25 w (wr.setCell ⟨w.heap.size, 1, none⟩ (.int .i64 (q.s0 + 1))) w.heap.size (polC (bump q 0) a' n' c' b' m' d') := R0.set 1 (.int .i64 (q.s0 + 1))
          have ra' := rd_setcell (i := 1) ra R0.row (pol_noint _ _ _ _ _ _ _) (.int .i64 (q.s0 + 1))
          have rb' := rd_setcell (i := 1) rb R0.row (pol_noint _ _ _ _ _ _ _) (.int .i64 (q.s0 + 1))
          have R1' := R1.other (p := ⟨w.heap.size, 1, none⟩) (by simp) (Nat.le_refl _) (.int .i64 (q.s0 + 1))
          have fr := R0.free 1
          have LM := Lib.hid (show L ≤ mostN from Nat.le_trans vld.out.le vld.out.hi)
          have EL := Lib.hid (show timesN L N 1000 = newL q 0 L by unfold newL; rw [HN.out])
          have LF := Lib.hid (show B < pw 96 ∧ newL q 0 L < pw 96 from ⟨vld.out.pw.2, Nat.lt_of_le_of_lt (newL_le _ _ _) most_pw⟩)
          clear ra rb R0 R1 HB row1 bet1 bet2 full
          go_wp2_with fail
          have cc := refPolTimes_any _ ra' LM.out N 1000 NB.out (by decide) (by decide)
          rw [hN, EL.out] at cc
          rw [fac_down vld.out.bet.1 vld.out.bet.2]
          refine cc.mono ?_
          clear cc
          rintro e1 w2 ⟨a2, n2, c2, rfl, x2, hb⟩
          have R0 := R0'.later hb
          have R1 := R1'.later hb
          have rb := rb'.below hb
          clear R0' R1' ra' rb' hb hN sv0 sv1 k0 k1 k2 k3 k4 k5 fr
          have k4 := R0.cell 4 _ rfl
          have k5 := R0.cell 5 _ rfl
          have fr := R0.free 4
          have R0' : PRow 25 w (w2.setCell ⟨w.heap.size, 4, none⟩ (.slice a2 n2 c2)) w.heap.size (polC (bump q 0) a2 n2 c2 b' m' d') := R0.set 4 (.slice a2 n2 c2)
          have ra' := rd_setcell (i := 4) x2 R0.row (pol_noint _ _ _ _ _ _ _) (.slice a2 n2 c2)
          have rb' := rd_setcell (i := 4) rb R0.row (pol_noint _ _ _ _ _ _ _) (.slice a2 n2 c2)
          have R1' := R1.other (p := ⟨w.heap.size, 4, none⟩) (by simp) (Nat.le_refl _) (.slice a2 n2 c2)
          clear R0 R1 rb x2
          go_wp2_with fail
          have cc := refAtMost_any _ rb' ra'
          rw [leC_ok LF.out.1 LF.out.2] at cc
          by_cases hle : B ≤ newL q 0 L
          · rw [decide_eq_true hle] at cc
            refine cc.mono ?_
            clear cc
            rintro e1 w3 ⟨rfl, hb⟩
            have R0 := R0'.later hb
            have R1 := R1'.later hb
            have ra := ra'.below hb
            have HLE := Lib.hid hle
            clear R0' R1' ra' rb' hb fr k4 k5 hle
            have k4 := R0.cell 4 _ rfl
            have k5 := R0.cell 5 _ rfl
            have fr := R0.free 5
            have R0' : PRow 25 w (w3.setCell ⟨w.heap.size, 5, none⟩ (.slice a2 n2 c2)) w.heap.size (polC (bump q 0) a2 n2 c2 a2 n2 c2) := R0.set 5 (.slice a2 n2 c2)
            have ra' := rd_setcell (i := 5) ra R0.row (pol_noint _ _ _ _ _ _ _) (.slice a2 n2 c2)
            have R1' := R1.other (p := ⟨w.heap.size, 5, none⟩) (by simp) (Nat.le_refl _) (.slice a2 n2 c2)
            have FIN : Hid (ObI w (w3.setCell ⟨w.heap.size, 5, none⟩ (.slice a2 n2 c2)) w.heap.size (w.heap.size + 1) p vs (k + 1)) := Lib.hid ⟨step q 0, newL q 0 L, max B (newL q 0 L), a2, n2, c2, a2, n2, c2, R0', R1', ra', by rw [Nat.max_eq_right HLE.out]; exact ra', HO2.out, HV.out⟩
            clear R0 R1 ra R0' R1' ra'
            go_wp2_with fail
            go_roundw
            case rel => exact ⟨k + 1, by omega, by go_num, FIN.out⟩
            case measure => simp [intOf]; omega
          · rw [decide_eq_false hle] at cc
            refine cc.mono ?_
            clear cc
            rintro e1 w3 ⟨rfl, hb⟩
            have R0 := R0'.later hb
            have R1 := R1'.later hb
            have ra := ra'.below hb
            have rb := rb'.below hb
            have FIN : Hid (ObI w w3 w.heap.size (w.heap.size + 1) p vs (k + 1)) := Lib.hid ⟨step q 0, newL q 0 L, max B (newL q 0 L), a2, n2, c2, b', m', d', R0, R1, ra, by rw [Nat.max_eq_left (by omega)]; exact rb, HO2.out, HV.out⟩
            clear R0 R1 ra rb R0' R1' ra' rb' hb fr k4 k5 hle
            go_wp2_with fail
            go_roundw
            case rel => exact ⟨k + 1, by omega, by go_num, FIN.out⟩
            case measure => simp [intOf]; omega
      · have d1 : decide ((1 : Int) < 0) = false := by decide
        have HF := Lib.hid (show seenAt q 1 = q.s1 from rfl)
        by_cases full : 1000000 ≤ q.s1
        · have e := Lib.hid (show r = (zeroP, 2) by
            rw [HR.out]
            exact obsC_none C.out (obsN_fail (k := k + 1) (by rw [obsN_snoc HO.out (by rw [HL.out]; exact hlt), ← HX.out]; exact obs1_out (.inr (.inr full)))))
          have d2 : decide (1000000 ≤ q.s1) = true := decide_eq_true full
          clear ra rb
          go_wp2_with (refine wpList_store_whole rfl 25 _ _ rfl atPol _ _ _ row1 rfl rfl rfl rfl (pol_one zeroP _ _ _ _ _ _) ?_)
          refine bodyPost_ret (results_cell_two rfl _ _ _ _ _ _ _ rfl (setRow_heap _ _ _ _ _ _ row1) Try.underlying25 rfl (by kernel_rfl) _ rfl) rfl ?_
          refine ⟨none, 0, 0, none, 0, 0, by rw [e.out]; rfl, ?_, ?_, HB.out _⟩
          · rw [e.out]; exact Rd.nil _ _
          · rw [e.out]; exact Rd.nil _ _
        · have d2 : decide (1000000 ≤ q.s1) = false := decide_eq_false full
          have HV := Lib.hid (step_vld vld.out (v := 1) (by decide) (by decide) (by rw [HF.out]; omega))
          have HO2 := Lib.hid (show obsN p (vs.take (k + 1)) = some (step q 1) by
            rw [obsN_snoc HO.out (by rw [HL.out]; exact hlt), ← HX.out]
            exact obs1_in (by rw [HF.out]; omega))
          have bet1 := vld.out.bet.1
          have bet2 := vld.out.bet.2
          have sv0 : 0 ≤ q.s1 := vld.out.s1.1
          have sv1 : q.s1 < 1000000 := by omega
          obtain ⟨N, hN⟩ : ∃ N : Nat, (N : Int) = 1000 := ⟨(1000 : Int).toNat, by omega⟩
          have HN := Lib.hid (show factN q.bet 1 = N by unfold factN; omega)
          have NB := Lib.hid (show N < 18446744073709551616 by omega)
          have R0' : PRow 25 w (wr.setCell ⟨w.heap.size, 2, none⟩ (.int .i64 (q.s1 + 1))) w.heap.size (polC (bump q 1) a' n' c' b' m' d') := R0.set 2 (.int .i64 (q.s1 + 1))
          have ra' := rd_setcell (i := 2) ra R0.row (pol_noint _ _ _ _ _ _ _) (.int .i64 (q.s1 + 1))
          have rb' := rd_setcell (i := 2) rb R0.row (pol_noint _ _ _ _ _ _ _) (.int .i64 (q.s1 + 1))
          have R1' := R1.other (p := ⟨w.heap.size, 2, none⟩) (by simp) (Nat.le_refl _) (.int .i64 (q.s1 + 1))
          have fr := R0.free 2
          have LM := Lib.hid (show L ≤ mostN from Nat.le_trans vld.out.le vld.out.hi)
          have EL := Lib.hid (show timesN L N 1000 = newL q 1 L by unfold newL; rw [HN.out])
          have LF := Lib.hid (show B < pw 96 ∧ newL q 1 L < pw 96 from ⟨vld.out.pw.2, Nat.lt_of_le_of_lt (newL_le _ _ _) most_pw⟩)
          clear ra rb R0 R1 HB row1 bet1 bet2 full
          go_wp2_with fail
          have cc := refPolTimes_any _ ra' LM.out N 1000 NB.out (by decide) (by decide)
          rw [hN, EL.out] at cc
          refine cc.mono ?_
          clear cc
          rintro e1 w2 ⟨a2, n2, c2, rfl, x2, hb⟩
          have R0 := R0'.later hb
          have R1 := R1'.later hb
          have rb := rb'.below hb
          clear R0' R1' ra' rb' hb hN sv0 sv1 k0 k1 k2 k3 k4 k5 fr
          have k4 := R0.cell 4 _ rfl
          have k5 := R0.cell 5 _ rfl
          have fr := R0.free 4
          have R0' : PRow 25 w (w2.setCell ⟨w.heap.size, 4, none⟩ (.slice a2 n2 c2)) w.heap.size (polC (bump q 1) a2 n2 c2 b' m' d') := R0.set 4 (.slice a2 n2 c2)
          have ra' := rd_setcell (i := 4) x2 R0.row (pol_noint _ _ _ _ _ _ _) (.slice a2 n2 c2)
          have rb' := rd_setcell (i := 4) rb R0.row (pol_noint _ _ _ _ _ _ _) (.slice a2 n2 c2)
          have R1' := R1.other (p := ⟨w.heap.size, 4, none⟩) (by simp) (Nat.le_refl _) (.slice a2 n2 c2)
          clear R0 R1 rb x2
          go_wp2_with fail
          have cc := refAtMost_any _ rb' ra'
          rw [leC_ok LF.out.1 LF.out.2] at cc
          by_cases hle : B ≤ newL q 1 L
          · rw [decide_eq_true hle] at cc
            refine cc.mono ?_
            clear cc
            rintro e1 w3 ⟨rfl, hb⟩
            have R0 := R0'.later hb
            have R1 := R1'.later hb
            have ra := ra'.below hb
            have HLE := Lib.hid hle
            clear R0' R1' ra' rb' hb fr k4 k5 hle
            have k4 := R0.cell 4 _ rfl
            have k5 := R0.cell 5 _ rfl
            have fr := R0.free 5
            have R0' : PRow 25 w (w3.setCell ⟨w.heap.size, 5, none⟩ (.slice a2 n2 c2)) w.heap.size (polC (bump q 1) a2 n2 c2 a2 n2 c2) := R0.set 5 (.slice a2 n2 c2)
            have ra' := rd_setcell (i := 5) ra R0.row (pol_noint _ _ _ _ _ _ _) (.slice a2 n2 c2)
            have R1' := R1.other (p := ⟨w.heap.size, 5, none⟩) (by simp) (Nat.le_refl _) (.slice a2 n2 c2)
            have FIN : Hid (ObI w (w3.setCell ⟨w.heap.size, 5, none⟩ (.slice a2 n2 c2)) w.heap.size (w.heap.size + 1) p vs (k + 1)) := Lib.hid ⟨step q 1, newL q 1 L, max B (newL q 1 L), a2, n2, c2, a2, n2, c2, R0', R1', ra', by rw [Nat.max_eq_right HLE.out]; exact ra', HO2.out, HV.out⟩
            clear R0 R1 ra R0' R1' ra'
            go_wp2_with fail
            go_roundw
            case rel => exact ⟨k + 1, by omega, by go_num, FIN.out⟩
            case measure => simp [intOf]; omega
          · rw [decide_eq_false hle] at cc
            refine cc.mono ?_
            clear cc
            rintro e1 w3 ⟨rfl, hb⟩
            have R0 := R0'.later hb
            have R1 := R1'.later hb
            have ra := ra'.below hb
            have rb := rb'.below hb
            have FIN : Hid (ObI w w3 w.heap.size (w.heap.size + 1) p vs (k + 1)) := Lib.hid ⟨step q 1, newL q 1 L, max B (newL q 1 L), a2, n2, c2, b', m', d', R0, R1, ra, by rw [Nat.max_eq_left (by omega)]; exact rb, HO2.out, HV.out⟩
            clear R0 R1 ra rb R0' R1' ra' rb' hb fr k4 k5 hle
            go_wp2_with fail
            go_roundw
            case rel => exact ⟨k + 1, by omega, by go_num, FIN.out⟩
            case measure => simp [intOf]; omega
      · have d1 : decide ((2 : Int) < 0) = false := by decide
        have HF := Lib.hid (show seenAt q 2 = q.s2 from rfl)
        by_cases full : 1000000 ≤ q.s2
        · have e := Lib.hid (show r = (zeroP, 2) by
            rw [HR.out]
            exact obsC_none C.out (obsN_fail (k := k + 1) (by rw [obsN_snoc HO.out (by rw [HL.out]; exact hlt), ← HX.out]; exact obs1_out (.inr (.inr full)))))
          have d2 : decide (1000000 ≤ q.s2) = true := decide_eq_true full
          clear ra rb
          go_wp2_with (refine wpList_store_whole rfl 25 _ _ rfl atPol _ _ _ row1 rfl rfl rfl rfl (pol_one zeroP _ _ _ _ _ _) ?_)
          refine bodyPost_ret (results_cell_two rfl _ _ _ _ _ _ _ rfl (setRow_heap _ _ _ _ _ _ row1) Try.underlying25 rfl (by kernel_rfl) _ rfl) rfl ?_
          refine ⟨none, 0, 0, none, 0, 0, by rw [e.out]; rfl, ?_, ?_, HB.out _⟩
          · rw [e.out]; exact Rd.nil _ _
          · rw [e.out]; exact Rd.nil _ _
        · have d2 : decide (1000000 ≤ q.s2) = false := decide_eq_false full
          have HV := Lib.hid (step_vld vld.out (v := 2) (by decide) (by decide) (by rw [HF.out]; omega))
          have HO2 := Lib.hid (show obsN p (vs.take (k + 1)) = some (step q 2) by
            rw [obsN_snoc HO.out (by rw [HL.out]; exact hlt), ← HX.out]
            exact obs1_in (by rw [HF.out]; omega))
          have bet1 := vld.out.bet.1
          have bet2 := vld.out.bet.2
          have sv0 : 0 ≤ q.s2 := vld.out.s2.1
          have sv1 : q.s2 < 1000000 := by omega
          obtain ⟨N, hN⟩ : ∃ N : Nat, (N : Int) = 1000 + q.bet := ⟨(1000 + q.bet : Int).toNat, by omega⟩
          have HN := Lib.hid (show factN q.bet 2 = N by unfold factN; omega)
          have NB := Lib.hid (show N < 18446744073709551616 by omega)
          have R0' : PRow 25 w (wr.setCell ⟨w.heap.size, 3, none⟩ (.int .i64 (q.s2 + 1))) w.heap.size (polC (bump q 2) a' n' c' b' m' d') := R0.set 3 (.int .i64 (q.s2 + 1))
          have ra' := rd_setcell (i := 3) ra R0.row (pol_noint _ _ _ _ _ _ _) (.int .i64 (q.s2 + 1))
          have rb' := rd_setcell (i := 3) rb R0.row (pol_noint _ _ _ _ _ _ _) (.int .i64 (q.s2 + 1))
          have R1' := R1.other (p := ⟨w.heap.size, 3, none⟩) (by simp) (Nat.le_refl _) (.int .i64 (q.s2 + 1))
          have fr := R0.free 3
          have LM := Lib.hid (show L ≤ mostN from Nat.le_trans vld.out.le vld.out.hi)
          have EL := Lib.hid (show timesN L N 1000 = newL q 2 L by unfold newL; rw [HN.out])
          have LF := Lib.hid (show B < pw 96 ∧ newL q 2 L < pw 96 from ⟨vld.out.pw.2, Nat.lt_of_le_of_lt (newL_le _ _ _) most_pw⟩)
          clear ra rb R0 R1 HB row1 bet1 bet2 full
          go_wp2_with fail
          have cc := refPolTimes_any _ ra' LM.out N 1000 NB.out (by decide) (by decide)
          rw [hN, EL.out] at cc
          rw [fac_up vld.out.bet.1 vld.out.bet.2]
          refine cc.mono ?_
          clear cc
          rintro e1 w2 ⟨a2, n2, c2, rfl, x2, hb⟩
          have R0 := R0'.later hb
          have R1 := R1'.later hb
          have rb := rb'.below hb
          clear R0' R1' ra' rb' hb hN sv0 sv1 k0 k1 k2 k3 k4 k5 fr
          have k4 := R0.cell 4 _ rfl
          have k5 := R0.cell 5 _ rfl
          have fr := R0.free 4
          have R0' : PRow 25 w (w2.setCell ⟨w.heap.size, 4, none⟩ (.slice a2 n2 c2)) w.heap.size (polC (bump q 2) a2 n2 c2 b' m' d') := R0.set 4 (.slice a2 n2 c2)
          have ra' := rd_setcell (i := 4) x2 R0.row (pol_noint _ _ _ _ _ _ _) (.slice a2 n2 c2)
          have rb' := rd_setcell (i := 4) rb R0.row (pol_noint _ _ _ _ _ _ _) (.slice a2 n2 c2)
          have R1' := R1.other (p := ⟨w.heap.size, 4, none⟩) (by simp) (Nat.le_refl _) (.slice a2 n2 c2)
          clear R0 R1 rb x2
          go_wp2_with fail
          have cc := refAtMost_any _ rb' ra'
          rw [leC_ok LF.out.1 LF.out.2] at cc
          by_cases hle : B ≤ newL q 2 L
          · rw [decide_eq_true hle] at cc
            refine cc.mono ?_
            clear cc
            rintro e1 w3 ⟨rfl, hb⟩
            have R0 := R0'.later hb
            have R1 := R1'.later hb
            have ra := ra'.below hb
            have HLE := Lib.hid hle
            clear R0' R1' ra' rb' hb fr k4 k5 hle
            have k4 := R0.cell 4 _ rfl
            have k5 := R0.cell 5 _ rfl
            have fr := R0.free 5
            have R0' : PRow 25 w (w3.setCell ⟨w.heap.size, 5, none⟩ (.slice a2 n2 c2)) w.heap.size (polC (bump q 2) a2 n2 c2 a2 n2 c2) := R0.set 5 (.slice a2 n2 c2)
            have ra' := rd_setcell (i := 5) ra R0.row (pol_noint _ _ _ _ _ _ _) (.slice a2 n2 c2)
            have R1' := R1.other (p := ⟨w.heap.size, 5, none⟩) (by simp) (Nat.le_refl _) (.slice a2 n2 c2)
            have FIN : Hid (ObI w (w3.setCell ⟨w.heap.size, 5, none⟩ (.slice a2 n2 c2)) w.heap.size (w.heap.size + 1) p vs (k + 1)) := Lib.hid ⟨step q 2, newL q 2 L, max B (newL q 2 L), a2, n2, c2, a2, n2, c2, R0', R1', ra', by rw [Nat.max_eq_right HLE.out]; exact ra', HO2.out, HV.out⟩
            clear R0 R1 ra R0' R1' ra'
            go_wp2_with fail
            go_roundw
            case rel => exact ⟨k + 1, by omega, by go_num, FIN.out⟩
            case measure => simp [intOf]; omega
          · rw [decide_eq_false hle] at cc
            refine cc.mono ?_
            clear cc
            rintro e1 w3 ⟨rfl, hb⟩
            have R0 := R0'.later hb
            have R1 := R1'.later hb
            have ra := ra'.below hb
            have rb := rb'.below hb
            have FIN : Hid (ObI w w3 w.heap.size (w.heap.size + 1) p vs (k + 1)) := Lib.hid ⟨step q 2, newL q 2 L, max B (newL q 2 L), a2, n2, c2, b', m', d', R0, R1, ra, by rw [Nat.max_eq_left (by omega)]; exact rb, HO2.out, HV.out⟩
            clear R0 R1 ra rb R0' R1' ra' rb' hb fr k4 k5 hle
            go_wp2_with fail
            go_roundw
            case rel => exact ⟨k + 1, by omega, by go_num, FIN.out⟩
            case measure => simp [intOf]; omega
    · obtain rfl : k = nv := by omega
      have e := Lib.hid (show r = (q, 0) by
        rw [HR.out]
        exact obsC_some C.out (by rw [← HO.out, List.take_of_length_le (by rw [HL.out]; exact Nat.le_refl _)]))
      have fin := Lib.hid (fun cs => (⟨rd_rowset ra R1.row (pol_noint zeroP _ _ _ _ _ _) cs, rd_rowset rb R1.row (pol_noint zeroP _ _ _ _ _ _) cs⟩ : _ ∧ _))
      clear ra rb
      go_wp2_with (refine wpList_store_whole rfl 25 _ _ rfl atPol _ _ _ row1 rfl rfl rfl rfl (pol_one q _ _ _ _ _ _) ?_)
      refine bodyPost_ret (results_cell_two rfl _ _ _ _ _ _ _ rfl (setRow_heap _ _ _ _ _ _ row1) Try.underlying25 rfl (by kernel_rfl) _ rfl) rfl ?_
      refine ⟨a', n', c', b', m', d', by rw [e.out]; rfl, ?_, ?_, HB.out _⟩
      · rw [e.out, vld.out.lev]; exact (fin.out _).1
      · rw [e.out, vld.out.best]; exact (fin.out _).2

end Go.Proofs.Ytkomdiblopdfiaa
