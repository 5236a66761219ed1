/- Observe of comparison audits in the answer. -/
import Derived.Test.YtmkcdlhhbnakiaaCmpF
namespace Go.Proofs.Ytmkcdlhhbnakiaa
open Go.RowKit Go.Suf
set_option linter.unusedVariables false
set_option linter.unusedSimpArgs false

/-- A state that was boxed, and a block for the result behind it. -/
theorem cm_blocks (w : World) (x : Array Value) :
    PRow 25 w ((w.alloc (.cells x 25)).alloc (.cells zcm 25)) w.heap.size x ∧ PRow 25 w ((w.alloc (.cells x 25)).alloc (.cells zcm 25)) (w.heap.size + 1) zcm := by
  have s1 : (w.alloc (.cells x 25)).heap.size = w.heap.size + 1 := World.size_alloc _ _
  have h1 := PRow.new 25 w x
  have h2 := PRow.new 25 (w.alloc (.cells x 25)) zcm
  have h3 := h1.later h2.below
  rw [s1] at h2
  exact ⟨h3, h3.below, h2.row, by omega, h2.lt⟩

theorem obsNC_snoc {p q : CV} {vs : List Int} {k : Nat} (h : obsNC p (vs.take k) = some q) (hk : k < vs.length) : obsNC p (vs.take (k + 1)) = obs1C q (ith vs k) := by
  rw [List.take_add_one, List.getElem?_eq_getElem hk, obsNC_append, h]
  show (obs1C q vs[k]).bind some = _
  rw [ith, List.getD, List.getElem?_eq_getElem hk]
  show (obs1C q vs[k]).bind some = obs1C q vs[k]
  cases obs1C q vs[k] <;> rfl

/-- What holds in front of the k-th overstatement. -/
def ObC (w wr : World) (g0 g1 : Nat) (p : CV) (vs : List Int) (k : Nat) : Prop :=
  ∃ q L B a n c b m d, PRow 25 w wr g0 (cmC q a n c b m d) ∧ PRow 25 w wr g1 zcm ∧ Rd .u32 wr a n c (limbs L) ∧ Rd .u32 wr b m d (limbs B) ∧ obsNC p (vs.take k) = some q ∧ VldC q L B

set_option maxRecDepth 100000 in
set_option maxHeartbeats 16000000 in
theorem refCmObserve_any (w : World) {p : CV} {a b : Option Addr} {n m c d : Nat} (h1 : Rd .u32 w a n c p.lev) (h2 : Rd .u32 w b m d p.best) (hw : CW p)
    {av : Option Addr} {nv cv : Nat} {vs : List Int} (hv : RdI w av nv cv vs) :
    Calls Try.prog 32 #[cmV p a n c b m d, .slice av nv cv] w (RetCE w (obsCC p vs)) := by
  obtain ⟨r, hr⟩ : ∃ r, r = obsCC p vs := ⟨_, rfl⟩
  rw [← hr]
  obtain ⟨R0, R1⟩ := cm_blocks w (cmC p a n c b m d)
  have k0 := R0.cell 0 _ rfl
  have k1 := R0.cell 1 _ rfl
  have k2 := R0.cell 2 _ rfl
  have k3 := R0.cell 3 _ rfl
  have k4 := R0.cell 4 _ rfl
  have k5 := R0.cell 5 _ rfl
  have k6 := R0.cell 6 _ rfl
  have k7 := R0.cell 7 _ rfl
  have k8 := R0.cell 8 _ rfl
  have k9 := R0.cell 9 _ rfl
  have hn := hv.lt
  have HL := Lib.hid hv.len
  by_cases hc : chkC p = 0
  case neg =>
    have e := Lib.hid (show r = (zeroCV, 8) by rw [hr]; exact obsCC_bad hc)
    have C := Lib.hid ((chkC_two _).resolve_left hc)
    clear hr hc
    go_enter Try.func32, Try.ntmps32
    go_wp2_with fail
    have cc := refCmCheck_any _ (h1.below R0.below) (h2.below R0.below) hw
    rw [C.out] at cc
    refine cc.mono ?_
    rintro e1 w1 ⟨rfl, hb⟩
    have R1 := R1.later hb
    have row1 := R1.row
    have HB := Lib.hid (fun cs => below_row R1.below R1.lo cs)
    clear cc hb
    go_wp2_with (refine wpList_store_whole rfl 25 _ _ rfl atCmp _ _ _ row1 rfl rfl rfl rfl (cm_one zeroCV _ _ _ _ _ _) ?_)
    refine bodyPost_ret (results_cell_two rfl _ _ _ _ _ _ _ rfl (setRow_heap _ _ _ _ _ _ row1) Try.underlying25 rfl (by kernel_rfl) _ rfl) rfl ?_
    refine ⟨none, 0, 0, none, 0, 0, by rw [e.out]; rfl, ?_, ?_, HB.out _⟩
    · rw [e.out]; exact Rd.nil _ _
    · rw [e.out]; exact Rd.nil _ _
  case pos =>
  obtain ⟨L0, B0, vld0⟩ := chkC_get (fun x hx => h1.bd x hx) (fun x hx => h2.bd x hx) hc
  have C := Lib.hid hc
  have HR := Lib.hid hr
  have VL := Lib.hid vld0
  clear hr hc vld0
  go_enter Try.func32, Try.ntmps32
  go_wp2_with fail
  have cc := refCmCheck_any _ (h1.below R0.below) (h2.below R0.below) hw
  rw [C.out] at cc
  refine cc.mono ?_
  rintro e1 w1 ⟨rfl, hb⟩
  clear cc
  have R0 := R0.later hb
  have R1 := R1.later hb
  have start : ObC w w1 w.heap.size (w.heap.size + 1) p vs 0 := ⟨p, L0, B0, a, n, c, b, m, d, R0, R1, by rw [← VL.out.lev]; exact h1.below R0.below, by rw [← VL.out.best]; exact h2.below R0.below, rfl, VL.out⟩
  clear k0 k1 k2 k3 k4 k5 k6 k7 k8 k9 hb R0 R1
  go_wp2_with fail
  go_loopw [7] (fun i wr => ∃ (k : Nat), k ≤ nv ∧ i = .int .i64 (k : Nat) ∧ ObC w wr w.heap.size (w.heap.size + 1) p vs k) (fun i _ => nv - (intOf i).toNat)
  case atStart => exact ⟨0, Nat.zero_le _, rfl, start⟩
  case round =>
    obtain ⟨k, hk, rfl, q, L, B, a', n', c', b', m', d', R0, R1, ra, rb, ho, hvld⟩ := hrel
    have HO := Lib.hid ho
    have vld := Lib.hid hvld
    have row1 := R1.row
    have HB := Lib.hid (fun cs => below_row R1.below R1.lo cs)
    clear ho hvld start
    have k0 := R0.cell 0 _ rfl
    have k1 := R0.cell 1 _ rfl
    have k2 := R0.cell 2 _ rfl
    have k3 := R0.cell 3 _ rfl
    have k4 := R0.cell 4 _ rfl
    have k5 := R0.cell 5 _ rfl
    have k6 := R0.cell 6 _ rfl
    have k7 := R0.cell 7 _ rfl
    have k8 := R0.cell 8 _ rfl
    have k9 := R0.cell 9 _ rfl
    by_cases hlt : k < nv
    · obtain ⟨bv, off, rfl, hall⟩ := (hv.below R0.below).addr (by omega)
      have hcell := hall k hlt
      obtain ⟨x, hx⟩ : ∃ x, x = ith vs k := ⟨_, rfl⟩
      rw [← hx] at hcell
      have HX := Lib.hid hx
      clear hx hall
      by_cases x0 : x < -2
      · have d1 : decide (x < -2) = true := decide_eq_true x0
        have e := Lib.hid (show r = (zeroCV, 2) by
          rw [HR.out]
          exact obsCC_none C.out (obsNC_fail (k := k + 1) (by rw [obsNC_snoc HO.out (by rw [HL.out]; exact hlt), ← HX.out]; exact obs1C_out (.inl x0))))
        clear ra rb
        go_wp2_with (refine wpList_store_whole rfl 25 _ _ rfl atCmp _ _ _ row1 rfl rfl rfl rfl (cm_one zeroCV _ _ _ _ _ _) ?_)
        refine bodyPost_ret (results_cell_two rfl _ _ _ _ _ _ _ rfl (setRow_heap _ _ _ _ _ _ row1) Try.underlying25 rfl (by kernel_rfl) _ rfl) rfl ?_
        refine ⟨none, 0, 0, none, 0, 0, by rw [e.out]; rfl, ?_, ?_, HB.out _⟩
        · rw [e.out]; exact Rd.nil _ _
        · rw [e.out]; exact Rd.nil _ _
      by_cases x2 : 2 < x
      · have d1 : decide (x < -2) = false := decide_eq_false x0
        have d2 : decide (2 < x) = true := decide_eq_true x2
        have e := Lib.hid (show r = (zeroCV, 2) by
          rw [HR.out]
          exact obsCC_none C.out (obsNC_fail (k := k + 1) (by rw [obsNC_snoc HO.out (by rw [HL.out]; exact hlt), ← HX.out]; exact obs1C_out (.inr (.inl x2)))))
        clear ra rb
        go_wp2_with (refine wpList_store_whole rfl 25 _ _ rfl atCmp _ _ _ row1 rfl rfl rfl rfl (cm_one zeroCV _ _ _ _ _ _) ?_)
        refine bodyPost_ret (results_cell_two rfl _ _ _ _ _ _ _ rfl (setRow_heap _ _ _ _ _ _ row1) Try.underlying25 rfl (by kernel_rfl) _ rfl) rfl ?_
        refine ⟨none, 0, 0, none, 0, 0, by rw [e.out]; rfl, ?_, ?_, HB.out _⟩
        · rw [e.out]; exact Rd.nil _ _
        · rw [e.out]; exact Rd.nil _ _
      have five : x = -2 ∨ x = -1 ∨ x = 0 ∨ x = 1 ∨ x = 2 := by omega
      clear x0 x2
      rcases five with rfl | rfl | rfl | rfl | rfl
      · have HF := Lib.hid (show seenAtC q (-2 : Int) = q.s0 from rfl)
        by_cases full : 1000000 ≤ q.s0
        · have e := Lib.hid (show r = (zeroCV, 2) by
            rw [HR.out]
            exact obsCC_none C.out (obsNC_fail (k := k + 1) (by rw [obsNC_snoc HO.out (by rw [HL.out]; exact hlt), ← HX.out]; exact obs1C_out (.inr (.inr full)))))
          have d2 : decide (1000000 ≤ q.s0) = true := decide_eq_true full
          clear ra rb
          go_wp2_with (refine wpList_store_whole rfl 25 _ _ rfl atCmp _ _ _ row1 rfl rfl rfl rfl (cm_one zeroCV _ _ _ _ _ _) ?_)
          refine bodyPost_ret (results_cell_two rfl _ _ _ _ _ _ _ rfl (setRow_heap _ _ _ _ _ _ row1) Try.underlying25 rfl (by kernel_rfl) _ rfl) rfl ?_
          refine ⟨none, 0, 0, none, 0, 0, by rw [e.out]; rfl, ?_, ?_, HB.out _⟩
          · rw [e.out]; exact Rd.nil _ _
          · rw [e.out]; exact Rd.nil _ _
        · have d2 : decide (1000000 ≤ q.s0) = false := decide_eq_false full
          have HV := Lib.hid (stepC_vld vld.out (x := (-2 : Int)) (by decide) (by decide) (by rw [HF.out]; omega))
          have HO2 := Lib.hid (show obsNC p (vs.take (k + 1)) = some (stepC q (-2 : Int)) by
            rw [obsNC_snoc HO.out (by rw [HL.out]; exact hlt), ← HX.out]
            exact obs1C_in (by rw [HF.out]; omega))
          have sv0 : 0 ≤ q.s0 := vld.out.s0.1
          have sv1 : q.s0 < 1000000 := by omega
          have R0' : PRow 25 w (wr.setCell ⟨w.heap.size, 3, none⟩ (.int .i64 (q.s0 + 1))) w.heap.size (cmC (bumpC q (-2 : Int)) a' n' c' b' m' d') := R0.set 3 (.int .i64 (q.s0 + 1))
          have ra' := rd_setcell (i := 3) ra R0.row (cm_noint _ _ _ _ _ _ _) (.int .i64 (q.s0 + 1))
          have rb' := rd_setcell (i := 3) rb R0.row (cm_noint _ _ _ _ _ _ _) (.int .i64 (q.s0 + 1))
          have R1' := R1.other (p := ⟨w.heap.size, 3, none⟩) (by simp) (Nat.le_refl _) (.int .i64 (q.s0 + 1))
          have fr := R0.free 3
          have LM := Lib.hid (show L ≤ mostN from Nat.le_trans vld.out.le vld.out.hi)
          have LF := Lib.hid (show B < pw 96 ∧ nextC q L (-2 : Int) < pw 96 from ⟨vld.out.pw.2, Nat.lt_of_le_of_lt (Nat.min_le_right _ _) most_pw⟩)
          clear ra rb R0 R1 HB row1 full
          go_upto_region 11 with fail
          clear k0 k1 k2 k3 k4 k5 k6 k7 k8 k9 fr sv0 sv1 d2 hcell
          generalize wr.setCell ⟨w.heap.size, 3, none⟩ (.int .i64 (q.s0 + 1)) = wS at *
          have k0 := R0'.cell 0 _ rfl
          have k1 := R0'.cell 1 _ rfl
          have k2 := R0'.cell 2 _ rfl
          have k3 := R0'.cell 3 _ rfl
          have k4 := R0'.cell 4 _ rfl
          have k5 := R0'.cell 5 _ rfl
          have k6 := R0'.cell 6 _ rfl
          have k7 := R0'.cell 7 _ rfl
          have k8 := R0'.cell 8 _ rfl
          have k9 := R0'.cell 9 _ rfl
          go_wp2_with fail
          have cc := refNext_any (q := bumpC q (-2 : Int)) (a := a') (n := n') (c := c') (b := b') (m := m') (d := d') wS vld.out.may (x := (-2 : Int)) (by decide) (by decide) ra' LM.out
          refine cc.mono ?_
          clear cc
          rintro e1 w2 ⟨a2, n2, c2, rfl, x2, hb⟩
          have x2 : Rd .u32 w2 a2 n2 c2 (limbs (nextC q L (-2 : Int))) := x2
          have R0 := R0'.later hb
          have R1 := R1'.later hb
          have rb := rb'.below hb
          clear R0' R1' ra' rb' hb k0 k1 k2 k3 k4 k5 k6 k7 k8 k9
          have k8 := R0.cell 8 _ rfl
          have k9 := R0.cell 9 _ rfl
          have fr := R0.free 8
          have R0' : PRow 25 w (w2.setCell ⟨w.heap.size, 8, none⟩ (.slice a2 n2 c2)) w.heap.size (cmC (bumpC q (-2 : Int)) a2 n2 c2 b' m' d') := R0.set 8 (.slice a2 n2 c2)
          have ra' := rd_setcell (i := 8) x2 R0.row (cm_noint _ _ _ _ _ _ _) (.slice a2 n2 c2)
          have rb' := rd_setcell (i := 8) rb R0.row (cm_noint _ _ _ _ _ _ _) (.slice a2 n2 c2)
          have R1' := R1.other (p := ⟨w.heap.size, 8, none⟩) (by simp) (Nat.le_refl _) (.slice a2 n2 c2)
          clear R0 R1 rb x2
          go_wp2_with fail
          have cc := refAtMost_any _ rb' ra'
          rw [leC_ok LF.out.1 LF.out.2] at cc
          by_cases hle : B ≤ nextC q L (-2 : Int)
          · rw [decide_eq_true hle] at cc
            refine cc.mono ?_
            clear cc
            rintro e1 w3 ⟨rfl, hb⟩
            have R0 := R0'.later hb
            have R1 := R1'.later hb
            have ra := ra'.below hb
            have HLE := Lib.hid hle
            clear R0' R1' ra' rb' hb fr k8 k9 hle
            have k8 := R0.cell 8 _ rfl
            have k9 := R0.cell 9 _ rfl
            have fr := R0.free 9
            have R0' : PRow 25 w (w3.setCell ⟨w.heap.size, 9, none⟩ (.slice a2 n2 c2)) w.heap.size (cmC (bumpC q (-2 : Int)) a2 n2 c2 a2 n2 c2) := R0.set 9 (.slice a2 n2 c2)
            have ra' := rd_setcell (i := 9) ra R0.row (cm_noint _ _ _ _ _ _ _) (.slice a2 n2 c2)
            have R1' := R1.other (p := ⟨w.heap.size, 9, none⟩) (by simp) (Nat.le_refl _) (.slice a2 n2 c2)
            have FIN : Hid (ObC w (w3.setCell ⟨w.heap.size, 9, none⟩ (.slice a2 n2 c2)) w.heap.size (w.heap.size + 1) p vs (k + 1)) := Lib.hid ⟨stepC q (-2 : Int), nextC q L (-2 : Int), max B (nextC q L (-2 : Int)), a2, n2, c2, a2, n2, c2, R0', R1', ra', by rw [Nat.max_eq_right HLE.out]; exact ra', HO2.out, HV.out⟩
            clear R0 R1 ra R0' R1' ra'
            go_wp2_with fail
            go_roundw
            case rel => exact ⟨k + 1, by omega, by go_num, FIN.out⟩
            case measure => simp [intOf]; omega
          · rw [decide_eq_false hle] at cc
            refine cc.mono ?_
            clear cc
            rintro e1 w3 ⟨rfl, hb⟩
            have R0 := R0'.later hb
            have R1 := R1'.later hb
            have ra := ra'.below hb
            have rb := rb'.below hb
            have FIN : Hid (ObC w w3 w.heap.size (w.heap.size + 1) p vs (k + 1)) := Lib.hid ⟨stepC q (-2 : Int), nextC q L (-2 : Int), max B (nextC q L (-2 : Int)), a2, n2, c2, b', m', d', R0, R1, ra, by rw [Nat.max_eq_left (by omega)]; exact rb, HO2.out, HV.out⟩
            clear R0 R1 ra rb R0' R1' ra' rb' hb fr k8 k9 hle
            go_wp2_with fail
            go_roundw
            case rel => exact ⟨k + 1, by omega, by go_num, FIN.out⟩
            case measure => simp [intOf]; omega
      · have HF := Lib.hid (show seenAtC q (-1 : Int) = q.s1 from rfl)
        by_cases full : 1000000 ≤ q.s1
        · have e := Lib.hid (show r = (zeroCV, 2) by
            rw [HR.out]
            exact obsCC_none C.out (obsNC_fail (k := k + 1) (by rw [obsNC_snoc HO.out (by rw [HL.out]; exact hlt), ← HX.out]; exact obs1C_out (.inr (.inr full)))))
          have d2 : decide (1000000 ≤ q.s1) = true := decide_eq_true full
          clear ra rb
          go_wp2_with (refine wpList_store_whole rfl 25 _ _ rfl atCmp _ _ _ row1 rfl rfl rfl rfl (cm_one zeroCV _ _ _ _ _ _) ?_)
          refine bodyPost_ret (results_cell_two rfl _ _ _ _ _ _ _ rfl (setRow_heap _ _ _ _ _ _ row1) Try.underlying25 rfl (by kernel_rfl) _ rfl) rfl ?_
          refine ⟨none, 0, 0, none, 0, 0, by rw [e.out]; rfl, ?_, ?_, HB.out _⟩
          · rw [e.out]; exact Rd.nil _ _
          · rw [e.out]; exact Rd.nil _ _
        · have d2 : decide (1000000 ≤ q.s1) = false := decide_eq_false full
          have HV := Lib.hid (stepC_vld vld.out (x := (-1 : Int)) (by decide) (by decide) (by rw [HF.out]; omega))
          have HO2 := Lib.hid (show obsNC p (vs.take (k + 1)) = some (stepC q (-1 : Int)) by
            rw [obsNC_snoc HO.out (by rw [HL.out]; exact hlt), ← HX.out]
            exact obs1C_in (by rw [HF.out]; omega))
          have sv0 : 0 ≤ q.s1 := vld.out.s1.1
          have sv1 : q.s1 < 1000000 := by omega
          have R0' : PRow 25 w (wr.setCell ⟨w.heap.size, 4, none⟩ (.int .i64 (q.s1 + 1))) w.heap.size (cmC (bumpC q (-1 : Int)) a' n' c' b' m' d') := R0.set 4 (.int .i64 (q.s1 + 1))
          have ra' := rd_setcell (i := 4) ra R0.row (cm_noint _ _ _ _ _ _ _) (.int .i64 (q.s1 + 1))
          have rb' := rd_setcell (i := 4) rb R0.row (cm_noint _ _ _ _ _ _ _) (.int .i64 (q.s1 + 1))
          have R1' := R1.other (p := ⟨w.heap.size, 4, none⟩) (by simp) (Nat.le_refl _) (.int .i64 (q.s1 + 1))
          have fr := R0.free 4
          have LM := Lib.hid (show L ≤ mostN from Nat.le_trans vld.out.le vld.out.hi)
          have LF := Lib.hid (show B < pw 96 ∧ nextC q L (-1 : Int) < pw 96 from ⟨vld.out.pw.2, Nat.lt_of_le_of_lt (Nat.min_le_right _ _) most_pw⟩)
          clear ra rb R0 R1 HB row1 full
          go_upto_region 11 with fail
          clear k0 k1 k2 k3 k4 k5 k6 k7 k8 k9 fr sv0 sv1 d2 hcell
          generalize wr.setCell ⟨w.heap.size, 4, none⟩ (.int .i64 (q.s1 + 1)) = wS at *
          have k0 := R0'.cell 0 _ rfl
          have k1 := R0'.cell 1 _ rfl
          have k2 := R0'.cell 2 _ rfl
          have k3 := R0'.cell 3 _ rfl
          have k4 := R0'.cell 4 _ rfl
          have k5 := R0'.cell 5 _ rfl
          have k6 := R0'.cell 6 _ rfl
          have k7 := R0'.cell 7 _ rfl
          have k8 := R0'.cell 8 _ rfl
          have k9 := R0'.cell 9 _ rfl
          go_wp2_with fail
          have cc := refNext_any (q := bumpC q (-1 : Int)) (a := a') (n := n') (c := c') (b := b') (m := m') (d := d') wS vld.out.may (x := (-1 : Int)) (by decide) (by decide) ra' LM.out
          refine cc.mono ?_
          clear cc
          rintro e1 w2 ⟨a2, n2, c2, rfl, x2, hb⟩
          have x2 : Rd .u32 w2 a2 n2 c2 (limbs (nextC q L (-1 : Int))) := x2
          have R0 := R0'.later hb
          have R1 := R1'.later hb
          have rb := rb'.below hb
          clear R0' R1' ra' rb' hb k0 k1 k2 k3 k4 k5 k6 k7 k8 k9
          have k8 := R0.cell 8 _ rfl
          have k9 := R0.cell 9 _ rfl
          have fr := R0.free 8
          have R0' : PRow 25 w (w2.setCell ⟨w.heap.size, 8, none⟩ (.slice a2 n2 c2)) w.heap.size (cmC (bumpC q (-1 : Int)) a2 n2 c2 b' m' d') := R0.set 8 (.slice a2 n2 c2)
          have ra' := rd_setcell (i := 8) x2 R0.row (cm_noint _ _ _ _ _ _ _) (.slice a2 n2 c2)
          have rb' := rd_setcell (i := 8) rb R0.row (cm_noint _ _ _ _ _ _ _) (.slice a2 n2 c2)
          have R1' := R1.other (p := ⟨w.heap.size, 8, none⟩) (by simp) (Nat.le_refl _) (.slice a2 n2 c2)
          clear R0 R1 rb x2
          go_wp2_with fail
          have cc := refAtMost_any _ rb' ra'
          rw [leC_ok LF.out.1 LF.out.2] at cc
          by_cases hle : B ≤ nextC q L (-1 : Int)
          · rw [decide_eq_true hle] at cc
            refine cc.mono ?_
            clear cc
            rintro e1 w3 ⟨rfl, hb⟩
            have R0 := R0'.later hb
            have R1 := R1'.later hb
            have ra := ra'.below hb
            have HLE := Lib.hid hle
            clear R0' R1' ra' rb' hb fr k8 k9 hle
            have k8 := R0.cell 8 _ rfl
            have k9 := R0.cell 9 _ rfl
            have fr := R0.free 9
            have R0' : PRow 25 w (w3.setCell ⟨w.heap.size, 9, none⟩ (.slice a2 n2 c2)) w.heap.size (cmC (bumpC q (-1 : Int)) a2 n2 c2 a2 n2 c2) := R0.set 9 (.slice a2 n2 c2)
            have ra' := rd_setcell (i := 9) ra R0.row (cm_noint _ _ _ _ _ _ _) (.slice a2 n2 c2)
            have R1' := R1.other (p := ⟨w.heap.size, 9, none⟩) (by simp) (Nat.le_refl _) (.slice a2 n2 c2)
            have FIN : Hid (ObC w (w3.setCell ⟨w.heap.size, 9, none⟩ (.slice a2 n2 c2)) w.heap.size (w.heap.size + 1) p vs (k + 1)) := Lib.hid ⟨stepC q (-1 : Int), nextC q L (-1 : Int), max B (nextC q L (-1 : Int)), a2, n2, c2, a2, n2, c2, R0', R1', ra', by rw [Nat.max_eq_right HLE.out]; exact ra', HO2.out, HV.out⟩
            clear R0 R1 ra R0' R1' ra'
            go_wp2_with fail
            go_roundw
            case rel => exact ⟨k + 1, by omega, by go_num, FIN.out⟩
            case measure => simp [intOf]; omega
          · rw [decide_eq_false hle] at cc
            refine cc.mono ?_
            clear cc
            rintro e1 w3 ⟨rfl, hb⟩
            have R0 := R0'.later hb
            have R1 := R1'.later hb
            have ra := ra'.below hb
            have rb := rb'.below hb
            have FIN : Hid (ObC w w3 w.heap.size (w.heap.size + 1) p vs (k + 1)) := Lib.hid ⟨stepC q (-1 : Int), nextC q L (-1 : Int), max B (nextC q L (-1 : Int)), a2, n2, c2, b', m', d', R0, R1, ra, by rw [Nat.max_eq_left (by omega)]; exact rb, HO2.out, HV.out⟩
            clear R0 R1 ra rb R0' R1' ra' rb' hb fr k8 k9 hle
            go_wp2_with fail
            go_roundw
            case rel => exact ⟨k + 1, by omega, by go_num, FIN.out⟩
            case measure => simp [intOf]; omega
      · have HF := Lib.hid (show seenAtC q (0 : Int) = q.s2 from rfl)
        by_cases full : 1000000 ≤ q.s2
        · have e := Lib.hid (show r = (zeroCV, 2) by
            rw [HR.out]
            exact obsCC_none C.out (obsNC_fail (k := k + 1) (by rw [obsNC_snoc HO.out (by rw [HL.out]; exact hlt), ← HX.out]; exact obs1C_out (.inr (.inr full)))))
          have d2 : decide (1000000 ≤ q.s2) = true := decide_eq_true full
          clear ra rb
          go_wp2_with (refine wpList_store_whole rfl 25 _ _ rfl atCmp _ _ _ row1 rfl rfl rfl rfl (cm_one zeroCV _ _ _ _ _ _) ?_)
          refine bodyPost_ret (results_cell_two rfl _ _ _ _ _ _ _ rfl (setRow_heap _ _ _ _ _ _ row1) Try.underlying25 rfl (by kernel_rfl) _ rfl) rfl ?_
          refine ⟨none, 0, 0, none, 0, 0, by rw [e.out]; rfl, ?_, ?_, HB.out _⟩
          · rw [e.out]; exact Rd.nil _ _
          · rw [e.out]; exact Rd.nil _ _
        · have d2 : decide (1000000 ≤ q.s2) = false := decide_eq_false full
          have HV := Lib.hid (stepC_vld vld.out (x := (0 : Int)) (by decide) (by decide) (by rw [HF.out]; omega))
          have HO2 := Lib.hid (show obsNC p (vs.take (k + 1)) = some (stepC q (0 : Int)) by
            rw [obsNC_snoc HO.out (by rw [HL.out]; exact hlt), ← HX.out]
            exact obs1C_in (by rw [HF.out]; omega))
          have sv0 : 0 ≤ q.s2 := vld.out.s2.1
          have sv1 : q.s2 < 1000000 := by omega
          have R0' : PRow 25 w (wr.setCell ⟨w.heap.size, 5, none⟩ (.int .i64 (q.s2 + 1))) w.heap.size (cmC (bumpC q (0 : Int)) a' n' c' b' m' d') := R0.set 5 (.int .i64 (q.s2 + 1))
          have ra' := rd_setcell (i := 5) ra R0.row (cm_noint _ _ _ _ _ _ _) (.int .i64 (q.s2 + 1))
          have rb' := rd_setcell (i := 5) rb R0.row (cm_noint _ _ _ _ _ _ _) (.int .i64 (q.s2 + 1))
          have R1' := R1.other (p := ⟨w.heap.size, 5, none⟩) (by simp) (Nat.le_refl _) (.int .i64 (q.s2 + 1))
          have fr := R0.free 5
          have LM := Lib.hid (show L ≤ mostN from Nat.le_trans vld.out.le vld.out.hi)
          have LF := Lib.hid (show B < pw 96 ∧ nextC q L (0 : Int) < pw 96 from ⟨vld.out.pw.2, Nat.lt_of_le_of_lt (Nat.min_le_right _ _) most_pw⟩)
          clear ra rb R0 R1 HB row1 full
          go_upto_region 11 with fail
          clear k0 k1 k2 k3 k4 k5 k6 k7 k8 k9 fr sv0 sv1 d2 hcell
          generalize wr.setCell ⟨w.heap.size, 5, none⟩ (.int .i64 (q.s2 + 1)) = wS at *
          have k0 := R0'.cell 0 _ rfl
          have k1 := R0'.cell 1 _ rfl
          have k2 := R0'.cell 2 _ rfl
          have k3 := R0'.cell 3 _ rfl
          have k4 := R0'.cell 4 _ rfl
          have k5 := R0'.cell 5 _ rfl
          have k6 := R0'.cell 6 _ rfl
          have k7 := R0'.cell 7 _ rfl
          have k8 := R0'.cell 8 _ rfl
          have k9 := R0'.cell 9 _ rfl
          go_wp2_with fail
          have cc := refNext_any (q := bumpC q (0 : Int)) (a := a') (n := n') (c := c') (b := b') (m := m') (d := d') wS vld.out.may (x := (0 : Int)) (by decide) (by decide) ra' LM.out
          refine cc.mono ?_
          clear cc
          rintro e1 w2 ⟨a2, n2, c2, rfl, x2, hb⟩
          have x2 : Rd .u32 w2 a2 n2 c2 (limbs (nextC q L (0 : Int))) := x2
          have R0 := R0'.later hb
          have R1 := R1'.later hb
          have rb := rb'.below hb
          clear R0' R1' ra' rb' hb k0 k1 k2 k3 k4 k5 k6 k7 k8 k9
          have k8 := R0.cell 8 _ rfl
          have k9 := R0.cell 9 _ rfl
          have fr := R0.free 8
          have R0' : PRow 25 w (w2.setCell ⟨w.heap.size, 8, none⟩ (.slice a2 n2 c2)) w.heap.size (cmC (bumpC q (0 : Int)) a2 n2 c2 b' m' d') := R0.set 8 (.slice a2 n2 c2)
          have ra' := rd_setcell (i := 8) x2 R0.row (cm_noint _ _ _ _ _ _ _) (.slice a2 n2 c2)
          have rb' := rd_setcell (i := 8) rb R0.row (cm_noint _ _ _ _ _ _ _) (.slice a2 n2 c2)
          have R1' := R1.other (p := ⟨w.heap.size, 8, none⟩) (by simp) (Nat.le_refl _) (.slice a2 n2 c2)
          clear R0 R1 rb x2
          go_wp2_with fail
          have cc := refAtMost_any _ rb' ra'
          rw [leC_ok LF.out.1 LF.out.2] at cc
          by_cases hle : B ≤ nextC q L (0 : Int)
          · rw [decide_eq_true hle] at cc
            refine cc.mono ?_
            clear cc
            rintro e1 w3 ⟨rfl, hb⟩
            have R0 := R0'.later hb
            have R1 := R1'.later hb
            have ra := ra'.below hb
            have HLE := Lib.hid hle
            clear R0' R1' ra' rb' hb fr k8 k9 hle
            have k8 := R0.cell 8 _ rfl
            have k9 := R0.cell 9 _ rfl
            have fr := R0.free 9
            have R0' : PRow 25 w (w3.setCell ⟨w.heap.size, 9, none⟩ (.slice a2 n2 c2)) w.heap.size (cmC (bumpC q (0 : Int)) a2 n2 c2 a2 n2 c2) := R0.set 9 (.slice a2 n2 c2)
            have ra' := rd_setcell (i := 9) ra R0.row (cm_noint _ _ _ _ _ _ _) (.slice a2 n2 c2)
            have R1' := R1.other (p := ⟨w.heap.size, 9, none⟩) (by simp) (Nat.le_refl _) (.slice a2 n2 c2)
            have FIN : Hid (ObC w (w3.setCell ⟨w.heap.size, 9, none⟩ (.slice a2 n2 c2)) w.heap.size (w.heap.size + 1) p vs (k + 1)) := Lib.hid ⟨stepC q (0 : Int), nextC q L (0 : Int), max B (nextC q L (0 : Int)), a2, n2, c2, a2, n2, c2, R0', R1', ra', by rw [Nat.max_eq_right HLE.out]; exact ra', HO2.out, HV.out⟩
            clear R0 R1 ra R0' R1' ra'
            go_wp2_with fail
            go_roundw
            case rel => exact ⟨k + 1, by omega, by go_num, FIN.out⟩
            case measure => simp [intOf]; omega
          · rw [decide_eq_false hle] at cc
            refine cc.mono ?_
            clear cc
            rintro e1 w3 ⟨rfl, hb⟩
            have R0 := R0'.later hb
            have R1 := R1'.later hb
            have ra := ra'.below hb
            have rb := rb'.below hb
            have FIN : Hid (ObC w w3 w.heap.size (w.heap.size + 1) p vs (k + 1)) := Lib.hid ⟨stepC q (0 : Int), nextC q L (0 : Int), max B (nextC q L (0 : Int)), a2, n2, c2, b', m', d', R0, R1, ra, by rw [Nat.max_eq_left (by omega)]; exact rb, HO2.out, HV.out⟩
            clear R0 R1 ra rb R0' R1' ra' rb' hb fr k8 k9 hle
            go_wp2_with fail
            go_roundw
            case rel => exact ⟨k + 1, by omega, by go_num, FIN.out⟩
            case measure => simp [intOf]; omega
      · have HF := Lib.hid (show seenAtC q (1 : Int) = q.s3 from rfl)
        by_cases full : 1000000 ≤ q.s3
        · have e := Lib.hid (show r = (zeroCV, 2) by
            rw [HR.out]
            exact obsCC_none C.out (obsNC_fail (k := k + 1) (by rw [obsNC_snoc HO.out (by rw [HL.out]; exact hlt), ← HX.out]; exact obs1C_out (.inr (.inr full)))))
          have d2 : decide (1000000 ≤ q.s3) = true := decide_eq_true full
          clear ra rb
          go_wp2_with (refine wpList_store_whole rfl 25 _ _ rfl atCmp _ _ _ row1 rfl rfl rfl rfl (cm_one zeroCV _ _ _ _ _ _) ?_)
          refine bodyPost_ret (results_cell_two rfl _ _ _ _ _ _ _ rfl (setRow_heap _ _ _ _ _ _ row1) Try.underlying25 rfl (by kernel_rfl) _ rfl) rfl ?_
          refine ⟨none, 0, 0, none, 0, 0, by rw [e.out]; rfl, ?_, ?_, HB.out _⟩
          · rw [e.out]; exact Rd.nil _ _
          · rw [e.out]; exact Rd.nil _ _
        · have d2 : decide (1000000 ≤ q.s3) = false := decide_eq_false full
          have HV := Lib.hid (stepC_vld vld.out (x := (1 : Int)) (by decide) (by decide) (by rw [HF.out]; omega))
          have HO2 := Lib.hid (show obsNC p (vs.take (k + 1)) = some (stepC q (1 : Int)) by
            rw [obsNC_snoc HO.out (by rw [HL.out]; exact hlt), ← HX.out]
            exact obs1C_in (by rw [HF.out]; omega))
          have sv0 : 0 ≤ q.s3 := vld.out.s3.1
          have sv1 : q.s3 < 1000000 := by omega
          have R0' : PRow 25 w (wr.setCell ⟨w.heap.size, 6, none⟩ (.int .i64 (q.s3 + 1))) w.heap.size (cmC (bumpC q (1 : Int)) a' n' c' b' m' d') := R0.set 6 (.int .i64 (q.s3 + 1))
          have ra' := rd_setcell (i := 6) ra R0.row (cm_noint _ _ _ _ _ _ _) (.int .i64 (q.s3 + 1))
          have rb' := rd_setcell (i := 6) rb R0.row (cm_noint _ _ _ _ _ _ _) (.int .i64 (q.s3 + 1))
          have R1' := R1.other (p := ⟨w.heap.size, 6, none⟩) (by simp) (Nat.le_refl _) (.int .i64 (q.s3 + 1))
          have fr := R0.free 6
          have LM := Lib.hid (show L ≤ mostN from Nat.le_trans vld.out.le vld.out.hi)
          have LF := Lib.hid (show B < pw 96 ∧ nextC q L (1 : Int) < pw 96 from ⟨vld.out.pw.2, Nat.lt_of_le_of_lt (Nat.min_le_right _ _) most_pw⟩)
          clear ra rb R0 R1 HB row1 full
          go_upto_region 11 with fail
          clear k0 k1 k2 k3 k4 k5 k6 k7 k8 k9 fr sv0 sv1 d2 hcell
          generalize wr.setCell ⟨w.heap.size, 6, none⟩ (.int .i64 (q.s3 + 1)) = wS at *
          have k0 := R0'.cell 0 _ rfl
          have k1 := R0'.cell 1 _ rfl
          have k2 := R0'.cell 2 _ rfl
          have k3 := R0'.cell 3 _ rfl
          have k4 := R0'.cell 4 _ rfl
          have k5 := R0'.cell 5 _ rfl
          have k6 := R0'.cell 6 _ rfl
          have k7 := R0'.cell 7 _ rfl
          have k8 := R0'.cell 8 _ rfl
          have k9 := R0'.cell 9 _ rfl
          go_wp2_with fail
          have cc := refNext_any (q := bumpC q (1 : Int)) (a := a') (n := n') (c := c') (b := b') (m := m') (d := d') wS vld.out.may (x := (1 : Int)) (by decide) (by decide) ra' LM.out
          refine cc.mono ?_
          clear cc
          rintro e1 w2 ⟨a2, n2, c2, rfl, x2, hb⟩
          have x2 : Rd .u32 w2 a2 n2 c2 (limbs (nextC q L (1 : Int))) := x2
          have R0 := R0'.later hb
          have R1 := R1'.later hb
          have rb := rb'.below hb
          clear R0' R1' ra' rb' hb k0 k1 k2 k3 k4 k5 k6 k7 k8 k9
          have k8 := R0.cell 8 _ rfl
          have k9 := R0.cell 9 _ rfl
          have fr := R0.free 8
          have R0' : PRow 25 w (w2.setCell ⟨w.heap.size, 8, none⟩ (.slice a2 n2 c2)) w.heap.size (cmC (bumpC q (1 : Int)) a2 n2 c2 b' m' d') := R0.set 8 (.slice a2 n2 c2)
          have ra' := rd_setcell (i := 8) x2 R0.row (cm_noint _ _ _ _ _ _ _) (.slice a2 n2 c2)
          have rb' := rd_setcell (i := 8) rb R0.row (cm_noint _ _ _ _ _ _ _) (.slice a2 n2 c2)
          have R1' := R1.other (p := ⟨w.heap.size, 8, none⟩) (by simp) (Nat.le_refl _) (.slice a2 n2 c2)
          clear R0 R1 rb x2
          go_wp2_with fail
          have cc := refAtMost_any _ rb' ra'
          rw [leC_ok LF.out.1 LF.out.2] at cc
          by_cases hle : B ≤ nextC q L (1 : Int)
          · rw [decide_eq_true hle] at cc
            refine cc.mono ?_
            clear cc
            rintro e1 w3 ⟨rfl, hb⟩
            have R0 := R0'.later hb
            have R1 := R1'.later hb
            have ra := ra'.below hb
            have HLE := Lib.hid hle
            clear R0' R1' ra' rb' hb fr k8 k9 hle
            have k8 := R0.cell 8 _ rfl
            have k9 := R0.cell 9 _ rfl
            have fr := R0.free 9
            have R0' : PRow 25 w (w3.setCell ⟨w.heap.size, 9, none⟩ (.slice a2 n2 c2)) w.heap.size (cmC (bumpC q (1 : Int)) a2 n2 c2 a2 n2 c2) := R0.set 9 (.slice a2 n2 c2)
            have ra' := rd_setcell (i := 9) ra R0.row (cm_noint _ _ _ _ _ _ _) (.slice a2 n2 c2)
            have R1' := R1.other (p := ⟨w.heap.size, 9, none⟩) (by simp) (Nat.le_refl _) (.slice a2 n2 c2)
            have FIN : Hid (ObC w (w3.setCell ⟨w.heap.size, 9, none⟩ (.slice a2 n2 c2)) w.heap.size (w.heap.size + 1) p vs (k + 1)) := Lib.hid ⟨stepC q (1 : Int), nextC q L (1 : Int), max B (nextC q L (1 : Int)), a2, n2, c2, a2, n2, c2, R0', R1', ra', by rw [Nat.max_eq_right HLE.out]; exact ra', HO2.out, HV.out⟩
            clear R0 R1 ra R0' R1' ra'
            go_wp2_with fail
            go_roundw
            case rel => exact ⟨k + 1, by omega, by go_num, FIN.out⟩
            case measure => simp [intOf]; omega
          · rw [decide_eq_false hle] at cc
            refine cc.mono ?_
            clear cc
            rintro e1 w3 ⟨rfl, hb⟩
            have R0 := R0'.later hb
            have R1 := R1'.later hb
            have ra := ra'.below hb
            have rb := rb'.below hb
            have FIN : Hid (ObC w w3 w.heap.size (w.heap.size + 1) p vs (k + 1)) := Lib.hid ⟨stepC q (1 : Int), nextC q L (1 : Int), max B (nextC q L (1 : Int)), a2, n2, c2, b', m', d', R0, R1, ra, by rw [Nat.max_eq_left (by omega)]; exact rb, HO2.out, HV.out⟩
            clear R0 R1 ra rb R0' R1' ra' rb' hb fr k8 k9 hle
            go_wp2_with fail
            go_roundw
            case rel => exact ⟨k + 1, by omega, by go_num, FIN.out⟩
            case measure => simp [intOf]; omega
      · have HF := Lib.hid (show seenAtC q (2 : Int) = q.s4 from rfl)
        by_cases full : 1000000 ≤ q.s4
        · have e := Lib.hid (show r = (zeroCV, 2) by
            rw [HR.out]
            exact obsCC_none C.out (obsNC_fail (k := k + 1) (by rw [obsNC_snoc HO.out (by rw [HL.out]; exact hlt), ← HX.out]; exact obs1C_out (.inr (.inr full)))))
          have d2 : decide (1000000 ≤ q.s4) = true := decide_eq_true full
          clear ra rb
          go_wp2_with (refine wpList_store_whole rfl 25 _ _ rfl atCmp _ _ _ row1 rfl rfl rfl rfl (cm_one zeroCV _ _ _ _ _ _) ?_)
          refine bodyPost_ret (results_cell_two rfl _ _ _ _ _ _ _ rfl (setRow_heap _ _ _ _ _ _ row1) Try.underlying25 rfl (by kernel_rfl) _ rfl) rfl ?_
          refine ⟨none, 0, 0, none, 0, 0, by rw [e.out]; rfl, ?_, ?_, HB.out _⟩
          · rw [e.out]; exact Rd.nil _ _
          · rw [e.out]; exact Rd.nil _ _
        · have d2 : decide (1000000 ≤ q.s4) = false := decide_eq_false full
          have HV := Lib.hid (stepC_vld vld.out (x := (2 : Int)) (by decide) (by decide) (by rw [HF.out]; omega))
          have HO2 := Lib.hid (show obsNC p (vs.take (k + 1)) = some (stepC q (2 : Int)) by
            rw [obsNC_snoc HO.out (by rw [HL.out]; exact hlt), ← HX.out]
            exact obs1C_in (by rw [HF.out]; omega))
          have sv0 : 0 ≤ q.s4 := vld.out.s4.1
          have sv1 : q.s4 < 1000000 := by omega
          have R0' : PRow 25 w (wr.setCell ⟨w.heap.size, 7, none⟩ (.int .i64 (q.s4 + 1))) w.heap.size (cmC (bumpC q (2 : Int)) a' n' c' b' m' d') := R0.set 7 (.int .i64 (q.s4 + 1))
          have ra' := rd_setcell (i := 7) ra R0.row (cm_noint _ _ _ _ _ _ _) (.int .i64 (q.s4 + 1))
          have rb' := rd_setcell (i := 7) rb R0.row (cm_noint _ _ _ _ _ _ _) (.int .i64 (q.s4 + 1))
          have R1' := R1.other (p := ⟨w.heap.size, 7, none⟩) (by simp) (Nat.le_refl _) (.int .i64 (q.s4 + 1))
          have fr := R0.free 7
          have LM := Lib.hid (show L ≤ mostN from Nat.le_trans vld.out.le vld.out.hi)
          have LF := Lib.hid (show B < pw 96 ∧ nextC q L (2 : Int) < pw 96 from ⟨vld.out.pw.2, Nat.lt_of_le_of_lt (Nat.min_le_right _ _) most_pw⟩)
          clear ra rb R0 R1 HB row1 full
          go_upto_region 11 with fail
          clear k0 k1 k2 k3 k4 k5 k6 k7 k8 k9 fr sv0 sv1 d2 hcell
          generalize wr.setCell ⟨w.heap.size, 7, none⟩ (.int .i64 (q.s4 + 1)) = wS at *
          have k0 := R0'.cell 0 _ rfl
          have k1 := R0'.cell 1 _ rfl
          have k2 := R0'.cell 2 _ rfl
          have k3 := R0'.cell 3 _ rfl
          have k4 := R0'.cell 4 _ rfl
          have k5 := R0'.cell 5 _ rfl
          have k6 := R0'.cell 6 _ rfl
          have k7 := R0'.cell 7 _ rfl
          have k8 := R0'.cell 8 _ rfl
          have k9 := R0'.cell 9 _ rfl
          go_wp2_with fail
          have cc := refNext_any (q := bumpC q (2 : Int)) (a := a') (n := n') (c := c') (b := b') (m := m') (d := d') wS vld.out.may (x := (2 : Int)) (by decide) (by decide) ra' LM.out
          refine cc.mono ?_
          clear cc
          rintro e1 w2 ⟨a2, n2, c2, rfl, x2, hb⟩
          have x2 : Rd .u32 w2 a2 n2 c2 (limbs (nextC q L (2 : Int))) := x2
          have R0 := R0'.later hb
          have R1 := R1'.later hb
          have rb := rb'.below hb
          clear R0' R1' ra' rb' hb k0 k1 k2 k3 k4 k5 k6 k7 k8 k9
          have k8 := R0.cell 8 _ rfl
          have k9 := R0.cell 9 _ rfl
          have fr := R0.free 8
          have R0' : PRow 25 w (w2.setCell ⟨w.heap.size, 8, none⟩ (.slice a2 n2 c2)) w.heap.size (cmC (bumpC q (2 : Int)) a2 n2 c2 b' m' d') := R0.set 8 (.slice a2 n2 c2)
          have ra' := rd_setcell (i := 8) x2 R0.row (cm_noint _ _ _ _ _ _ _) (.slice a2 n2 c2)
          have rb' := rd_setcell (i := 8) rb R0.row (cm_noint _ _ _ _ _ _ _) (.slice a2 n2 c2)
          have R1' := R1.other (p := ⟨w.heap.size, 8, none⟩) (by simp) (Nat.le_refl _) (.slice a2 n2 c2)
          clear R0 R1 rb x2
          go_wp2_with fail
          have cc := refAtMost_any _ rb' ra'
          rw [leC_ok LF.out.1 LF.out.2] at cc
          by_cases hle : B ≤ nextC q L (2 : Int)
          · rw [decide_eq_true hle] at cc
            refine cc.mono ?_
            clear cc
            rintro e1 w3 ⟨rfl, hb⟩
            have R0 := R0'.later hb
            have R1 := R1'.later hb
            have ra := ra'.below hb
            have HLE := Lib.hid hle
            clear R0' R1' ra' rb' hb fr k8 k9 hle
            have k8 := R0.cell 8 _ rfl
            have k9 := R0.cell 9 _ rfl
            have fr := R0.free 9
            have R0' : PRow 25 w (w3.setCell ⟨w.heap.size, 9, none⟩ (.slice a2 n2 c2)) w.heap.size (cmC (bumpC q (2 : Int)) a2 n2 c2 a2 n2 c2) := R0.set 9 (.slice a2 n2 c2)
            have ra' := rd_setcell (i := 9) ra R0.row (cm_noint _ _ _ _ _ _ _) (.slice a2 n2 c2)
            have R1' := R1.other (p := ⟨w.heap.size, 9, none⟩) (by simp) (Nat.le_refl _) (.slice a2 n2 c2)
            have FIN : Hid (ObC w (w3.setCell ⟨w.heap.size, 9, none⟩ (.slice a2 n2 c2)) w.heap.size (w.heap.size + 1) p vs (k + 1)) := Lib.hid ⟨stepC q (2 : Int), nextC q L (2 : Int), max B (nextC q L (2 : Int)), a2, n2, c2, a2, n2, c2, R0', R1', ra', by rw [Nat.max_eq_right HLE.out]; exact ra', HO2.out, HV.out⟩
            clear R0 R1 ra R0' R1' ra'
            go_wp2_with fail
            go_roundw
            case rel => exact ⟨k + 1, by omega, by go_num, FIN.out⟩
            case measure => simp [intOf]; omega
          · rw [decide_eq_false hle] at cc
            refine cc.mono ?_
            clear cc
            rintro e1 w3 ⟨rfl, hb⟩
            have R0 := R0'.later hb
            have R1 := R1'.later hb
            have ra := ra'.below hb
            have rb := rb'.below hb
            have FIN : Hid (ObC w w3 w.heap.size (w.heap.size + 1) p vs (k + 1)) := Lib.hid ⟨stepC q (2 : Int), nextC q L (2 : Int), max B (nextC q L (2 : Int)), a2, n2, c2, b', m', d', R0, R1, ra, by rw [Nat.max_eq_left (by omega)]; exact rb, HO2.out, HV.out⟩
            clear R0 R1 ra rb R0' R1' ra' rb' hb fr k8 k9 hle
            go_wp2_with fail
            go_roundw
            case rel => exact ⟨k + 1, by omega, by go_num, FIN.out⟩
            case measure => simp [intOf]; omega
    · obtain rfl : k = nv := by omega
      have e := Lib.hid (show r = (q, 0) by
        rw [HR.out]
        exact obsCC_some C.out (by rw [← HO.out, List.take_of_length_le (by rw [HL.out]; exact Nat.le_refl _)]))
      have fin := Lib.hid (fun cs => (⟨rd_rowset ra R1.row (cm_noint zeroCV _ _ _ _ _ _) cs, rd_rowset rb R1.row (cm_noint zeroCV _ _ _ _ _ _) cs⟩ : _ ∧ _))
      clear ra rb
      go_wp2_with (refine wpList_store_whole rfl 25 _ _ rfl atCmp _ _ _ row1 rfl rfl rfl rfl (cm_one q _ _ _ _ _ _) ?_)
      refine bodyPost_ret (results_cell_two rfl _ _ _ _ _ _ _ rfl (setRow_heap _ _ _ _ _ _ row1) Try.underlying25 rfl (by kernel_rfl) _ rfl) rfl ?_
      refine ⟨a', n', c', b', m', d', by rw [e.out]; rfl, ?_, ?_, HB.out _⟩
      · rw [e.out, vld.out.lev]; exact (fin.out _).1
      · rw [e.out, vld.out.best]; exact (fin.out _).2

end Go.Proofs.Ytmkcdlhhbnakiaa
