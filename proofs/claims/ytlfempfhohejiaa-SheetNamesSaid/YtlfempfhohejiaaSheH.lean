/- The answer's Fill. No condition. Printed by gen_sheh.py. -/
import Derived.Test.YtlfempfhohejiaaSheG
namespace Go.Proofs.Ytlfempfhohejiaa
open Go.RowKit Go.Suf
set_option linter.unusedVariables false
set_option linter.unusedSimpArgs false

theorem cell_lt {w : World} {p : Addr} {v : Value} (h : w.cell? p = some v) : p.block < w.heap.size := by
  rcases Nat.lt_or_ge p.block w.heap.size with h1 | h1
  · exact h1
  · have : w.heap[p.block]? = none := Array.getElem?_eq_none h1
    simp only [World.cell?, this] at h
    cases h

set_option maxRecDepth 100000 in
set_option maxHeartbeats 4000000 in
theorem refFill_any (w : World) (nm : ByteArray) {a_s : Option Addr} {n_s c_s : Nat} {ss : List ByteArray} (h_s : RdS w a_s n_s c_s ss) (seats : Int) (hs1 : -9223372036854775808 ≤ seats) (hs2 : seats ≤ 9223372036854775807) (rule : Nat) (hr : rule < 256) (kd : Nat) (hk : kd < 256) {a_m : Option Addr} {n_m c_m : Nat} {ms : List Int} (h_m : RdI w a_m n_m c_m ms) : Calls Try.prog 18 #[.agg #[.string nm, .slice a_s n_s c_s, .int .i64 seats, .int .u8 ((rule : Nat) : Int)], .agg #[.int .u8 ((kd : Nat) : Int), .slice a_m n_m c_m]] w (RetSh w (fillC nm ss seats rule kd ms)) := by
  have HN := Lib.hid h_s.len
  have hns := h_s.lt
  have HM := Lib.hid h_m.len
  have hnm := h_m.lt
  obtain ⟨r, hr0⟩ : ∃ r, fillC nm ss seats rule kd ms = r := ⟨_, rfl⟩
  rw [hr0]
  have HR := Lib.hid hr0
  clear hr0
  obtain ⟨ck, hck⟩ : ∃ ck, checkC nm ss seats rule = ck := ⟨_, rfl⟩
  have HCK := Lib.hid hck
  clear hck
  obtain ⟨bx, hbx⟩ : ∃ bx, boxesC nm ss seats rule = bx := ⟨_, rfl⟩
  have HBX := Lib.hid hbx
  clear hbx
  have B0 : Below w.heap.size w w := Below.refl _ _
  have h_s_0 := h_s
  have h_m_0 := h_m
  go_enter Try.func18, Try.ntmps18
  have hb := below_al w (.cells #[.string nm, .slice a_s n_s c_s, .int .i64 seats, .int .u8 ((rule : Nat) : Int)] 24)
  have B1 := B0.trans (hb.mono B0.size)
  have h_s_1 := h_s_0.below hb
  have h_m_1 := h_m_0.below hb
  clear hb B0 h_s_0 h_m_0
  have h_c_1 := PRow.new 24 w #[.string nm, .slice a_s n_s c_s, .int .i64 seats, .int .u8 ((rule : Nat) : Int)]
  have hb := below_al (w.alloc (.cells #[.string nm, .slice a_s n_s c_s, .int .i64 seats, .int .u8 ((rule : Nat) : Int)] 24)) (.cells #[.int .u8 ((kd : Nat) : Int), .slice a_m n_m c_m] 39)
  have B2 := B1.trans (hb.mono B1.size)
  have h_s_2 := h_s_1.below hb
  have h_m_2 := h_m_1.below hb
  have h_c_2 := h_c_1.later hb
  clear hb B1 h_s_1 h_m_1 h_c_1
  have h_b_2 := PRow.new 39 (w.alloc (.cells #[.string nm, .slice a_s n_s c_s, .int .i64 seats, .int .u8 ((rule : Nat) : Int)] 24)) #[.int .u8 ((kd : Nat) : Int), .slice a_m n_m c_m]
  simp only [World.size_alloc] at h_b_2
  have HO0 := Lib.hid B2
  have hb := below_al ((w.alloc (.cells #[.string nm, .slice a_s n_s c_s, .int .i64 seats, .int .u8 ((rule : Nat) : Int)] 24)).alloc (.cells #[.int .u8 ((kd : Nat) : Int), .slice a_m n_m c_m] 39)) (.cells #[.slice none 0 0] 27)
  have B3 := B2.trans (hb.mono B2.size)
  have h_s_3 := h_s_2.below hb
  have h_m_3 := h_m_2.below hb
  have h_c_3 := h_c_2.later hb
  have h_b_3 := h_b_2.later hb
  clear hb B2 h_s_2 h_m_2 h_c_2 h_b_2
  have h_o_3 := PRow.new 27 ((w.alloc (.cells #[.string nm, .slice a_s n_s c_s, .int .i64 seats, .int .u8 ((rule : Nat) : Int)] 24)).alloc (.cells #[.int .u8 ((kd : Nat) : Int), .slice a_m n_m c_m] 39)) #[.slice none 0 0]
  simp only [World.size_alloc] at h_o_3
  have k_c_0 := h_c_3.cell 0 _ rfl
  have k_c_1 := h_c_3.cell 1 _ rfl
  have k_c_2 := h_c_3.cell 2 _ rfl
  have k_c_3 := h_c_3.cell 3 _ rfl
  go_wp2_with fail
  clear k_c_0 k_c_1 k_c_2 k_c_3
  generalize (((w.alloc (.cells #[.string nm, .slice a_s n_s c_s, .int .i64 seats, .int .u8 ((rule : Nat) : Int)] 24)).alloc (.cells #[.int .u8 ((kd : Nat) : Int), .slice a_m n_m c_m] 39)).alloc (.cells #[.slice none 0 0] 27)) = w3 at *
  have c := refBoxes_any w3 nm h_s_3 seats hs1 hs2 rule hr
  rw [HBX.out] at c
  refine c.mono ?_
  rintro e w4 ⟨rfl, hb⟩
  clear c
  have B4 := B3.trans (hb.mono B3.size)
  have h_s_4 := h_s_3.below hb
  have h_m_4 := h_m_3.below hb
  have h_c_4 := h_c_3.later hb
  have h_b_4 := h_b_3.later hb
  have h_o_4 := h_o_3.later hb
  clear hb B3 h_s_3 h_m_3 h_c_3 h_b_3 h_o_3
  by_cases hck : ck = 0
  case neg =>
    have e1 : (ck == (0 : Int)) = false := by simpa using hck
    have e2 : (ck != (0 : Int)) = true := by simpa using hck
    obtain rfl : bx = (0, ck) := by rw [← HBX.out]; unfold boxesC; rw [HCK.out, if_neg hck]
    have HRR := Lib.hid (show r = ([], ck) by rw [← HR.out]; unfold fillC; rw [HCK.out, if_neg hck])
    have R := h_o_4
    have k_o_0 := h_o_4.cell 0 _ rfl
    go_wp2_with first | refine wpList_store_whole rfl 27 _ _ rfl atShe _ _ _ R.row rfl rfl rfl rfl (she_one none 0 0) ?_
    clear k_o_0
    refine bodyPost_ret (results_cell_two rfl _ _ _ _ _ _ _ rfl (setRow_heap _ _ _ _ _ _ R.row) Try.underlying27 rfl (by kernel_rfl) _ rfl) rfl ?_
    exact RetSh.nils HRR.out (HO0.out.trans ((R.put _).below.mono HO0.out.size))
  subst hck
  obtain ⟨g1, g2, g3⟩ := chk_rule HCK.out
  have HQ3 := Lib.hid g3
  obtain ⟨nb, hnb⟩ : ∃ nb, boxesN ss rule = nb := ⟨_, rfl⟩
  obtain rfl : bx = (nb, 0) := by rw [← HBX.out, ← hnb]; unfold boxesC; rw [HCK.out]; rfl
  have hnb2 : nb ≤ 110 := by rw [← hnb]; exact boxes_le g1
  have HNB := Lib.hid hnb
  have HRC := Lib.hid (show r = if fitsB ss rule kd ms = true then (fillI kd n_s nb ms n_m, 0) else ([], 8) by rw [← HR.out, ← hnb, ← HN.out, ← HM.out]; unfold fillC; rw [HCK.out, if_pos rfl])
  have HLT := Lib.hid (fun (hf : fitsB ss rule kd ms = true) (k : Nat) (hk : k < n_m) => pos_lt (rule := rule) (kd := kd) (ms := ms) g2 g1 hf (k := k) (by rw [HM.out]; exact hk))
  rw [HN.out] at g1 g2 HLT
  rw [hnb] at HLT
  clear hnb g3
  obtain ⟨fb, hfb⟩ : ∃ fb, fitsB ss rule kd ms = fb := ⟨_, rfl⟩
  have HFB := Lib.hid hfb
  clear hfb
  have k_c_0 := h_c_4.cell 0 _ rfl
  have k_c_1 := h_c_4.cell 1 _ rfl
  have k_c_2 := h_c_4.cell 2 _ rfl
  have k_c_3 := h_c_4.cell 3 _ rfl
  have k_b_0 := h_b_4.cell 0 _ rfl
  have k_b_1 := h_b_4.cell 1 _ rfl
  go_wp2_with fail
  clear k_c_0 k_c_1 k_c_2 k_c_3 k_b_0 k_b_1
  have c := Fits_any w4 nm h_s_4 seats hs1 hs2 rule hr kd hk h_m_4 HQ3.out g2 g1
  rw [HFB.out] at c
  refine c.mono ?_
  rintro e w5 ⟨rfl, hb⟩
  clear c
  have B5 := B4.trans (hb.mono B4.size)
  have h_s_5 := h_s_4.below hb
  have h_m_5 := h_m_4.below hb
  have h_c_5 := h_c_4.later hb
  have h_b_5 := h_b_4.later hb
  have h_o_5 := h_o_4.later hb
  clear hb B4 h_s_4 h_m_4 h_c_4 h_b_4 h_o_4
  cases fb
  case false =>
    have HRR := Lib.hid (show r = ([], 8) by rw [HRC.out, HFB.out]; rfl)
    have R := h_o_5
    have k_o_0 := h_o_5.cell 0 _ rfl
    go_wp2_with first | refine wpList_store_whole rfl 27 _ _ rfl atShe _ _ _ R.row rfl rfl rfl rfl (she_one none 0 0) ?_
    clear k_o_0
    refine bodyPost_ret (results_cell_two rfl _ _ _ _ _ _ _ rfl (setRow_heap _ _ _ _ _ _ R.row) Try.underlying27 rfl (by kernel_rfl) _ rfl) rfl ?_
    exact RetSh.nils HRR.out (HO0.out.trans ((R.put _).below.mono HO0.out.size))
  case true =>
    have HRR := Lib.hid (show r = (fillI kd n_s nb ms n_m, 0) by rw [HRC.out, HFB.out]; rfl)
    have HKD := Lib.hid (show kd = 1 ∨ kd = 2 ∨ kd = 3 by have h := HFB.out; unfold fitsB at h; simp only [Bool.and_eq_true] at h; exact fine_kinds h.2.1)
    have mk : ∀ w, (Instr.makeSlice 25 (.int .i64 (nb : Int)) (.int .i64 (nb : Int))).run Try.prog w = .ok (.slice (some ⟨w.heap.size, 0, none⟩) nb nb) (w.alloc (.cells (zeros .u8 nb) 5)) := fun w => run_zeros etY nb (by omega) (by omega) w
    have HOW0 := Ow.full .u8 5 w5 nb (by unfold maxLen; omega)
    have HC0 := Lib.hid h_c_5
    have HB0 := Lib.hid h_b_5
    have HOO := Lib.hid h_o_5
    have HBZ := Lib.hid B5
    have hob := h_o_5.lt
    have hbb := h_b_5.lt
    have hbc := h_c_5.lt
    have hb := below_al w5 (.cells (zeros .u8 nb) 5)
    have B6 := B5.trans (hb.mono B5.size)
    have h_s_6 := h_s_5.below hb
    have h_m_6 := h_m_5.below hb
    have h_c_6 := h_c_5.later hb
    have h_b_6 := h_b_5.later hb
    have h_o_6 := h_o_5.later hb
    clear hb B5 h_s_5 h_m_5 h_c_5 h_b_5 h_o_5
    have h_w_6 := HOW0
    clear HOW0
    have h_l_6 := below_al w5 (.cells (zeros .u8 nb) 5)
    have hb := below_al (w5.alloc (.cells (zeros .u8 nb) 5)) (.cells #[.slice (some ⟨w5.heap.size, 0, none⟩) nb nb] 27)
    have B7 := B6.trans (hb.mono B6.size)
    have h_s_7 := h_s_6.below hb
    have h_m_7 := h_m_6.below hb
    have h_c_7 := h_c_6.later hb
    have h_b_7 := h_b_6.later hb
    have h_o_7 := h_o_6.later hb
    have h_w_7 := h_w_6.below hb
    have h_l_7 := h_l_6.trans (hb.mono h_l_6.size)
    clear hb B6 h_s_6 h_m_6 h_c_6 h_b_6 h_o_6 h_w_6 h_l_6
    have h_z_7 := PRow.new 27 (w5.alloc (.cells (zeros .u8 nb) 5)) #[.slice (some ⟨w5.heap.size, 0, none⟩) nb nb]
    simp only [World.size_alloc] at h_z_7
    have kb0 := h_b_7.cell 1 _ rfl
    go_wp2_with first | refine wpList_store_new rfl 27 _ _ rfl atShe _ _ _ rfl rfl rfl rfl (she_one _ _ _) ?_
    generalize ((w5.alloc (.cells (zeros .u8 nb) 5)).alloc (.cells #[.slice (some ⟨w5.heap.size, 0, none⟩) nb nb] 27)) = w7 at *
    clear mk kb0
    have h_zz := (h_z_7).base (w0 := w5) (below_al w5 _)
    go_loopw [9] (fun jv wr => ∃ i : Nat, i ≤ n_m ∧ jv = .int .i64 (i : Nat) ∧ Below w5.heap.size w5 wr ∧ PRow 27 w5 wr (w5.heap.size + 1) #[.slice (some ⟨w5.heap.size, 0, none⟩) nb nb] ∧ Ow .u8 5 w5.heap.size wr (some ⟨w5.heap.size, 0, none⟩) nb nb (fillI kd n_s nb ms i)) (fun jv _ => n_m - (intOf jv).toNat)
    case atStart => exact ⟨0, Nat.zero_le _, rfl, h_l_7, h_zz, h_w_7⟩
    clear h_zz h_w_7 h_z_7
    case round =>
      rename World => wr
      obtain ⟨i, hi, rfl, hbl, hz, how⟩ := hrel
      have HBW := Lib.hid (HBZ.out.trans (hbl.mono HBZ.out.size))
      by_cases hlt : i < n_m
      case neg =>
        obtain rfl : n_m = i := by omega
        have kb1 := (HB0.out.later hbl).cell 1 _ rfl
        have kz := hz.cell 0 _ rfl
        have RO2 := HOO.out.later hbl
        go_wp2_with first | refine wpList_store_whole rfl 27 _ _ rfl atShe _ _ _ RO2.row rfl rfl rfl rfl (she_one _ _ _) ?_
        refine bodyPost_ret (results_cell_two rfl _ _ _ _ _ _ _ rfl (setRow_heap _ _ _ _ _ _ RO2.row) Try.underlying27 rfl (by kernel_rfl) _ rfl) rfl ?_
        exact ⟨some ⟨w5.heap.size, 0, none⟩, nb, nb, by rw [HRR.out]; rfl, by rw [HRR.out]; exact (how.keepH (setRow_other _ _ _ _ (by omega))).base_le HBZ.out.size, HO0.out.trans ((RO2.put _).below.mono HO0.out.size)⟩
      case pos =>
        obtain ⟨hp, m, m1, m2, m3, m4⟩ := HLT.out HFB.out i hlt
        obtain ⟨b, off, rfl, hcc⟩ := h_m.addrI (by omega)
        have kx := hcc i hlt
        clear hcc
        have hbx : b < w.heap.size := cell_lt kx
        have hbx2 : b < w5.heap.size := Nat.lt_of_lt_of_le hbx HBZ.out.size
        rw [m1] at kx
        replace kx := cell_below HBW.out kx
        have HM1 := Lib.hid m1
        clear m1
        have kc := (HC0.out.later hbl).cell 1 _ rfl
        have kb := (HB0.out.later hbl).cell 1 _ rfl
        have kb0 := (HB0.out.later hbl).cell 0 _ rfl
        have kz := hz.cell 0 _ rfl
        obtain ⟨t, ht⟩ : ∃ t, posF kd n_s ms i = t := ⟨_, rfl⟩
        rw [ht] at hp m4
        have HT := Lib.hid ht
        clear ht
        have htz : ((t : Nat) : Int) < ((nb : Nat) : Int) := by omega
        have B300 := Below.refl wr.heap.size wr
        have h_l_300 := hbl
        have h_z_300 := hz
        have h_w_300 := how
        clear hbl hz how
        by_cases h1 : kd = 1
        case pos =>
          rw [if_pos h1] at m4
          obtain ⟨q, hq⟩ : ∃ q, m * n_s = q := ⟨_, rfl⟩
          rw [hq] at m4
          have hw1 : IntKind.i64.wrap (((m : Nat) : Int) * ((n_s : Nat) : Int)) = ((q : Nat) : Int) := by rw [← hq]; exact mul_wrap (Nat.le_trans (Nat.mul_le_mul m2 g1) (by decide))
          have hw2 : IntKind.i64.wrap (((q : Nat) : Int) + ((i : Nat) : Int)) = ((t : Nat) : Int) := (congrArg IntKind.i64.wrap (by omega)).trans (wrap_in (z := ((t : Nat) : Int)) (by omega) (by omega))
          have e1 : (((kd : Nat) : Int) == 1) = true := by simp; omega
          clear hq m4 h1
          go_upto_region 12 with fail
          clear kb0
          have hb := (Below.refl wr.heap.size wr).drew
          replace kz := cell_below hb kz
          replace kb := cell_below hb kb
          replace kx := cell_below hb kx
          replace kc := cell_below hb kc
          have B301 := B300.trans (hb.mono B300.size)
          have h_l_301 := h_l_300.trans (hb.mono h_l_300.size)
          have h_z_301 := h_z_300.later hb
          have h_w_301 := h_w_300.below hb
          clear hb B300 h_l_300 h_z_300 h_w_300
          refine wp_region_held_drew (S := (fun w' => w'.cell? ⟨w5.heap.size + 1, 0, none⟩ = some (.slice (some ⟨w5.heap.size, 0, none⟩) nb nb) ∧ w'.cell? ⟨w.heap.size + 1, 1, none⟩ = some (.slice (some ⟨b, off, none⟩) n_m c_m) ∧ w'.cell? ⟨b, off + i, none⟩ = some (.int .i64 ((m : Nat) : Int)) ∧ w'.cell? ⟨w.heap.size, 1, none⟩ = some (.slice a_s n_s c_s) ∧ True)) (by kernel_rfl) ?_ (fun hHeld => ?_)
          · exact ⟨kz, kb, kx, kc, trivial⟩
          generalize wr.drew = w301 at *
          refine wpAnyH_take (i := 0) (oi := ?oir1_0) (v := ?vr1_0) ?hir1_0 (by kernel_rfl) (by kernel_rfl) (by kernel_rfl) ?hqr1_0 ?hyr1_0 (by assumption) ?restr1_0
          case hir1_0 => simp only [List.getElem?_toArray, List.getElem?_cons_succ, List.getElem?_cons_zero]; rfl
          case hqr1_0 => exact fun _ _ _ h => h
          case hyr1_0 => (refine Or.inl ⟨by rfl, ?_⟩; intro w hSw; (try dsimp only at hSw); go_simp; all_goals with_reducible rfl)
          try simp only [Act.put, List.setIfInBounds_toArray, List.set_cons_zero, List.set_cons_succ]
          refine wpAnyH_take (i := 1) (oi := ?oir1_1) (v := ?vr1_1) ?hir1_1 (by kernel_rfl) (by kernel_rfl) (by kernel_rfl) ?hqr1_1 ?hyr1_1 (by assumption) ?restr1_1
          case hir1_1 => simp only [List.getElem?_toArray, List.getElem?_cons_succ, List.getElem?_cons_zero]; rfl
          case hqr1_1 => exact fun _ _ _ h => h
          case hyr1_1 => (refine Or.inl ⟨by rfl, ?_⟩; intro w hSw; (try dsimp only at hSw); go_simp; all_goals with_reducible rfl)
          try simp only [Act.put, List.setIfInBounds_toArray, List.set_cons_zero, List.set_cons_succ]
          refine wpAnyH_take (i := 2) (oi := ?oir1_2) (v := ?vr1_2) ?hir1_2 (by kernel_rfl) (by kernel_rfl) (by kernel_rfl) ?hqr1_2 ?hyr1_2 (by assumption) ?restr1_2
          case hir1_2 => simp only [List.getElem?_toArray, List.getElem?_cons_succ, List.getElem?_cons_zero]; rfl
          case hqr1_2 => exact fun _ _ _ h => h
          case hyr1_2 => (refine Or.inl ⟨by rfl, ?_⟩; intro w hSw; (try dsimp only at hSw); go_simp; all_goals with_reducible rfl)
          try simp only [Act.put, List.setIfInBounds_toArray, List.set_cons_zero, List.set_cons_succ]
          refine wpAnyH_take (i := 3) (oi := ?oir1_3) (v := ?vr1_3) ?hir1_3 (by kernel_rfl) (by kernel_rfl) (by kernel_rfl) ?hqr1_3 ?hyr1_3 (by assumption) ?restr1_3
          case hir1_3 => simp only [List.getElem?_toArray, List.getElem?_cons_succ, List.getElem?_cons_zero]; rfl
          case hqr1_3 => exact fun _ _ _ h => h
          case hyr1_3 => (refine Or.inl ⟨by rfl, ?_⟩; intro w hSw; (try dsimp only at hSw); go_simp; all_goals with_reducible rfl)
          try simp only [Act.put, List.setIfInBounds_toArray, List.set_cons_zero, List.set_cons_succ]
          refine wpAnyH_take (i := 4) (oi := ?oir1_4) (v := ?vr1_4) ?hir1_4 (by kernel_rfl) (by kernel_rfl) (by kernel_rfl) ?hqr1_4 ?hyr1_4 (by assumption) ?restr1_4
          case hir1_4 => simp only [List.getElem?_toArray, List.getElem?_cons_succ, List.getElem?_cons_zero]; rfl
          case hqr1_4 => exact fun _ _ _ h => h
          case hyr1_4 => (refine Or.inl ⟨by rfl, ?_⟩; intro w hSw; (try dsimp only at hSw); go_simp; all_goals with_reducible rfl)
          try simp only [Act.put, List.setIfInBounds_toArray, List.set_cons_zero, List.set_cons_succ]
          refine wpAnyH_take (i := 5) (oi := ?oir1_5) (v := ?vr1_5) ?hir1_5 (by kernel_rfl) (by kernel_rfl) (by kernel_rfl) ?hqr1_5 ?hyr1_5 (by assumption) ?restr1_5
          case hir1_5 => simp only [List.getElem?_toArray, List.getElem?_cons_succ, List.getElem?_cons_zero]; rfl
          case hqr1_5 => exact fun _ _ _ h => h
          case hyr1_5 => (refine Or.inl ⟨by rfl, ?_⟩; intro w hSw; (try dsimp only at hSw); go_simp; all_goals with_reducible rfl)
          try simp only [Act.put, List.setIfInBounds_toArray, List.set_cons_zero, List.set_cons_succ]
          refine wpAnyH_take (i := 6) (oi := ?oir1_6) (v := ?vr1_6) ?hir1_6 (by kernel_rfl) (by kernel_rfl) (by kernel_rfl) ?hqr1_6 ?hyr1_6 (by assumption) ?restr1_6
          case hir1_6 => simp only [List.getElem?_toArray, List.getElem?_cons_succ, List.getElem?_cons_zero]; rfl
          case hqr1_6 => exact fun _ _ _ h => h
          case hyr1_6 => (refine Or.inl ⟨by rfl, ?_⟩; intro w hSw; (try dsimp only at hSw); go_simp; all_goals with_reducible rfl)
          try simp only [Act.put, List.setIfInBounds_toArray, List.set_cons_zero, List.set_cons_succ]
          refine wpAnyH_take (i := 7) (oi := ?oir1_7) (v := ?vr1_7) ?hir1_7 (by kernel_rfl) (by kernel_rfl) (by kernel_rfl) ?hqr1_7 ?hyr1_7 (by assumption) ?restr1_7
          case hir1_7 => simp only [List.getElem?_toArray, List.getElem?_cons_succ, List.getElem?_cons_zero]; rfl
          case hqr1_7 => exact fun _ _ _ h => h
          case hyr1_7 => (refine Or.inl ⟨by rfl, ?_⟩; intro w hSw; (try dsimp only at hSw); go_simp; all_goals with_reducible rfl)
          try simp only [Act.put, List.setIfInBounds_toArray, List.set_cons_zero, List.set_cons_succ]
          refine wpAnyH_take (i := 8) (oi := ?oir1_8) (v := ?vr1_8) ?hir1_8 (by kernel_rfl) (by kernel_rfl) (by kernel_rfl) ?hqr1_8 ?hyr1_8 (by assumption) ?restr1_8
          case hir1_8 => simp only [List.getElem?_toArray, List.getElem?_cons_succ, List.getElem?_cons_zero]; rfl
          case hqr1_8 => exact fun _ _ _ h => h
          case hyr1_8 => (refine Or.inl ⟨by rfl, ?_⟩; intro w hSw; (try dsimp only at hSw); go_simp; all_goals with_reducible rfl)
          try simp only [Act.put, List.setIfInBounds_toArray, List.set_cons_zero, List.set_cons_succ]
          refine wpAnyH_take (i := 9) (oi := ?oir1_9) (v := ?vr1_9) ?hir1_9 (by kernel_rfl) (by kernel_rfl) (by kernel_rfl) ?hqr1_9 ?hyr1_9 (by assumption) ?restr1_9
          case hir1_9 => simp only [List.getElem?_toArray, List.getElem?_cons_succ, List.getElem?_cons_zero]; rfl
          case hqr1_9 => exact fun _ _ _ h => h
          case hyr1_9 => (refine Or.inl ⟨by rfl, ?_⟩; intro w hSw; (try dsimp only at hSw); go_simp; all_goals with_reducible rfl)
          try simp only [Act.put, List.setIfInBounds_toArray, List.set_cons_zero, List.set_cons_succ]
          refine wpAnyH_take (i := 10) (oi := ?oir1_10) (v := ?vr1_10) ?hir1_10 (by kernel_rfl) (by kernel_rfl) (by kernel_rfl) ?hqr1_10 ?hyr1_10 (by assumption) ?restr1_10
          case hir1_10 => simp only [List.getElem?_toArray, List.getElem?_cons_succ, List.getElem?_cons_zero]; rfl
          case hqr1_10 => exact fun _ _ _ h => h
          case hyr1_10 => (refine Or.inl ⟨by rfl, ?_⟩; intro w hSw; (try dsimp only at hSw); go_simp; all_goals with_reducible rfl)
          try simp only [Act.put, List.setIfInBounds_toArray, List.set_cons_zero, List.set_cons_succ]
          refine wpAnyH_take (i := 11) (oi := ?oir1_11) (v := ?vr1_11) ?hir1_11 (by kernel_rfl) (by kernel_rfl) (by kernel_rfl) ?hqr1_11 ?hyr1_11 (by assumption) ?restr1_11
          case hir1_11 => simp only [List.getElem?_toArray, List.getElem?_cons_succ, List.getElem?_cons_zero]; rfl
          case hqr1_11 => exact fun _ _ _ h => h
          case hyr1_11 => (refine Or.inl ⟨by rfl, ?_⟩; intro w hSw; (try dsimp only at hSw); go_simp; all_goals with_reducible rfl)
          try simp only [Act.put, List.setIfInBounds_toArray, List.set_cons_zero, List.set_cons_succ]
          refine wpAnyH_take (i := 12) (oi := ?oir1_12) (v := ?vr1_12) ?hir1_12 (by kernel_rfl) (by kernel_rfl) (by kernel_rfl) ?hqr1_12 ?hyr1_12 (by assumption) ?restr1_12
          case hir1_12 => simp only [List.getElem?_toArray, List.getElem?_cons_succ, List.getElem?_cons_zero]; rfl
          case hqr1_12 => exact fun _ _ _ h => h
          case hyr1_12 => (refine Or.inl ⟨by rfl, ?_⟩; intro w hSw; (try dsimp only at hSw); go_simp; all_goals with_reducible rfl)
          try simp only [Act.put, List.setIfInBounds_toArray, List.set_cons_zero, List.set_cons_succ]
          refine wpAnyH_take (i := 13) (oi := ?oir1_13) (v := ?vr1_13) ?hir1_13 (by kernel_rfl) (by kernel_rfl) (by kernel_rfl) ?hqr1_13 ?hyr1_13 (by assumption) ?restr1_13
          case hir1_13 => simp only [List.getElem?_toArray, List.getElem?_cons_succ, List.getElem?_cons_zero]; rfl
          case hqr1_13 => exact fun _ _ _ h => h
          case hyr1_13 => (refine Or.inl ⟨by rfl, ?_⟩; intro w hSw; (try dsimp only at hSw); go_simp; all_goals with_reducible rfl)
          try simp only [Act.put, List.setIfInBounds_toArray, List.set_cons_zero, List.set_cons_succ]
          have kt := h_w_301.at t hp
          have ft := h_w_301.free t
          refine wpAnyH_ready (rs := [14]) (by kernel_rfl) (by simp) ?_
          refine AllReadyH.cons (o := ?or2_14) ?hor2_14 (fun K hK => ?kr2_14) AllReadyH.nil
          case hor2_14 => simp only [List.getElem?_toArray, List.getElem?_cons_succ, List.getElem?_cons_zero]; rfl
          go_simp
          replace kz := cell_set (k := w5.heap.size) (j := t) kz (by omega) (.int .u8 100)
          replace kb := cell_set (k := w5.heap.size) (j := t) kb (by omega) (.int .u8 100)
          replace kx := cell_set (k := w5.heap.size) (j := t) kx (by omega) (.int .u8 100)
          replace kc := cell_set (k := w5.heap.size) (j := t) kc (by omega) (.int .u8 100)
          go_wp2_with fail
          clear hHeld
          refine hK.out _ _ ?_ (fun hHeld => ?_)
          · exact ⟨kz, kb, kx, kc, trivial⟩
          clear hK K
          try simp only [Act.put, List.setIfInBounds_toArray, List.set_cons_zero, List.set_cons_succ]
          refine wpAnyH_done (by kernel_rfl) ?_ _
          clear hHeld kz kb kx kc
          have h5 : Ow .u8 5 w5.heap.size (w301.setCell ⟨w5.heap.size, t, none⟩ (.int .u8 100)) (some ⟨w5.heap.size, 0, none⟩) nb nb ((fillI kd n_s nb ms i).set t 100) := h_w_301.set t 100 (by show 100 < 256; decide)
          have h6 : Ow .u8 5 w5.heap.size (w301.setCell ⟨w5.heap.size, t, none⟩ (.int .u8 100)) (some ⟨w5.heap.size, 0, none⟩) nb nb (fillI kd n_s nb ms (i + 1)) := by
            rw [show fillI kd n_s nb ms (i + 1) = (fillI kd n_s nb ms i).set t 100 by rw [← HT.out]; rfl]
            exact h5
          have h7 := h_l_301.setCell (p := ⟨w5.heap.size, t, none⟩) (Nat.le_refl _) (.int .u8 100)
          have h8 := h_z_301.other (p := ⟨w5.heap.size, t, none⟩) (by show w5.heap.size + 1 ≠ w5.heap.size; omega) (Nat.le_refl _) (.int .u8 100)
          clear kt ft
          go_wp2_with fail
          go_roundw
          case rel => exact ⟨i + 1, by omega, by go_num, h7, h8, h6⟩
          case measure => simp [intOf]; omega
        by_cases h3 : kd = 3
        case pos =>
          rw [if_neg (by omega), if_pos h3] at m4
          obtain ⟨q, hq⟩ : ∃ q, i * 11 = q := ⟨_, rfl⟩
          rw [hq] at m4
          have hw1 : IntKind.i64.wrap (11 * ((i : Nat) : Int)) = ((q : Nat) : Int) := (congrArg IntKind.i64.wrap (by omega)).trans (wrap_in (z := ((q : Nat) : Int)) (by omega) (by omega))
          have hw2 : IntKind.i64.wrap (((q : Nat) : Int) + ((m : Nat) : Int)) = ((t : Nat) : Int) := (congrArg IntKind.i64.wrap (by omega)).trans (wrap_in (z := ((t : Nat) : Int)) (by omega) (by omega))
          have e1 : (((kd : Nat) : Int) == 1) = false := by simp; omega
          have e2 : (((kd : Nat) : Int) == 2) = false := by simp; omega
          have e3 : (((kd : Nat) : Int) == 3) = true := by simp; omega
          clear hq m4 h3
          go_upto_region 16 with fail
          clear kb0 kc
          have hb := (Below.refl wr.heap.size wr).drew
          replace kz := cell_below hb kz
          replace kb := cell_below hb kb
          replace kx := cell_below hb kx
          have B301 := B300.trans (hb.mono B300.size)
          have h_l_301 := h_l_300.trans (hb.mono h_l_300.size)
          have h_z_301 := h_z_300.later hb
          have h_w_301 := h_w_300.below hb
          clear hb B300 h_l_300 h_z_300 h_w_300
          refine wp_region_held_drew (S := (fun w' => w'.cell? ⟨w5.heap.size + 1, 0, none⟩ = some (.slice (some ⟨w5.heap.size, 0, none⟩) nb nb) ∧ w'.cell? ⟨w.heap.size + 1, 1, none⟩ = some (.slice (some ⟨b, off, none⟩) n_m c_m) ∧ w'.cell? ⟨b, off + i, none⟩ = some (.int .i64 ((m : Nat) : Int)) ∧ True)) (by kernel_rfl) ?_ (fun hHeld => ?_)
          · exact ⟨kz, kb, kx, trivial⟩
          generalize wr.drew = w301 at *
          refine wpAnyH_take (i := 0) (oi := ?oir3_0) (v := ?vr3_0) ?hir3_0 (by kernel_rfl) (by kernel_rfl) (by kernel_rfl) ?hqr3_0 ?hyr3_0 (by assumption) ?restr3_0
          case hir3_0 => simp only [List.getElem?_toArray, List.getElem?_cons_succ, List.getElem?_cons_zero]; rfl
          case hqr3_0 => exact fun _ _ _ h => h
          case hyr3_0 => (refine Or.inl ⟨by rfl, ?_⟩; intro w hSw; (try dsimp only at hSw); go_simp; all_goals with_reducible rfl)
          try simp only [Act.put, List.setIfInBounds_toArray, List.set_cons_zero, List.set_cons_succ]
          refine wpAnyH_take (i := 1) (oi := ?oir3_1) (v := ?vr3_1) ?hir3_1 (by kernel_rfl) (by kernel_rfl) (by kernel_rfl) ?hqr3_1 ?hyr3_1 (by assumption) ?restr3_1
          case hir3_1 => simp only [List.getElem?_toArray, List.getElem?_cons_succ, List.getElem?_cons_zero]; rfl
          case hqr3_1 => exact fun _ _ _ h => h
          case hyr3_1 => (refine Or.inl ⟨by rfl, ?_⟩; intro w hSw; (try dsimp only at hSw); go_simp; all_goals with_reducible rfl)
          try simp only [Act.put, List.setIfInBounds_toArray, List.set_cons_zero, List.set_cons_succ]
          refine wpAnyH_take (i := 2) (oi := ?oir3_2) (v := ?vr3_2) ?hir3_2 (by kernel_rfl) (by kernel_rfl) (by kernel_rfl) ?hqr3_2 ?hyr3_2 (by assumption) ?restr3_2
          case hir3_2 => simp only [List.getElem?_toArray, List.getElem?_cons_succ, List.getElem?_cons_zero]; rfl
          case hqr3_2 => exact fun _ _ _ h => h
          case hyr3_2 => (refine Or.inl ⟨by rfl, ?_⟩; intro w hSw; (try dsimp only at hSw); go_simp; all_goals with_reducible rfl)
          try simp only [Act.put, List.setIfInBounds_toArray, List.set_cons_zero, List.set_cons_succ]
          refine wpAnyH_take (i := 3) (oi := ?oir3_3) (v := ?vr3_3) ?hir3_3 (by kernel_rfl) (by kernel_rfl) (by kernel_rfl) ?hqr3_3 ?hyr3_3 (by assumption) ?restr3_3
          case hir3_3 => simp only [List.getElem?_toArray, List.getElem?_cons_succ, List.getElem?_cons_zero]; rfl
          case hqr3_3 => exact fun _ _ _ h => h
          case hyr3_3 => (refine Or.inl ⟨by rfl, ?_⟩; intro w hSw; (try dsimp only at hSw); go_simp; all_goals with_reducible rfl)
          try simp only [Act.put, List.setIfInBounds_toArray, List.set_cons_zero, List.set_cons_succ]
          refine wpAnyH_take (i := 4) (oi := ?oir3_4) (v := ?vr3_4) ?hir3_4 (by kernel_rfl) (by kernel_rfl) (by kernel_rfl) ?hqr3_4 ?hyr3_4 (by assumption) ?restr3_4
          case hir3_4 => simp only [List.getElem?_toArray, List.getElem?_cons_succ, List.getElem?_cons_zero]; rfl
          case hqr3_4 => exact fun _ _ _ h => h
          case hyr3_4 => (refine Or.inl ⟨by rfl, ?_⟩; intro w hSw; (try dsimp only at hSw); go_simp; all_goals with_reducible rfl)
          try simp only [Act.put, List.setIfInBounds_toArray, List.set_cons_zero, List.set_cons_succ]
          refine wpAnyH_take (i := 5) (oi := ?oir3_5) (v := ?vr3_5) ?hir3_5 (by kernel_rfl) (by kernel_rfl) (by kernel_rfl) ?hqr3_5 ?hyr3_5 (by assumption) ?restr3_5
          case hir3_5 => simp only [List.getElem?_toArray, List.getElem?_cons_succ, List.getElem?_cons_zero]; rfl
          case hqr3_5 => exact fun _ _ _ h => h
          case hyr3_5 => (refine Or.inl ⟨by rfl, ?_⟩; intro w hSw; (try dsimp only at hSw); go_simp; all_goals with_reducible rfl)
          try simp only [Act.put, List.setIfInBounds_toArray, List.set_cons_zero, List.set_cons_succ]
          refine wpAnyH_take (i := 6) (oi := ?oir3_6) (v := ?vr3_6) ?hir3_6 (by kernel_rfl) (by kernel_rfl) (by kernel_rfl) ?hqr3_6 ?hyr3_6 (by assumption) ?restr3_6
          case hir3_6 => simp only [List.getElem?_toArray, List.getElem?_cons_succ, List.getElem?_cons_zero]; rfl
          case hqr3_6 => exact fun _ _ _ h => h
          case hyr3_6 => (refine Or.inl ⟨by rfl, ?_⟩; intro w hSw; (try dsimp only at hSw); go_simp; all_goals with_reducible rfl)
          try simp only [Act.put, List.setIfInBounds_toArray, List.set_cons_zero, List.set_cons_succ]
          refine wpAnyH_take (i := 7) (oi := ?oir3_7) (v := ?vr3_7) ?hir3_7 (by kernel_rfl) (by kernel_rfl) (by kernel_rfl) ?hqr3_7 ?hyr3_7 (by assumption) ?restr3_7
          case hir3_7 => simp only [List.getElem?_toArray, List.getElem?_cons_succ, List.getElem?_cons_zero]; rfl
          case hqr3_7 => exact fun _ _ _ h => h
          case hyr3_7 => (refine Or.inl ⟨by rfl, ?_⟩; intro w hSw; (try dsimp only at hSw); go_simp; all_goals with_reducible rfl)
          try simp only [Act.put, List.setIfInBounds_toArray, List.set_cons_zero, List.set_cons_succ]
          refine wpAnyH_take (i := 8) (oi := ?oir3_8) (v := ?vr3_8) ?hir3_8 (by kernel_rfl) (by kernel_rfl) (by kernel_rfl) ?hqr3_8 ?hyr3_8 (by assumption) ?restr3_8
          case hir3_8 => simp only [List.getElem?_toArray, List.getElem?_cons_succ, List.getElem?_cons_zero]; rfl
          case hqr3_8 => exact fun _ _ _ h => h
          case hyr3_8 => (refine Or.inl ⟨by rfl, ?_⟩; intro w hSw; (try dsimp only at hSw); go_simp; all_goals with_reducible rfl)
          try simp only [Act.put, List.setIfInBounds_toArray, List.set_cons_zero, List.set_cons_succ]
          refine wpAnyH_take (i := 9) (oi := ?oir3_9) (v := ?vr3_9) ?hir3_9 (by kernel_rfl) (by kernel_rfl) (by kernel_rfl) ?hqr3_9 ?hyr3_9 (by assumption) ?restr3_9
          case hir3_9 => simp only [List.getElem?_toArray, List.getElem?_cons_succ, List.getElem?_cons_zero]; rfl
          case hqr3_9 => exact fun _ _ _ h => h
          case hyr3_9 => (refine Or.inl ⟨by rfl, ?_⟩; intro w hSw; (try dsimp only at hSw); go_simp; all_goals with_reducible rfl)
          try simp only [Act.put, List.setIfInBounds_toArray, List.set_cons_zero, List.set_cons_succ]
          refine wpAnyH_take (i := 10) (oi := ?oir3_10) (v := ?vr3_10) ?hir3_10 (by kernel_rfl) (by kernel_rfl) (by kernel_rfl) ?hqr3_10 ?hyr3_10 (by assumption) ?restr3_10
          case hir3_10 => simp only [List.getElem?_toArray, List.getElem?_cons_succ, List.getElem?_cons_zero]; rfl
          case hqr3_10 => exact fun _ _ _ h => h
          case hyr3_10 => (refine Or.inl ⟨by rfl, ?_⟩; intro w hSw; (try dsimp only at hSw); go_simp; all_goals with_reducible rfl)
          try simp only [Act.put, List.setIfInBounds_toArray, List.set_cons_zero, List.set_cons_succ]
          have kt := h_w_301.at t hp
          have ft := h_w_301.free t
          refine wpAnyH_ready (rs := [11]) (by kernel_rfl) (by simp) ?_
          refine AllReadyH.cons (o := ?or4_11) ?hor4_11 (fun K hK => ?kr4_11) AllReadyH.nil
          case hor4_11 => simp only [List.getElem?_toArray, List.getElem?_cons_succ, List.getElem?_cons_zero]; rfl
          go_simp
          replace kz := cell_set (k := w5.heap.size) (j := t) kz (by omega) (.int .u8 100)
          replace kb := cell_set (k := w5.heap.size) (j := t) kb (by omega) (.int .u8 100)
          replace kx := cell_set (k := w5.heap.size) (j := t) kx (by omega) (.int .u8 100)
          go_wp2_with fail
          clear hHeld
          refine hK.out _ _ ?_ (fun hHeld => ?_)
          · exact ⟨kz, kb, kx, trivial⟩
          clear hK K
          try simp only [Act.put, List.setIfInBounds_toArray, List.set_cons_zero, List.set_cons_succ]
          refine wpAnyH_done (by kernel_rfl) ?_ _
          clear hHeld kz kb kx
          have h5 : Ow .u8 5 w5.heap.size (w301.setCell ⟨w5.heap.size, t, none⟩ (.int .u8 100)) (some ⟨w5.heap.size, 0, none⟩) nb nb ((fillI kd n_s nb ms i).set t 100) := h_w_301.set t 100 (by show 100 < 256; decide)
          have h6 : Ow .u8 5 w5.heap.size (w301.setCell ⟨w5.heap.size, t, none⟩ (.int .u8 100)) (some ⟨w5.heap.size, 0, none⟩) nb nb (fillI kd n_s nb ms (i + 1)) := by
            rw [show fillI kd n_s nb ms (i + 1) = (fillI kd n_s nb ms i).set t 100 by rw [← HT.out]; rfl]
            exact h5
          have h7 := h_l_301.setCell (p := ⟨w5.heap.size, t, none⟩) (Nat.le_refl _) (.int .u8 100)
          have h8 := h_z_301.other (p := ⟨w5.heap.size, t, none⟩) (by show w5.heap.size + 1 ≠ w5.heap.size; omega) (Nat.le_refl _) (.int .u8 100)
          clear kt ft
          go_wp2_with fail
          go_roundw
          case rel => exact ⟨i + 1, by omega, by go_num, h7, h8, h6⟩
          case measure => simp [intOf]; omega
        have h2 : kd = 2 := by rcases HKD.out with h | h | h; exact absurd h h1; exact h; exact absurd h h3
        have H2 := Lib.hid h2
        clear h2
        rw [if_neg (by omega), if_neg (by omega)] at m4
        subst m4
        have e1 : (((kd : Nat) : Int) == 1) = false := by have := H2.out; simp; omega
        have e2 : (((kd : Nat) : Int) == 2) = true := by have := H2.out; simp; omega
        go_upto_region 14 with fail
        clear kb0 kc
        have hb := (Below.refl wr.heap.size wr).drew
        replace kz := cell_below hb kz
        replace kb := cell_below hb kb
        replace kx := cell_below hb kx
        have B301 := B300.trans (hb.mono B300.size)
        have h_l_301 := h_l_300.trans (hb.mono h_l_300.size)
        have h_z_301 := h_z_300.later hb
        have h_w_301 := h_w_300.below hb
        clear hb B300 h_l_300 h_z_300 h_w_300
        refine wp_region_held_drew (S := (fun w' => w'.cell? ⟨w5.heap.size + 1, 0, none⟩ = some (.slice (some ⟨w5.heap.size, 0, none⟩) nb nb) ∧ w'.cell? ⟨w.heap.size + 1, 1, none⟩ = some (.slice (some ⟨b, off, none⟩) n_m c_m) ∧ w'.cell? ⟨b, off + i, none⟩ = some (.int .i64 ((t : Nat) : Int)) ∧ True)) (by kernel_rfl) ?_ (fun hHeld => ?_)
        · exact ⟨kz, kb, kx, trivial⟩
        generalize wr.drew = w301 at *
        refine wpAnyH_take (i := 0) (oi := ?oir5_0) (v := ?vr5_0) ?hir5_0 (by kernel_rfl) (by kernel_rfl) (by kernel_rfl) ?hqr5_0 ?hyr5_0 (by assumption) ?restr5_0
        case hir5_0 => simp only [List.getElem?_toArray, List.getElem?_cons_succ, List.getElem?_cons_zero]; rfl
        case hqr5_0 => exact fun _ _ _ h => h
        case hyr5_0 => (refine Or.inl ⟨by rfl, ?_⟩; intro w hSw; (try dsimp only at hSw); go_simp; all_goals with_reducible rfl)
        try simp only [Act.put, List.setIfInBounds_toArray, List.set_cons_zero, List.set_cons_succ]
        refine wpAnyH_take (i := 1) (oi := ?oir5_1) (v := ?vr5_1) ?hir5_1 (by kernel_rfl) (by kernel_rfl) (by kernel_rfl) ?hqr5_1 ?hyr5_1 (by assumption) ?restr5_1
        case hir5_1 => simp only [List.getElem?_toArray, List.getElem?_cons_succ, List.getElem?_cons_zero]; rfl
        case hqr5_1 => exact fun _ _ _ h => h
        case hyr5_1 => (refine Or.inl ⟨by rfl, ?_⟩; intro w hSw; (try dsimp only at hSw); go_simp; all_goals with_reducible rfl)
        try simp only [Act.put, List.setIfInBounds_toArray, List.set_cons_zero, List.set_cons_succ]
        refine wpAnyH_take (i := 2) (oi := ?oir5_2) (v := ?vr5_2) ?hir5_2 (by kernel_rfl) (by kernel_rfl) (by kernel_rfl) ?hqr5_2 ?hyr5_2 (by assumption) ?restr5_2
        case hir5_2 => simp only [List.getElem?_toArray, List.getElem?_cons_succ, List.getElem?_cons_zero]; rfl
        case hqr5_2 => exact fun _ _ _ h => h
        case hyr5_2 => (refine Or.inl ⟨by rfl, ?_⟩; intro w hSw; (try dsimp only at hSw); go_simp; all_goals with_reducible rfl)
        try simp only [Act.put, List.setIfInBounds_toArray, List.set_cons_zero, List.set_cons_succ]
        refine wpAnyH_take (i := 3) (oi := ?oir5_3) (v := ?vr5_3) ?hir5_3 (by kernel_rfl) (by kernel_rfl) (by kernel_rfl) ?hqr5_3 ?hyr5_3 (by assumption) ?restr5_3
        case hir5_3 => simp only [List.getElem?_toArray, List.getElem?_cons_succ, List.getElem?_cons_zero]; rfl
        case hqr5_3 => exact fun _ _ _ h => h
        case hyr5_3 => (refine Or.inl ⟨by rfl, ?_⟩; intro w hSw; (try dsimp only at hSw); go_simp; all_goals with_reducible rfl)
        try simp only [Act.put, List.setIfInBounds_toArray, List.set_cons_zero, List.set_cons_succ]
        refine wpAnyH_take (i := 4) (oi := ?oir5_4) (v := ?vr5_4) ?hir5_4 (by kernel_rfl) (by kernel_rfl) (by kernel_rfl) ?hqr5_4 ?hyr5_4 (by assumption) ?restr5_4
        case hir5_4 => simp only [List.getElem?_toArray, List.getElem?_cons_succ, List.getElem?_cons_zero]; rfl
        case hqr5_4 => exact fun _ _ _ h => h
        case hyr5_4 => (refine Or.inl ⟨by rfl, ?_⟩; intro w hSw; (try dsimp only at hSw); go_simp; all_goals with_reducible rfl)
        try simp only [Act.put, List.setIfInBounds_toArray, List.set_cons_zero, List.set_cons_succ]
        refine wpAnyH_take (i := 5) (oi := ?oir5_5) (v := ?vr5_5) ?hir5_5 (by kernel_rfl) (by kernel_rfl) (by kernel_rfl) ?hqr5_5 ?hyr5_5 (by assumption) ?restr5_5
        case hir5_5 => simp only [List.getElem?_toArray, List.getElem?_cons_succ, List.getElem?_cons_zero]; rfl
        case hqr5_5 => exact fun _ _ _ h => h
        case hyr5_5 => (refine Or.inl ⟨by rfl, ?_⟩; intro w hSw; (try dsimp only at hSw); go_simp; all_goals with_reducible rfl)
        try simp only [Act.put, List.setIfInBounds_toArray, List.set_cons_zero, List.set_cons_succ]
        refine wpAnyH_take (i := 6) (oi := ?oir5_6) (v := ?vr5_6) ?hir5_6 (by kernel_rfl) (by kernel_rfl) (by kernel_rfl) ?hqr5_6 ?hyr5_6 (by assumption) ?restr5_6
        case hir5_6 => simp only [List.getElem?_toArray, List.getElem?_cons_succ, List.getElem?_cons_zero]; rfl
        case hqr5_6 => exact fun _ _ _ h => h
        case hyr5_6 => (refine Or.inl ⟨by rfl, ?_⟩; intro w hSw; (try dsimp only at hSw); go_simp; all_goals with_reducible rfl)
        try simp only [Act.put, List.setIfInBounds_toArray, List.set_cons_zero, List.set_cons_succ]
        refine wpAnyH_take (i := 7) (oi := ?oir5_7) (v := ?vr5_7) ?hir5_7 (by kernel_rfl) (by kernel_rfl) (by kernel_rfl) ?hqr5_7 ?hyr5_7 (by assumption) ?restr5_7
        case hir5_7 => simp only [List.getElem?_toArray, List.getElem?_cons_succ, List.getElem?_cons_zero]; rfl
        case hqr5_7 => exact fun _ _ _ h => h
        case hyr5_7 => (refine Or.inl ⟨by rfl, ?_⟩; intro w hSw; (try dsimp only at hSw); go_simp; all_goals with_reducible rfl)
        try simp only [Act.put, List.setIfInBounds_toArray, List.set_cons_zero, List.set_cons_succ]
        have kt := h_w_301.at t hp
        have ft := h_w_301.free t
        refine wpAnyH_ready (rs := [8]) (by kernel_rfl) (by simp) ?_
        refine AllReadyH.cons (o := ?or6_8) ?hor6_8 (fun K hK => ?kr6_8) AllReadyH.nil
        case hor6_8 => simp only [List.getElem?_toArray, List.getElem?_cons_succ, List.getElem?_cons_zero]; rfl
        go_simp
        replace kz := cell_set (k := w5.heap.size) (j := t) kz (by omega) (.int .u8 100)
        replace kb := cell_set (k := w5.heap.size) (j := t) kb (by omega) (.int .u8 100)
        replace kx := cell_set (k := w5.heap.size) (j := t) kx (by omega) (.int .u8 100)
        go_wp2_with fail
        clear hHeld
        refine hK.out _ _ ?_ (fun hHeld => ?_)
        · exact ⟨kz, kb, kx, trivial⟩
        clear hK K
        try simp only [Act.put, List.setIfInBounds_toArray, List.set_cons_zero, List.set_cons_succ]
        refine wpAnyH_done (by kernel_rfl) ?_ _
        clear hHeld kz kb kx
        have h5 : Ow .u8 5 w5.heap.size (w301.setCell ⟨w5.heap.size, t, none⟩ (.int .u8 100)) (some ⟨w5.heap.size, 0, none⟩) nb nb ((fillI kd n_s nb ms i).set t 100) := h_w_301.set t 100 (by show 100 < 256; decide)
        have h6 : Ow .u8 5 w5.heap.size (w301.setCell ⟨w5.heap.size, t, none⟩ (.int .u8 100)) (some ⟨w5.heap.size, 0, none⟩) nb nb (fillI kd n_s nb ms (i + 1)) := by
          rw [show fillI kd n_s nb ms (i + 1) = (fillI kd n_s nb ms i).set t 100 by rw [← HT.out]; rfl]
          exact h5
        have h7 := h_l_301.setCell (p := ⟨w5.heap.size, t, none⟩) (Nat.le_refl _) (.int .u8 100)
        have h8 := h_z_301.other (p := ⟨w5.heap.size, t, none⟩) (by show w5.heap.size + 1 ≠ w5.heap.size; omega) (Nat.le_refl _) (.int .u8 100)
        clear kt ft
        go_wp2_with fail
        go_roundw
        case rel => exact ⟨i + 1, by omega, by go_num, h7, h8, h6⟩
        case measure => simp [intOf]; omega

end Go.Proofs.Ytlfempfhohejiaa
