/- Records: Put of a valid ballot where there is room. Conditions: valid records of at most three batches. Printed by gen_topx.py. -/
import Derived.Test.YthpjnbnheagpiaaTopW
namespace Go.Proofs.Ythpjnbnheagpiaa
open Go.RowKit Go.Suf
set_option linter.unusedVariables false
set_option linter.unusedSimpArgs false
theorem RecW.small {kd : Nat} {cn : Int} {l : List CQ} (h : RecW kd cn l) : ∀ x ∈ l, x.bs.length ≤ 1099511627776 ∧ ∀ y ∈ x.bs, y.ms.length ≤ 1099511627776 := fun x hx => by
  obtain ⟨h1, h2, h3⟩ := h.ok x hx
  exact ⟨by omega, fun y hy => by have := ballC_len (h3 y hy).2; omega⟩
set_option maxRecDepth 100000 in
set_option maxHeartbeats 8000000 in
theorem PutNew_any (w : World) (cn : Int) (hc1 : 1 ≤ cn) (hc2 : cn ≤ 10) (kd : Nat) (hk1 : 1 ≤ kd) (hk2 : kd ≤ 3) {a_l : Option Addr} {n_l c_l : Nat} {l : List CQ} (h_l : RdC w a_l n_l c_l l) (hW : RecW kd cn l) (name : ByteArray) (hod : oddS name = false) {a_x : Option Addr} {n_x c_x : Nat} {ms : List Int} (h_x : RdI w a_x n_x c_x ms) (hbf : ballC kd ms cn = 0) (HZ : Hid (plcI l name = -1)) (hroom : n_l ≤ 2) : Calls Try.prog 10 #[.slice a_l n_l c_l, .int .i64 cn, .int .u8 ((kd : Nat) : Int), .string name, .agg #[.int .u8 ((kd : Nat) : Int), .slice a_x n_x c_x]] w (RetPC w (putC l name ⟨kd, ms⟩)) := by
  have HW := Lib.hid hW
  have HBF := Lib.hid hbf
  have HOD := Lib.hid hod
  have HL := Lib.hid h_l.len
  have hn3 : n_l ≤ 3 := by rw [← HL.out]; exact hW.len
  have hnl : n_l ≤ 1099511627776 := by omega
  have hnx : n_x ≤ 1099511627776 := by have := ballC_len hbf; have := h_x.len; omega
  have HSM := Lib.hid hW.small
  clear hW hbf hod
  have B0 : Below w.heap.size w w := Below.refl _ _
  have h_l_0 := h_l
  have h_x_0 := h_x
  go_enter Try.func10, Try.ntmps10
  have hb := below_al w (.cells #[.int .u8 ((kd : Nat) : Int), .slice a_x n_x c_x] 37)
  have B1 := B0.trans (hb.mono B0.size)
  have h_l_1 := h_l_0.below batE_lasts hb
  have h_x_1 := h_x_0.below hb
  clear hb B0 h_l_0 h_x_0
  have h_b_1 := PRow.new 37 w #[.int .u8 ((kd : Nat) : Int), .slice a_x n_x c_x]
  go_wp2_with fail
  generalize (w.alloc (.cells #[.int .u8 ((kd : Nat) : Int), .slice a_x n_x c_x] 37)) = w1 at *
  have c := CheckR_any w1 cn hc1 hc2 kd hk1 hk2 h_l_1 HW.out
  refine c.mono ?_
  rintro e w2 ⟨rfl, hb⟩
  clear c
  have B2 := B1.trans (hb.mono B1.size)
  have h_l_2 := h_l_1.below batE_lasts hb
  have h_x_2 := h_x_1.below hb
  have h_b_2 := h_b_1.later hb
  clear hb B1 h_l_1 h_x_1 h_b_1
  have HBR := Lib.hid B2
  have hb := below_al w2 (.cells #[.string name, .slice none 0 0, .int .i64 cn, .int .u8 ((kd : Nat) : Int)] 81)
  have B3 := B2.trans (hb.mono B2.size)
  have h_l_3 := h_l_2.below batE_lasts hb
  have h_x_3 := h_x_2.below hb
  have h_b_3 := h_b_2.later hb
  clear hb B2 h_l_2 h_x_2 h_b_2
  have h_r_3 := (PRow.new 81 w2 #[.string name, .slice none 0 0, .int .i64 cn, .int .u8 ((kd : Nat) : Int)]).base HBR.out
  have k_r_0 := h_r_3.cell 0 _ rfl
  have k_r_1 := h_r_3.cell 1 _ rfl
  have k_r_2 := h_r_3.cell 2 _ rfl
  have k_r_3 := h_r_3.cell 3 _ rfl
  go_wp2_with first | refine wpList_store_new rfl 81 _ _ rfl atRwt _ _ _ rfl rfl rfl rfl (rwt_one _ _ _ _ _ _) ?_
  clear k_r_0 k_r_1 k_r_2 k_r_3
  generalize (w2.alloc (.cells #[.string name, .slice none 0 0, .int .i64 cn, .int .u8 ((kd : Nat) : Int)] 81)) = w3 at *
  have c := mayRow_any w3 name (a_b := none) (n_b := 0) (c_b := 0) cn kd (by omega) (Rd2.nils balE _) HOD.out (fun b hb => by simp at hb)
  refine c.mono ?_
  rintro e w4 ⟨rfl, hb⟩
  clear c
  have B4 := B3.trans (hb.mono B3.size)
  have h_l_4 := h_l_3.below batE_lasts hb
  have h_x_4 := h_x_3.below hb
  have h_b_4 := h_b_3.later hb
  have h_r_4 := h_r_3.later hb
  clear hb B3 h_l_3 h_x_3 h_b_3 h_r_3
  have k_r_0 := h_r_4.cell 0 _ rfl
  have k_r_1 := h_r_4.cell 1 _ rfl
  have k_r_2 := h_r_4.cell 2 _ rfl
  have k_r_3 := h_r_4.cell 3 _ rfl
  have k_b_0 := h_b_4.cell 0 _ rfl
  have k_b_1 := h_b_4.cell 1 _ rfl
  go_wp2_with fail
  clear k_r_0 k_r_1 k_r_2 k_r_3 k_b_0 k_b_1
  have c := fits_any2 w4 name (a_b := none) (n_b := 0) (c_b := 0) cn kd (by omega) h_x_4 HBF.out
  refine c.mono ?_
  rintro e w5 ⟨rfl, hb⟩
  clear c
  have B5 := B4.trans (hb.mono B4.size)
  have h_l_5 := h_l_4.below batE_lasts hb
  have h_x_5 := h_x_4.below hb
  have h_b_5 := h_b_4.later hb
  have h_r_5 := h_r_4.later hb
  clear hb B4 h_l_4 h_x_4 h_b_4 h_r_4
  go_wp2_with fail
  have c := placeC_any w5 h_l_5 name
  rw [HZ.out] at c
  refine c.mono ?_
  rintro e w6 ⟨rfl, hb⟩
  clear c
  have B6 := B5.trans (hb.mono B5.size)
  have h_l_6 := h_l_5.below batE_lasts hb
  have h_x_6 := h_x_5.below hb
  have h_b_6 := h_b_5.later hb
  have h_r_6 := h_r_5.later hb
  clear hb B5 h_l_5 h_x_5 h_b_5 h_r_5
  have HXWB := Lib.hid h_x_6
  have HBWB := Lib.hid h_b_6
  have HRWB := Lib.hid h_r_6
  have HLWB := Lib.hid h_l_6
  have HB0 := Lib.hid B6
  have hd16 : (((n_l : Nat) : Int) == 16) = false := by simp; omega
  clear h_x_6 h_b_6 h_r_6 h_l_6 B6
  go_wp2_with fail
  refine (TwinC_any w6 HLWB.out hnl HSM.out).mono ?_
  rintro e w9 ⟨a9, c9, ps, rfl, hX, hF, hA, hb⟩
  have HF9 := Lib.hid hF
  have HA9 := Lib.hid hA
  clear hF hA hd16
  have hal := below_al w9 (.cells #[.string name, .slice none 0 0] 79)
  have kr0 := cell_below hb (HRWB.out.cell 0 _ rfl)
  have kr1 := cell_below hb (HRWB.out.cell 1 _ rfl)
  have hsz9 := Nat.le_trans hb.size hal.size
  have HTY : Hid (∀ p, a9 = some p → ∃ cs, (w9.alloc (.cells #[.string name, .slice none 0 0] 79)).heap[p.block]? = some (.cells cs 79 (0, 0))) := Lib.hid fun p e => ((hX.below hal).typed p e).2.2
  go_wp2_with (at_builtin; refine wpList_appX rfl _ _ 33 rfl etC w6.heap.size rfl (hX.below hal) rfl (rdP_new w9 ⟨.string name, .slice none 0 0, rfl, rfl⟩ 79) (by omega) hsz9 ?_; intro a1 c1 w1 QX hk1 hb1; refine Hid.out ?_)
  have HF1 := Lib.hid (pt_snoc (F := fun x p => batM w6.heap.size w6 w9 x p.u p.v) (F' := fun x p => batM w6.heap.size w6 w1 x p.u p.v) (x0 := ⟨name, []⟩) (p0 := ⟨.string name, .slice none 0 0, rfl, rfl⟩) HF9.out (by rw [HL.out, hX.len]) (fun x p h => (h.below hal).keepC HTY.out (by decide) (by decide) hk1) ⟨rfl, none, 0, 0, rfl, rfl, [], OwX.nil _ _ _, fun i x p h => by simp at h⟩)
  have HA1 := Lib.hid (apart_snoc (p := ⟨.string name, .slice none 0 0, rfl, rfl⟩) HA9.out hX.len rfl)
  have HBW := Lib.hid ((hb.trans (hal.mono hb.size)).trans hb1)
  have HPUT := Lib.hid (putC_new (b := ⟨kd, ms⟩) HZ.out)
  rw [HL.out] at HPUT
  have HX0 : Hid ((l ++ [(⟨name, []⟩ : CQ)])[n_l]? = some ⟨name, []⟩) := Lib.hid (by rw [List.getElem?_append_right (by rw [HL.out]; exact Nat.le_refl _), HL.out, Nat.sub_self]; rfl)
  have HL1 : Hid ((l ++ [(⟨name, []⟩ : CQ)]).length = n_l + 1) := Lib.hid (by rw [List.length_append, HL.out]; rfl)
  have H64 : Hid ((⟨name, []⟩ : CQ).bs.length ≤ 63) := Lib.hid (Nat.zero_le _)
  have hp2 : Hid ((⟨name, []⟩ : CQ).nm = name ∧ (⟨name, []⟩ : CQ).bs = []) := Lib.hid ⟨rfl, rfl⟩
  change Hid (putC l name ⟨kd, ms⟩ = (l ++ [(⟨name, []⟩ : CQ)]).set n_l ⟨(⟨name, []⟩ : CQ).nm, (⟨name, []⟩ : CQ).bs ++ [⟨kd, ms⟩]⟩) at HPUT
  generalize (⟨name, []⟩ : CQ) = x0 at *
  generalize l ++ [x0] = L1 at *
  generalize ps ++ [⟨.string name, .slice none 0 0, rfl, rfl⟩] = qs at *
  clear hX hk1 hb hal hb1 kr0 kr1 hsz9 HTY HF9 HA9 HRWB hp2
  have hidx : n_l < n_l + 1 := Nat.lt_succ_self _
  obtain ⟨no, hno⟩ : ∃ no, n_l + 1 = no := ⟨_, rfl⟩
  rw [hno] at QX HA1 HL1 hidx ⊢
  clear hno
  generalize c1 = co at *
  refine Lib.hid ?_
  obtain ⟨g, cur, rfl, hgb0, -, -, -, -, -⟩ := QX.row (Nat.lt_of_le_of_lt (Nat.zero_le _) hidx)
  have HQL := Lib.hid QX.len
  obtain ⟨qx, hqx⟩ : ∃ q, qs[n_l]? = some q := ⟨_, List.getElem?_eq_getElem (by rw [HQL.out]; exact hidx)⟩
  obtain ⟨hu, ab, nb, cb, hv, hol, pbs, XP, hof⟩ := HF1.out n_l x0 qx HX0.out hqx
  have HPQ0 := Lib.hid (show pth qs n_l = qx by simp [pth, hqx])
  have HQX := Lib.hid hqx
  have HU := Lib.hid hu
  have HV := Lib.hid hv
  have HOL := Lib.hid hol
  have HOF := Lib.hid hof
  have hnb : nb ≤ 63 := by rw [← hol]; exact H64.out
  have t1 : w1.cell? ⟨g, n_l * 2 + 1, none⟩ = some (.slice ab nb cb) := by
    obtain ⟨b, off, e, t0, t1⟩ := QX.rd.cell n_l hidx
    simp only [Option.some.injEq, Addr.mk.injEq, and_true] at e
    obtain ⟨rfl, rfl⟩ := e
    rw [Nat.zero_add, HPQ0.out, HV.out] at t1
    exact t1
  have k0 := cell_below HBW.out (HBWB.out.cell 0 _ rfl)
  have k1 := cell_below HBW.out (HBWB.out.cell 1 _ rfl)
  have HXM := Lib.hid (HXWB.out.below HBW.out)
  have hbase := HBW.out.size
  clear hqx hu hv hol hof hgb0 HXWB HBWB
  go_upto_region 13 with fail
  have hb := (Below.refl w1.heap.size w1).drew
  have DB := hb
  have t1 := cell_below hb t1
  have k0 := cell_below hb k0
  have k1 := cell_below hb k1
  have HXM := Lib.hid (HXM.out.below hb)
  clear hb
  refine wp_region_any (by kernel_rfl) ?_
  change wpAny _ _ _ _ _ _ _ (World.drew _)
  generalize w1.drew = w4 at *
  refine wpAny_take (i := 0) (oi := ?oir1_0) (v := ?vr1_0) ?hir1_0 (by kernel_rfl) (by kernel_rfl) (by kernel_rfl) ?hqr1_0 ?hyr1_0 ?restr1_0
  case hir1_0 => simp only [List.getElem?_toArray, List.getElem?_cons_succ, List.getElem?_cons_zero]; rfl
  case hqr1_0 => exact fun _ _ _ h => h
  case hyr1_0 => (refine Or.inl ⟨by rfl, ?_⟩; intro w; go_simp; all_goals with_reducible rfl)
  try simp only [Act.put, List.setIfInBounds_toArray, List.set_cons_zero, List.set_cons_succ]
  refine wpAny_take (i := 1) (oi := ?oir1_1) (v := ?vr1_1) ?hir1_1 (by kernel_rfl) (by kernel_rfl) (by kernel_rfl) ?hqr1_1 ?hyr1_1 ?restr1_1
  case hir1_1 => simp only [List.getElem?_toArray, List.getElem?_cons_succ, List.getElem?_cons_zero]; rfl
  case hqr1_1 => exact fun _ _ _ h => h
  case hyr1_1 => (refine Or.inl ⟨by rfl, ?_⟩; intro w; go_simp; all_goals with_reducible rfl)
  try simp only [Act.put, List.setIfInBounds_toArray, List.set_cons_zero, List.set_cons_succ]
  refine wpAny_take (i := 2) (oi := ?oir1_2) (v := ?vr1_2) ?hir1_2 (by kernel_rfl) (by kernel_rfl) (by kernel_rfl) ?hqr1_2 ?hyr1_2 ?restr1_2
  case hir1_2 => simp only [List.getElem?_toArray, List.getElem?_cons_succ, List.getElem?_cons_zero]; rfl
  case hqr1_2 => exact fun _ _ _ h => h
  case hyr1_2 => (refine Or.inl ⟨by rfl, ?_⟩; intro w; go_simp; all_goals with_reducible rfl)
  try simp only [Act.put, List.setIfInBounds_toArray, List.set_cons_zero, List.set_cons_succ]
  refine wpAny_take (i := 3) (oi := ?oir1_3) (v := ?vr1_3) ?hir1_3 (by kernel_rfl) (by kernel_rfl) (by kernel_rfl) ?hqr1_3 ?hyr1_3 ?restr1_3
  case hir1_3 => simp only [List.getElem?_toArray, List.getElem?_cons_succ, List.getElem?_cons_zero]; rfl
  case hqr1_3 => exact fun _ _ _ h => h
  case hyr1_3 => (refine Or.inl ⟨by rfl, ?_⟩; intro w; go_simp; all_goals with_reducible rfl)
  try simp only [Act.put, List.setIfInBounds_toArray, List.set_cons_zero, List.set_cons_succ]
  refine wpAny_take (i := 4) (oi := ?oir1_4) (v := ?vr1_4) ?hir1_4 (by kernel_rfl) (by kernel_rfl) (by kernel_rfl) ?hqr1_4 ?hyr1_4 ?restr1_4
  case hir1_4 => simp only [List.getElem?_toArray, List.getElem?_cons_succ, List.getElem?_cons_zero]; rfl
  case hqr1_4 => exact fun _ _ _ h => h
  case hyr1_4 => (refine Or.inl ⟨by rfl, ?_⟩; intro w; go_simp; all_goals with_reducible rfl)
  try simp only [Act.put, List.setIfInBounds_toArray, List.set_cons_zero, List.set_cons_succ]
  refine wpAny_take (i := 5) (oi := ?oir1_5) (v := ?vr1_5) ?hir1_5 (by kernel_rfl) (by kernel_rfl) (by kernel_rfl) ?hqr1_5 ?hyr1_5 ?restr1_5
  case hir1_5 => simp only [List.getElem?_toArray, List.getElem?_cons_succ, List.getElem?_cons_zero]; rfl
  case hqr1_5 => exact fun _ _ _ h => h
  case hyr1_5 => (refine Or.inl ⟨by rfl, ?_⟩; intro w; go_simp; all_goals with_reducible rfl)
  try simp only [Act.put, List.setIfInBounds_toArray, List.set_cons_zero, List.set_cons_succ]
  refine wpAny_ready (rs := [6, 7]) (by kernel_rfl) (by simp) ?_
  refine (AllReady.cons (o := ?ob32_6) ?hob32_6 (fun K hK => ?kb32_6) (AllReady.cons (o := ?ob32_7) ?hob32_7 (fun K hK => ?kb32_7) AllReady.nil))
  case hob32_6 => simp only [List.getElem?_toArray, List.getElem?_cons_succ, List.getElem?_cons_zero]; rfl
  case hob32_7 => simp only [List.getElem?_toArray, List.getElem?_cons_succ, List.getElem?_cons_zero]; rfl
  case kb32_6 =>
    go_simp
    refine hK _ _ ?_
    clear hK K
    try simp only [Act.put, List.setIfInBounds_toArray, List.set_cons_zero, List.set_cons_succ]
    refine wpAny_ready (rs := [7]) (by kernel_rfl) (by simp) ?_
    refine (AllReady.cons (o := ?ob10_7) ?hob10_7 (fun K hK => ?kb10_7) AllReady.nil)
    case hob10_7 => simp only [List.getElem?_toArray, List.getElem?_cons_succ, List.getElem?_cons_zero]; rfl
    case kb10_7 =>
      go_simp
      go_wp2_with fail
      try simp only [Act.put, List.setIfInBounds_toArray, List.set_cons_zero, List.set_cons_succ]
      refine wpAny_ready (rs := [8]) (by kernel_rfl) (by simp) ?_
      refine (AllReady.cons (o := ?ob9_8) ?hob9_8 (fun K hK => ?kb9_8) AllReady.nil)
      case hob9_8 => simp only [List.getElem?_toArray, List.getElem?_cons_succ, List.getElem?_cons_zero]; rfl
      case kb9_8 =>
        go_simp
        have HBL7 := Lib.hid (Nat.le_trans hbase DB.size)
        refine (copied_any w4 kd HXM.out hnx).mono ?_
        rintro e w7 ⟨a7, c7, rfl, h7, hb⟩
        have H7 := Lib.hid h7
        have DB := DB.trans (hb.mono DB.size)
        have HB7 := Lib.hid hb
        have t1 := cell_below hb t1
        clear h7 k0 k1 hb
        go_wp2_with fail
        try simp only [Act.put, List.setIfInBounds_toArray, List.set_cons_zero, List.set_cons_succ]
        refine wpAny_ready (rs := [9]) (by kernel_rfl) (by simp) ?_
        refine (AllReady.cons (o := ?ob8_9) ?hob8_9 (fun K hK => ?kb8_9) AllReady.nil)
        case hob8_9 => simp only [List.getElem?_toArray, List.getElem?_cons_succ, List.getElem?_cons_zero]; rfl
        case kb8_9 =>
          go_simp
          have hal := below_al w7 (.cells #[.int .u8 ((kd : Nat) : Int), .slice a7 n_x c7] 37)
          have DB := DB.trans (hal.mono DB.size)
          have HAL := Lib.hid hal
          have t1 := cell_below hal t1
          clear hal
          go_wp2_with fail
          try simp only [Act.put, List.setIfInBounds_toArray, List.set_cons_zero, List.set_cons_succ]
          refine wpAny_ready (rs := [10]) (by kernel_rfl) (by simp) ?_
          refine AllReady.cons (o := ?ob3_0) ?hob3_0 (fun K hK => ?kb3_0) AllReady.nil
          case hob3_0 => simp only [List.getElem?_toArray, List.getElem?_cons_succ, List.getElem?_cons_zero]; rfl
          have HP9 := Lib.hid (XP.below DB)
          refine op_appX _ _ 27 rfl etQ w6.heap.size rfl HP9.out rfl (rdP_new w7 ⟨.int .u8 ((kd : Nat) : Int), .slice a7 n_x c7, rfl, rfl⟩ 37) (by omega) (Nat.le_trans hbase DB.size) ?_
          intro a8 c8 w8 X8 hk8 hb8
          have Q9 := QX.below DB
          have Q8 := Q9.keepN (fun p q e1 e2 e3 => by
            obtain ⟨_, _, cs1, f1⟩ := Q9.typed p e1
            obtain ⟨_, _, cs2, f2⟩ := HP9.out.typed q e2
            rw [e3, f2] at f1
            simp at f1) hk8
          have HB8 := Lib.hid hb8
          have HK8 := Lib.hid hk8
          have HX8 := Lib.hid X8
          have HDB := Lib.hid DB
          clear t1 hb8 hk8 X8 DB Q9
          have t1 : w8.cell? ⟨g, n_l * 2 + 1, none⟩ = some (.slice ab nb cb) := by
            obtain ⟨b, off, e, t0, t1⟩ := Q8.rd.cell n_l hidx
            simp only [Option.some.injEq, Addr.mk.injEq, and_true] at e
            obtain ⟨rfl, rfl⟩ := e
            rw [Nat.zero_add, HPQ0.out, HV.out] at t1
            exact t1
          have f1 := Q8.free (n_l * 2 + 1)
          refine hK _ _ ?_
          clear hK K
          try simp only [Act.put, List.setIfInBounds_toArray, List.set_cons_zero, List.set_cons_succ]
          refine wpAny_take (i := 11) (oi := ?oir5_11) (v := ?vr5_11) ?hir5_11 (by kernel_rfl) (by kernel_rfl) (by kernel_rfl) ?hqr5_11 ?hyr5_11 ?restr5_11
          case hir5_11 => simp only [List.getElem?_toArray, List.getElem?_cons_succ, List.getElem?_cons_zero]; rfl
          case hqr5_11 => exact fun _ _ _ h => h
          case hyr5_11 => (refine Or.inl ⟨by rfl, ?_⟩; intro w; go_simp; all_goals with_reducible rfl)
          try simp only [Act.put, List.setIfInBounds_toArray, List.set_cons_zero, List.set_cons_succ]
          refine wpAny_take (i := 12) (oi := ?oir5_12) (v := ?vr5_12) ?hir5_12 (by kernel_rfl) (by kernel_rfl) (by kernel_rfl) ?hqr5_12 ?hyr5_12 ?restr5_12
          case hir5_12 => simp only [List.getElem?_toArray, List.getElem?_cons_succ, List.getElem?_cons_zero]; rfl
          case hqr5_12 => exact fun _ _ _ h => h
          case hyr5_12 => (refine Or.inl ⟨by rfl, ?_⟩; intro w; go_simp; all_goals with_reducible rfl)
          try simp only [Act.put, List.setIfInBounds_toArray, List.set_cons_zero, List.set_cons_succ]
          refine wpAny_ready (rs := [13]) (by kernel_rfl) (by simp) ?_
          refine (AllReady.cons (o := ?ob7_13) ?hob7_13 (fun K hK => ?kb7_13) AllReady.nil)
          case hob7_13 => simp only [List.getElem?_toArray, List.getElem?_cons_succ, List.getElem?_cons_zero]; rfl
          case kb7_13 =>
            go_simp
            refine hK _ _ ?_
            clear hK K
            try simp only [Act.put, List.setIfInBounds_toArray, List.set_cons_zero, List.set_cons_succ]
            refine wpAny_done (by kernel_rfl) ?_ _
            have Q10 := Q8.setV hidx (x := .slice a8 (nb + 1) c8) rfl
            have hg8 : ∃ cs, w8.heap[g]? = some (.cells cs 79 (0, 0)) := (Q8.typed _ rfl).2.2
            have hgb : w6.heap.size ≤ g := (Q8.typed _ rfl).1
            have B8 : Below w6.heap.size w6 w8 := (HBW.out.trans (HDB.out.mono HBW.out.size)).trans HB8.out
            have BW : Below w6.heap.size w6 (w8.setCell ⟨g, n_l * 2 + 1, none⟩ (.slice a8 (nb + 1) c8)) := B8.setCell hgb _
            have B10 : Below w.heap.size w (w8.setCell ⟨g, n_l * 2 + 1, none⟩ (.slice a8 (nb + 1) c8)) := HB0.out.trans (BW.mono HB0.out.size)
            have HABT : ∀ p, ab = some p → ∃ cs, (w7.alloc (.cells #[.int .u8 ((kd : Nat) : Int), .slice a7 n_x c7] 37)).heap[p.block]? = some (.cells cs 37 (0, 0)) := fun p e => (HP9.out.typed p e).2.2
            have HFIN := Lib.hid (show ∀ (j : Nat) x p, (L1.set n_l ⟨x0.nm, x0.bs ++ [⟨kd, ms⟩]⟩)[j]? = some x → (qs.set n_l ⟨(pth qs n_l).u, .slice a8 (nb + 1) c8, (pth qs n_l).hu, rfl⟩)[j]? = some p → batM w6.heap.size w6 (w8.setCell ⟨g, n_l * 2 + 1, none⟩ (.slice a8 (nb + 1) c8)) x p.u p.v from fun j x p h1 h2 => by
              obtain ⟨csg, hcg⟩ := hg8
              rcases pset_at h2 with ⟨e0, rfl⟩ | ⟨h3, h4⟩
              · rcases cset_at h1 with ⟨_, rfl⟩ | ⟨h5, _⟩
                · refine ⟨?_, a8, nb + 1, c8, rfl, OwM.keepT (OwM.snoc (y := ⟨kd, ms⟩) (p := ⟨.int .u8 ((kd : Nat) : Int), .slice a7 n_x c7, rfl, rfl⟩) HOL.out HP9.out (fun i y q e1 e2 => (HOF.out i y q e1 e2).below HDB.out) HX8.out HK8.out ⟨rfl, by show kd < 256; omega, a7, n_x, c7, rfl, .inr ((H7.out.below HAL.out).base_le HBL7.out)⟩) hcg (by decide) (by decide) (keepB_cell _ _ _ _)⟩
                  show (pth qs n_l).u = _
                  rw [HPQ0.out]
                  exact HU.out
                · exact absurd e0 h5
              · rcases cset_at h1 with ⟨h5, _⟩ | ⟨_, h6⟩
                · exact absurd h5 h3
                · have hj : j < qs.length := (List.getElem?_eq_some_iff.1 h4).1
                  refine (((HF1.out j x p h6 h4).below HDB.out).keepA HABT (fun p2 e1 e2 => ?_) HK8.out).keepT hcg (by decide) (by decide) (keepB_cell _ _ _ _)
                  exact HA1.out j n_l p qx p2.block (by rw [← HQL.out]; exact hj) hidx h3 h4 HQX.out e2 (by rw [HV.out, e1]; rfl))
            clear t1 f1
            go_wp2_with fail
            go_ret2
            refine ⟨some ⟨g, 0, none⟩, co, ?_, ?_, B10⟩
            · rw [HPUT.out, List.length_set, HL1.out]; rfl
            · rw [HPUT.out, List.length_set, HL1.out]
              refine ⟨by rw [List.length_set]; exact HL1.out, _, Q10.base_le HB0.out.size, fun j x p h1 h2 => ?_⟩
              obtain ⟨k1, ak, nk, ck, k2, k3⟩ := HFIN.out j x p h1 h2
              obtain ⟨k4, qk, k5, k6⟩ := k3.base_le HB0.out.size
              exact ⟨k1, ak, nk, ck, k2, k4, qk, k5, fun m y q f1 f2 => (k6 m y q f1 f2).any⟩
  case kb32_7 =>
    go_simp
    go_wp2_with fail
    try simp only [Act.put, List.setIfInBounds_toArray, List.set_cons_zero, List.set_cons_succ]
    refine wpAny_ready (rs := [6, 8]) (by kernel_rfl) (by simp) ?_
    refine (AllReady.cons (o := ?ob31_6) ?hob31_6 (fun K hK => ?kb31_6) (AllReady.cons (o := ?ob31_8) ?hob31_8 (fun K hK => ?kb31_8) AllReady.nil))
    case hob31_6 => simp only [List.getElem?_toArray, List.getElem?_cons_succ, List.getElem?_cons_zero]; rfl
    case hob31_8 => simp only [List.getElem?_toArray, List.getElem?_cons_succ, List.getElem?_cons_zero]; rfl
    case kb31_6 =>
      go_simp
      refine hK _ _ ?_
      clear hK K
      try simp only [Act.put, List.setIfInBounds_toArray, List.set_cons_zero, List.set_cons_succ]
      refine wpAny_ready (rs := [8]) (by kernel_rfl) (by simp) ?_
      refine (AllReady.cons (o := ?ob17_8) ?hob17_8 (fun K hK => ?kb17_8) AllReady.nil)
      case hob17_8 => simp only [List.getElem?_toArray, List.getElem?_cons_succ, List.getElem?_cons_zero]; rfl
      case kb17_8 =>
        go_simp
        have HBL7 := Lib.hid (Nat.le_trans hbase DB.size)
        refine (copied_any w4 kd HXM.out hnx).mono ?_
        rintro e w7 ⟨a7, c7, rfl, h7, hb⟩
        have H7 := Lib.hid h7
        have DB := DB.trans (hb.mono DB.size)
        have HB7 := Lib.hid hb
        have t1 := cell_below hb t1
        clear h7 k0 k1 hb
        go_wp2_with fail
        try simp only [Act.put, List.setIfInBounds_toArray, List.set_cons_zero, List.set_cons_succ]
        refine wpAny_ready (rs := [9]) (by kernel_rfl) (by simp) ?_
        refine (AllReady.cons (o := ?ob16_9) ?hob16_9 (fun K hK => ?kb16_9) AllReady.nil)
        case hob16_9 => simp only [List.getElem?_toArray, List.getElem?_cons_succ, List.getElem?_cons_zero]; rfl
        case kb16_9 =>
          go_simp
          have hal := below_al w7 (.cells #[.int .u8 ((kd : Nat) : Int), .slice a7 n_x c7] 37)
          have DB := DB.trans (hal.mono DB.size)
          have HAL := Lib.hid hal
          have t1 := cell_below hal t1
          clear hal
          go_wp2_with fail
          try simp only [Act.put, List.setIfInBounds_toArray, List.set_cons_zero, List.set_cons_succ]
          refine wpAny_ready (rs := [10]) (by kernel_rfl) (by simp) ?_
          refine AllReady.cons (o := ?ob11_0) ?hob11_0 (fun K hK => ?kb11_0) AllReady.nil
          case hob11_0 => simp only [List.getElem?_toArray, List.getElem?_cons_succ, List.getElem?_cons_zero]; rfl
          have HP9 := Lib.hid (XP.below DB)
          refine op_appX _ _ 27 rfl etQ w6.heap.size rfl HP9.out rfl (rdP_new w7 ⟨.int .u8 ((kd : Nat) : Int), .slice a7 n_x c7, rfl, rfl⟩ 37) (by omega) (Nat.le_trans hbase DB.size) ?_
          intro a8 c8 w8 X8 hk8 hb8
          have Q9 := QX.below DB
          have Q8 := Q9.keepN (fun p q e1 e2 e3 => by
            obtain ⟨_, _, cs1, f1⟩ := Q9.typed p e1
            obtain ⟨_, _, cs2, f2⟩ := HP9.out.typed q e2
            rw [e3, f2] at f1
            simp at f1) hk8
          have HB8 := Lib.hid hb8
          have HK8 := Lib.hid hk8
          have HX8 := Lib.hid X8
          have HDB := Lib.hid DB
          clear t1 hb8 hk8 X8 DB Q9
          have t1 : w8.cell? ⟨g, n_l * 2 + 1, none⟩ = some (.slice ab nb cb) := by
            obtain ⟨b, off, e, t0, t1⟩ := Q8.rd.cell n_l hidx
            simp only [Option.some.injEq, Addr.mk.injEq, and_true] at e
            obtain ⟨rfl, rfl⟩ := e
            rw [Nat.zero_add, HPQ0.out, HV.out] at t1
            exact t1
          have f1 := Q8.free (n_l * 2 + 1)
          refine hK _ _ ?_
          clear hK K
          try simp only [Act.put, List.setIfInBounds_toArray, List.set_cons_zero, List.set_cons_succ]
          refine wpAny_take (i := 11) (oi := ?oir13_11) (v := ?vr13_11) ?hir13_11 (by kernel_rfl) (by kernel_rfl) (by kernel_rfl) ?hqr13_11 ?hyr13_11 ?restr13_11
          case hir13_11 => simp only [List.getElem?_toArray, List.getElem?_cons_succ, List.getElem?_cons_zero]; rfl
          case hqr13_11 => exact fun _ _ _ h => h
          case hyr13_11 => (refine Or.inl ⟨by rfl, ?_⟩; intro w; go_simp; all_goals with_reducible rfl)
          try simp only [Act.put, List.setIfInBounds_toArray, List.set_cons_zero, List.set_cons_succ]
          refine wpAny_take (i := 12) (oi := ?oir13_12) (v := ?vr13_12) ?hir13_12 (by kernel_rfl) (by kernel_rfl) (by kernel_rfl) ?hqr13_12 ?hyr13_12 ?restr13_12
          case hir13_12 => simp only [List.getElem?_toArray, List.getElem?_cons_succ, List.getElem?_cons_zero]; rfl
          case hqr13_12 => exact fun _ _ _ h => h
          case hyr13_12 => (refine Or.inl ⟨by rfl, ?_⟩; intro w; go_simp; all_goals with_reducible rfl)
          try simp only [Act.put, List.setIfInBounds_toArray, List.set_cons_zero, List.set_cons_succ]
          refine wpAny_ready (rs := [13]) (by kernel_rfl) (by simp) ?_
          refine (AllReady.cons (o := ?ob15_13) ?hob15_13 (fun K hK => ?kb15_13) AllReady.nil)
          case hob15_13 => simp only [List.getElem?_toArray, List.getElem?_cons_succ, List.getElem?_cons_zero]; rfl
          case kb15_13 =>
            go_simp
            refine hK _ _ ?_
            clear hK K
            try simp only [Act.put, List.setIfInBounds_toArray, List.set_cons_zero, List.set_cons_succ]
            refine wpAny_done (by kernel_rfl) ?_ _
            have Q10 := Q8.setV hidx (x := .slice a8 (nb + 1) c8) rfl
            have hg8 : ∃ cs, w8.heap[g]? = some (.cells cs 79 (0, 0)) := (Q8.typed _ rfl).2.2
            have hgb : w6.heap.size ≤ g := (Q8.typed _ rfl).1
            have B8 : Below w6.heap.size w6 w8 := (HBW.out.trans (HDB.out.mono HBW.out.size)).trans HB8.out
            have BW : Below w6.heap.size w6 (w8.setCell ⟨g, n_l * 2 + 1, none⟩ (.slice a8 (nb + 1) c8)) := B8.setCell hgb _
            have B10 : Below w.heap.size w (w8.setCell ⟨g, n_l * 2 + 1, none⟩ (.slice a8 (nb + 1) c8)) := HB0.out.trans (BW.mono HB0.out.size)
            have HABT : ∀ p, ab = some p → ∃ cs, (w7.alloc (.cells #[.int .u8 ((kd : Nat) : Int), .slice a7 n_x c7] 37)).heap[p.block]? = some (.cells cs 37 (0, 0)) := fun p e => (HP9.out.typed p e).2.2
            have HFIN := Lib.hid (show ∀ (j : Nat) x p, (L1.set n_l ⟨x0.nm, x0.bs ++ [⟨kd, ms⟩]⟩)[j]? = some x → (qs.set n_l ⟨(pth qs n_l).u, .slice a8 (nb + 1) c8, (pth qs n_l).hu, rfl⟩)[j]? = some p → batM w6.heap.size w6 (w8.setCell ⟨g, n_l * 2 + 1, none⟩ (.slice a8 (nb + 1) c8)) x p.u p.v from fun j x p h1 h2 => by
              obtain ⟨csg, hcg⟩ := hg8
              rcases pset_at h2 with ⟨e0, rfl⟩ | ⟨h3, h4⟩
              · rcases cset_at h1 with ⟨_, rfl⟩ | ⟨h5, _⟩
                · refine ⟨?_, a8, nb + 1, c8, rfl, OwM.keepT (OwM.snoc (y := ⟨kd, ms⟩) (p := ⟨.int .u8 ((kd : Nat) : Int), .slice a7 n_x c7, rfl, rfl⟩) HOL.out HP9.out (fun i y q e1 e2 => (HOF.out i y q e1 e2).below HDB.out) HX8.out HK8.out ⟨rfl, by show kd < 256; omega, a7, n_x, c7, rfl, .inr ((H7.out.below HAL.out).base_le HBL7.out)⟩) hcg (by decide) (by decide) (keepB_cell _ _ _ _)⟩
                  show (pth qs n_l).u = _
                  rw [HPQ0.out]
                  exact HU.out
                · exact absurd e0 h5
              · rcases cset_at h1 with ⟨h5, _⟩ | ⟨_, h6⟩
                · exact absurd h5 h3
                · have hj : j < qs.length := (List.getElem?_eq_some_iff.1 h4).1
                  refine (((HF1.out j x p h6 h4).below HDB.out).keepA HABT (fun p2 e1 e2 => ?_) HK8.out).keepT hcg (by decide) (by decide) (keepB_cell _ _ _ _)
                  exact HA1.out j n_l p qx p2.block (by rw [← HQL.out]; exact hj) hidx h3 h4 HQX.out e2 (by rw [HV.out, e1]; rfl))
            clear t1 f1
            go_wp2_with fail
            go_ret2
            refine ⟨some ⟨g, 0, none⟩, co, ?_, ?_, B10⟩
            · rw [HPUT.out, List.length_set, HL1.out]; rfl
            · rw [HPUT.out, List.length_set, HL1.out]
              refine ⟨by rw [List.length_set]; exact HL1.out, _, Q10.base_le HB0.out.size, fun j x p h1 h2 => ?_⟩
              obtain ⟨k1, ak, nk, ck, k2, k3⟩ := HFIN.out j x p h1 h2
              obtain ⟨k4, qk, k5, k6⟩ := k3.base_le HB0.out.size
              exact ⟨k1, ak, nk, ck, k2, k4, qk, k5, fun m y q f1 f2 => (k6 m y q f1 f2).any⟩
    case kb31_8 =>
      go_simp
      have HBL7 := Lib.hid (Nat.le_trans hbase DB.size)
      refine (copied_any w4 kd HXM.out hnx).mono ?_
      rintro e w7 ⟨a7, c7, rfl, h7, hb⟩
      have H7 := Lib.hid h7
      have DB := DB.trans (hb.mono DB.size)
      have HB7 := Lib.hid hb
      have t1 := cell_below hb t1
      clear h7 k0 k1 hb
      go_wp2_with fail
      try simp only [Act.put, List.setIfInBounds_toArray, List.set_cons_zero, List.set_cons_succ]
      refine wpAny_ready (rs := [6, 9]) (by kernel_rfl) (by simp) ?_
      refine (AllReady.cons (o := ?ob30_6) ?hob30_6 (fun K hK => ?kb30_6) (AllReady.cons (o := ?ob30_9) ?hob30_9 (fun K hK => ?kb30_9) AllReady.nil))
      case hob30_6 => simp only [List.getElem?_toArray, List.getElem?_cons_succ, List.getElem?_cons_zero]; rfl
      case hob30_9 => simp only [List.getElem?_toArray, List.getElem?_cons_succ, List.getElem?_cons_zero]; rfl
      case kb30_6 =>
        go_simp
        refine hK _ _ ?_
        clear hK K
        try simp only [Act.put, List.setIfInBounds_toArray, List.set_cons_zero, List.set_cons_succ]
        refine wpAny_ready (rs := [9]) (by kernel_rfl) (by simp) ?_
        refine (AllReady.cons (o := ?ob23_9) ?hob23_9 (fun K hK => ?kb23_9) AllReady.nil)
        case hob23_9 => simp only [List.getElem?_toArray, List.getElem?_cons_succ, List.getElem?_cons_zero]; rfl
        case kb23_9 =>
          go_simp
          have hal := below_al w7 (.cells #[.int .u8 ((kd : Nat) : Int), .slice a7 n_x c7] 37)
          have DB := DB.trans (hal.mono DB.size)
          have HAL := Lib.hid hal
          have t1 := cell_below hal t1
          clear hal
          go_wp2_with fail
          try simp only [Act.put, List.setIfInBounds_toArray, List.set_cons_zero, List.set_cons_succ]
          refine wpAny_ready (rs := [10]) (by kernel_rfl) (by simp) ?_
          refine AllReady.cons (o := ?ob18_0) ?hob18_0 (fun K hK => ?kb18_0) AllReady.nil
          case hob18_0 => simp only [List.getElem?_toArray, List.getElem?_cons_succ, List.getElem?_cons_zero]; rfl
          have HP9 := Lib.hid (XP.below DB)
          refine op_appX _ _ 27 rfl etQ w6.heap.size rfl HP9.out rfl (rdP_new w7 ⟨.int .u8 ((kd : Nat) : Int), .slice a7 n_x c7, rfl, rfl⟩ 37) (by omega) (Nat.le_trans hbase DB.size) ?_
          intro a8 c8 w8 X8 hk8 hb8
          have Q9 := QX.below DB
          have Q8 := Q9.keepN (fun p q e1 e2 e3 => by
            obtain ⟨_, _, cs1, f1⟩ := Q9.typed p e1
            obtain ⟨_, _, cs2, f2⟩ := HP9.out.typed q e2
            rw [e3, f2] at f1
            simp at f1) hk8
          have HB8 := Lib.hid hb8
          have HK8 := Lib.hid hk8
          have HX8 := Lib.hid X8
          have HDB := Lib.hid DB
          clear t1 hb8 hk8 X8 DB Q9
          have t1 : w8.cell? ⟨g, n_l * 2 + 1, none⟩ = some (.slice ab nb cb) := by
            obtain ⟨b, off, e, t0, t1⟩ := Q8.rd.cell n_l hidx
            simp only [Option.some.injEq, Addr.mk.injEq, and_true] at e
            obtain ⟨rfl, rfl⟩ := e
            rw [Nat.zero_add, HPQ0.out, HV.out] at t1
            exact t1
          have f1 := Q8.free (n_l * 2 + 1)
          refine hK _ _ ?_
          clear hK K
          try simp only [Act.put, List.setIfInBounds_toArray, List.set_cons_zero, List.set_cons_succ]
          refine wpAny_take (i := 11) (oi := ?oir20_11) (v := ?vr20_11) ?hir20_11 (by kernel_rfl) (by kernel_rfl) (by kernel_rfl) ?hqr20_11 ?hyr20_11 ?restr20_11
          case hir20_11 => simp only [List.getElem?_toArray, List.getElem?_cons_succ, List.getElem?_cons_zero]; rfl
          case hqr20_11 => exact fun _ _ _ h => h
          case hyr20_11 => (refine Or.inl ⟨by rfl, ?_⟩; intro w; go_simp; all_goals with_reducible rfl)
          try simp only [Act.put, List.setIfInBounds_toArray, List.set_cons_zero, List.set_cons_succ]
          refine wpAny_take (i := 12) (oi := ?oir20_12) (v := ?vr20_12) ?hir20_12 (by kernel_rfl) (by kernel_rfl) (by kernel_rfl) ?hqr20_12 ?hyr20_12 ?restr20_12
          case hir20_12 => simp only [List.getElem?_toArray, List.getElem?_cons_succ, List.getElem?_cons_zero]; rfl
          case hqr20_12 => exact fun _ _ _ h => h
          case hyr20_12 => (refine Or.inl ⟨by rfl, ?_⟩; intro w; go_simp; all_goals with_reducible rfl)
          try simp only [Act.put, List.setIfInBounds_toArray, List.set_cons_zero, List.set_cons_succ]
          refine wpAny_ready (rs := [13]) (by kernel_rfl) (by simp) ?_
          refine (AllReady.cons (o := ?ob22_13) ?hob22_13 (fun K hK => ?kb22_13) AllReady.nil)
          case hob22_13 => simp only [List.getElem?_toArray, List.getElem?_cons_succ, List.getElem?_cons_zero]; rfl
          case kb22_13 =>
            go_simp
            refine hK _ _ ?_
            clear hK K
            try simp only [Act.put, List.setIfInBounds_toArray, List.set_cons_zero, List.set_cons_succ]
            refine wpAny_done (by kernel_rfl) ?_ _
            have Q10 := Q8.setV hidx (x := .slice a8 (nb + 1) c8) rfl
            have hg8 : ∃ cs, w8.heap[g]? = some (.cells cs 79 (0, 0)) := (Q8.typed _ rfl).2.2
            have hgb : w6.heap.size ≤ g := (Q8.typed _ rfl).1
            have B8 : Below w6.heap.size w6 w8 := (HBW.out.trans (HDB.out.mono HBW.out.size)).trans HB8.out
            have BW : Below w6.heap.size w6 (w8.setCell ⟨g, n_l * 2 + 1, none⟩ (.slice a8 (nb + 1) c8)) := B8.setCell hgb _
            have B10 : Below w.heap.size w (w8.setCell ⟨g, n_l * 2 + 1, none⟩ (.slice a8 (nb + 1) c8)) := HB0.out.trans (BW.mono HB0.out.size)
            have HABT : ∀ p, ab = some p → ∃ cs, (w7.alloc (.cells #[.int .u8 ((kd : Nat) : Int), .slice a7 n_x c7] 37)).heap[p.block]? = some (.cells cs 37 (0, 0)) := fun p e => (HP9.out.typed p e).2.2
            have HFIN := Lib.hid (show ∀ (j : Nat) x p, (L1.set n_l ⟨x0.nm, x0.bs ++ [⟨kd, ms⟩]⟩)[j]? = some x → (qs.set n_l ⟨(pth qs n_l).u, .slice a8 (nb + 1) c8, (pth qs n_l).hu, rfl⟩)[j]? = some p → batM w6.heap.size w6 (w8.setCell ⟨g, n_l * 2 + 1, none⟩ (.slice a8 (nb + 1) c8)) x p.u p.v from fun j x p h1 h2 => by
              obtain ⟨csg, hcg⟩ := hg8
              rcases pset_at h2 with ⟨e0, rfl⟩ | ⟨h3, h4⟩
              · rcases cset_at h1 with ⟨_, rfl⟩ | ⟨h5, _⟩
                · refine ⟨?_, a8, nb + 1, c8, rfl, OwM.keepT (OwM.snoc (y := ⟨kd, ms⟩) (p := ⟨.int .u8 ((kd : Nat) : Int), .slice a7 n_x c7, rfl, rfl⟩) HOL.out HP9.out (fun i y q e1 e2 => (HOF.out i y q e1 e2).below HDB.out) HX8.out HK8.out ⟨rfl, by show kd < 256; omega, a7, n_x, c7, rfl, .inr ((H7.out.below HAL.out).base_le HBL7.out)⟩) hcg (by decide) (by decide) (keepB_cell _ _ _ _)⟩
                  show (pth qs n_l).u = _
                  rw [HPQ0.out]
                  exact HU.out
                · exact absurd e0 h5
              · rcases cset_at h1 with ⟨h5, _⟩ | ⟨_, h6⟩
                · exact absurd h5 h3
                · have hj : j < qs.length := (List.getElem?_eq_some_iff.1 h4).1
                  refine (((HF1.out j x p h6 h4).below HDB.out).keepA HABT (fun p2 e1 e2 => ?_) HK8.out).keepT hcg (by decide) (by decide) (keepB_cell _ _ _ _)
                  exact HA1.out j n_l p qx p2.block (by rw [← HQL.out]; exact hj) hidx h3 h4 HQX.out e2 (by rw [HV.out, e1]; rfl))
            clear t1 f1
            go_wp2_with fail
            go_ret2
            refine ⟨some ⟨g, 0, none⟩, co, ?_, ?_, B10⟩
            · rw [HPUT.out, List.length_set, HL1.out]; rfl
            · rw [HPUT.out, List.length_set, HL1.out]
              refine ⟨by rw [List.length_set]; exact HL1.out, _, Q10.base_le HB0.out.size, fun j x p h1 h2 => ?_⟩
              obtain ⟨k1, ak, nk, ck, k2, k3⟩ := HFIN.out j x p h1 h2
              obtain ⟨k4, qk, k5, k6⟩ := k3.base_le HB0.out.size
              exact ⟨k1, ak, nk, ck, k2, k4, qk, k5, fun m y q f1 f2 => (k6 m y q f1 f2).any⟩
      case kb30_9 =>
        go_simp
        have hal := below_al w7 (.cells #[.int .u8 ((kd : Nat) : Int), .slice a7 n_x c7] 37)
        have DB := DB.trans (hal.mono DB.size)
        have HAL := Lib.hid hal
        have t1 := cell_below hal t1
        clear hal
        go_wp2_with fail
        try simp only [Act.put, List.setIfInBounds_toArray, List.set_cons_zero, List.set_cons_succ]
        refine wpAny_ready (rs := [6]) (by kernel_rfl) (by simp) ?_
        refine (AllReady.cons (o := ?ob29_6) ?hob29_6 (fun K hK => ?kb29_6) AllReady.nil)
        case hob29_6 => simp only [List.getElem?_toArray, List.getElem?_cons_succ, List.getElem?_cons_zero]; rfl
        case kb29_6 =>
          go_simp
          refine hK _ _ ?_
          clear hK K
          try simp only [Act.put, List.setIfInBounds_toArray, List.set_cons_zero, List.set_cons_succ]
          refine wpAny_ready (rs := [10]) (by kernel_rfl) (by simp) ?_
          refine AllReady.cons (o := ?ob24_0) ?hob24_0 (fun K hK => ?kb24_0) AllReady.nil
          case hob24_0 => simp only [List.getElem?_toArray, List.getElem?_cons_succ, List.getElem?_cons_zero]; rfl
          have HP9 := Lib.hid (XP.below DB)
          refine op_appX _ _ 27 rfl etQ w6.heap.size rfl HP9.out rfl (rdP_new w7 ⟨.int .u8 ((kd : Nat) : Int), .slice a7 n_x c7, rfl, rfl⟩ 37) (by omega) (Nat.le_trans hbase DB.size) ?_
          intro a8 c8 w8 X8 hk8 hb8
          have Q9 := QX.below DB
          have Q8 := Q9.keepN (fun p q e1 e2 e3 => by
            obtain ⟨_, _, cs1, f1⟩ := Q9.typed p e1
            obtain ⟨_, _, cs2, f2⟩ := HP9.out.typed q e2
            rw [e3, f2] at f1
            simp at f1) hk8
          have HB8 := Lib.hid hb8
          have HK8 := Lib.hid hk8
          have HX8 := Lib.hid X8
          have HDB := Lib.hid DB
          clear t1 hb8 hk8 X8 DB Q9
          have t1 : w8.cell? ⟨g, n_l * 2 + 1, none⟩ = some (.slice ab nb cb) := by
            obtain ⟨b, off, e, t0, t1⟩ := Q8.rd.cell n_l hidx
            simp only [Option.some.injEq, Addr.mk.injEq, and_true] at e
            obtain ⟨rfl, rfl⟩ := e
            rw [Nat.zero_add, HPQ0.out, HV.out] at t1
            exact t1
          have f1 := Q8.free (n_l * 2 + 1)
          refine hK _ _ ?_
          clear hK K
          try simp only [Act.put, List.setIfInBounds_toArray, List.set_cons_zero, List.set_cons_succ]
          refine wpAny_take (i := 11) (oi := ?oir26_11) (v := ?vr26_11) ?hir26_11 (by kernel_rfl) (by kernel_rfl) (by kernel_rfl) ?hqr26_11 ?hyr26_11 ?restr26_11
          case hir26_11 => simp only [List.getElem?_toArray, List.getElem?_cons_succ, List.getElem?_cons_zero]; rfl
          case hqr26_11 => exact fun _ _ _ h => h
          case hyr26_11 => (refine Or.inl ⟨by rfl, ?_⟩; intro w; go_simp; all_goals with_reducible rfl)
          try simp only [Act.put, List.setIfInBounds_toArray, List.set_cons_zero, List.set_cons_succ]
          refine wpAny_take (i := 12) (oi := ?oir26_12) (v := ?vr26_12) ?hir26_12 (by kernel_rfl) (by kernel_rfl) (by kernel_rfl) ?hqr26_12 ?hyr26_12 ?restr26_12
          case hir26_12 => simp only [List.getElem?_toArray, List.getElem?_cons_succ, List.getElem?_cons_zero]; rfl
          case hqr26_12 => exact fun _ _ _ h => h
          case hyr26_12 => (refine Or.inl ⟨by rfl, ?_⟩; intro w; go_simp; all_goals with_reducible rfl)
          try simp only [Act.put, List.setIfInBounds_toArray, List.set_cons_zero, List.set_cons_succ]
          refine wpAny_ready (rs := [13]) (by kernel_rfl) (by simp) ?_
          refine (AllReady.cons (o := ?ob28_13) ?hob28_13 (fun K hK => ?kb28_13) AllReady.nil)
          case hob28_13 => simp only [List.getElem?_toArray, List.getElem?_cons_succ, List.getElem?_cons_zero]; rfl
          case kb28_13 =>
            go_simp
            refine hK _ _ ?_
            clear hK K
            try simp only [Act.put, List.setIfInBounds_toArray, List.set_cons_zero, List.set_cons_succ]
            refine wpAny_done (by kernel_rfl) ?_ _
            have Q10 := Q8.setV hidx (x := .slice a8 (nb + 1) c8) rfl
            have hg8 : ∃ cs, w8.heap[g]? = some (.cells cs 79 (0, 0)) := (Q8.typed _ rfl).2.2
            have hgb : w6.heap.size ≤ g := (Q8.typed _ rfl).1
            have B8 : Below w6.heap.size w6 w8 := (HBW.out.trans (HDB.out.mono HBW.out.size)).trans HB8.out
            have BW : Below w6.heap.size w6 (w8.setCell ⟨g, n_l * 2 + 1, none⟩ (.slice a8 (nb + 1) c8)) := B8.setCell hgb _
            have B10 : Below w.heap.size w (w8.setCell ⟨g, n_l * 2 + 1, none⟩ (.slice a8 (nb + 1) c8)) := HB0.out.trans (BW.mono HB0.out.size)
            have HABT : ∀ p, ab = some p → ∃ cs, (w7.alloc (.cells #[.int .u8 ((kd : Nat) : Int), .slice a7 n_x c7] 37)).heap[p.block]? = some (.cells cs 37 (0, 0)) := fun p e => (HP9.out.typed p e).2.2
            have HFIN := Lib.hid (show ∀ (j : Nat) x p, (L1.set n_l ⟨x0.nm, x0.bs ++ [⟨kd, ms⟩]⟩)[j]? = some x → (qs.set n_l ⟨(pth qs n_l).u, .slice a8 (nb + 1) c8, (pth qs n_l).hu, rfl⟩)[j]? = some p → batM w6.heap.size w6 (w8.setCell ⟨g, n_l * 2 + 1, none⟩ (.slice a8 (nb + 1) c8)) x p.u p.v from fun j x p h1 h2 => by
              obtain ⟨csg, hcg⟩ := hg8
              rcases pset_at h2 with ⟨e0, rfl⟩ | ⟨h3, h4⟩
              · rcases cset_at h1 with ⟨_, rfl⟩ | ⟨h5, _⟩
                · refine ⟨?_, a8, nb + 1, c8, rfl, OwM.keepT (OwM.snoc (y := ⟨kd, ms⟩) (p := ⟨.int .u8 ((kd : Nat) : Int), .slice a7 n_x c7, rfl, rfl⟩) HOL.out HP9.out (fun i y q e1 e2 => (HOF.out i y q e1 e2).below HDB.out) HX8.out HK8.out ⟨rfl, by show kd < 256; omega, a7, n_x, c7, rfl, .inr ((H7.out.below HAL.out).base_le HBL7.out)⟩) hcg (by decide) (by decide) (keepB_cell _ _ _ _)⟩
                  show (pth qs n_l).u = _
                  rw [HPQ0.out]
                  exact HU.out
                · exact absurd e0 h5
              · rcases cset_at h1 with ⟨h5, _⟩ | ⟨_, h6⟩
                · exact absurd h5 h3
                · have hj : j < qs.length := (List.getElem?_eq_some_iff.1 h4).1
                  refine (((HF1.out j x p h6 h4).below HDB.out).keepA HABT (fun p2 e1 e2 => ?_) HK8.out).keepT hcg (by decide) (by decide) (keepB_cell _ _ _ _)
                  exact HA1.out j n_l p qx p2.block (by rw [← HQL.out]; exact hj) hidx h3 h4 HQX.out e2 (by rw [HV.out, e1]; rfl))
            clear t1 f1
            go_wp2_with fail
            go_ret2
            refine ⟨some ⟨g, 0, none⟩, co, ?_, ?_, B10⟩
            · rw [HPUT.out, List.length_set, HL1.out]; rfl
            · rw [HPUT.out, List.length_set, HL1.out]
              refine ⟨by rw [List.length_set]; exact HL1.out, _, Q10.base_le HB0.out.size, fun j x p h1 h2 => ?_⟩
              obtain ⟨k1, ak, nk, ck, k2, k3⟩ := HFIN.out j x p h1 h2
              obtain ⟨k4, qk, k5, k6⟩ := k3.base_le HB0.out.size
              exact ⟨k1, ak, nk, ck, k2, k4, qk, k5, fun m y q f1 f2 => (k6 m y q f1 f2).any⟩

set_option maxRecDepth 100000 in
set_option maxHeartbeats 8000000 in
theorem PutAt_any (w : World) (cn : Int) (hc1 : 1 ≤ cn) (hc2 : cn ≤ 10) (kd : Nat) (hk1 : 1 ≤ kd) (hk2 : kd ≤ 3) {a_l : Option Addr} {n_l c_l : Nat} {l : List CQ} (h_l : RdC w a_l n_l c_l l) (hW : RecW kd cn l) (name : ByteArray) (hod : oddS name = false) {a_x : Option Addr} {n_x c_x : Nat} {ms : List Int} (h_x : RdI w a_x n_x c_x ms) (hbf : ballC kd ms cn = 0) {i : Nat} (HZ : Hid (plcI l name = (i : Nat))) (hidx : i < n_l) (h63 : ∀ x, l[i]? = some x → x.bs.length ≤ 63) : Calls Try.prog 10 #[.slice a_l n_l c_l, .int .i64 cn, .int .u8 ((kd : Nat) : Int), .string name, .agg #[.int .u8 ((kd : Nat) : Int), .slice a_x n_x c_x]] w (RetPC w (putC l name ⟨kd, ms⟩)) := by
  have HW := Lib.hid hW
  have HBF := Lib.hid hbf
  have HOD := Lib.hid hod
  have HL := Lib.hid h_l.len
  have hn3 : n_l ≤ 3 := by rw [← HL.out]; exact hW.len
  have hnl : n_l ≤ 1099511627776 := by omega
  have hnx : n_x ≤ 1099511627776 := by have := ballC_len hbf; have := h_x.len; omega
  have HSM := Lib.hid hW.small
  clear hW hbf hod
  have B0 : Below w.heap.size w w := Below.refl _ _
  have h_l_0 := h_l
  have h_x_0 := h_x
  go_enter Try.func10, Try.ntmps10
  have hb := below_al w (.cells #[.int .u8 ((kd : Nat) : Int), .slice a_x n_x c_x] 37)
  have B1 := B0.trans (hb.mono B0.size)
  have h_l_1 := h_l_0.below batE_lasts hb
  have h_x_1 := h_x_0.below hb
  clear hb B0 h_l_0 h_x_0
  have h_b_1 := PRow.new 37 w #[.int .u8 ((kd : Nat) : Int), .slice a_x n_x c_x]
  go_wp2_with fail
  generalize (w.alloc (.cells #[.int .u8 ((kd : Nat) : Int), .slice a_x n_x c_x] 37)) = w1 at *
  have c := CheckR_any w1 cn hc1 hc2 kd hk1 hk2 h_l_1 HW.out
  refine c.mono ?_
  rintro e w2 ⟨rfl, hb⟩
  clear c
  have B2 := B1.trans (hb.mono B1.size)
  have h_l_2 := h_l_1.below batE_lasts hb
  have h_x_2 := h_x_1.below hb
  have h_b_2 := h_b_1.later hb
  clear hb B1 h_l_1 h_x_1 h_b_1
  have HBR := Lib.hid B2
  have hb := below_al w2 (.cells #[.string name, .slice none 0 0, .int .i64 cn, .int .u8 ((kd : Nat) : Int)] 81)
  have B3 := B2.trans (hb.mono B2.size)
  have h_l_3 := h_l_2.below batE_lasts hb
  have h_x_3 := h_x_2.below hb
  have h_b_3 := h_b_2.later hb
  clear hb B2 h_l_2 h_x_2 h_b_2
  have h_r_3 := (PRow.new 81 w2 #[.string name, .slice none 0 0, .int .i64 cn, .int .u8 ((kd : Nat) : Int)]).base HBR.out
  have k_r_0 := h_r_3.cell 0 _ rfl
  have k_r_1 := h_r_3.cell 1 _ rfl
  have k_r_2 := h_r_3.cell 2 _ rfl
  have k_r_3 := h_r_3.cell 3 _ rfl
  go_wp2_with first | refine wpList_store_new rfl 81 _ _ rfl atRwt _ _ _ rfl rfl rfl rfl (rwt_one _ _ _ _ _ _) ?_
  clear k_r_0 k_r_1 k_r_2 k_r_3
  generalize (w2.alloc (.cells #[.string name, .slice none 0 0, .int .i64 cn, .int .u8 ((kd : Nat) : Int)] 81)) = w3 at *
  have c := mayRow_any w3 name (a_b := none) (n_b := 0) (c_b := 0) cn kd (by omega) (Rd2.nils balE _) HOD.out (fun b hb => by simp at hb)
  refine c.mono ?_
  rintro e w4 ⟨rfl, hb⟩
  clear c
  have B4 := B3.trans (hb.mono B3.size)
  have h_l_4 := h_l_3.below batE_lasts hb
  have h_x_4 := h_x_3.below hb
  have h_b_4 := h_b_3.later hb
  have h_r_4 := h_r_3.later hb
  clear hb B3 h_l_3 h_x_3 h_b_3 h_r_3
  have k_r_0 := h_r_4.cell 0 _ rfl
  have k_r_1 := h_r_4.cell 1 _ rfl
  have k_r_2 := h_r_4.cell 2 _ rfl
  have k_r_3 := h_r_4.cell 3 _ rfl
  have k_b_0 := h_b_4.cell 0 _ rfl
  have k_b_1 := h_b_4.cell 1 _ rfl
  go_wp2_with fail
  clear k_r_0 k_r_1 k_r_2 k_r_3 k_b_0 k_b_1
  have c := fits_any2 w4 name (a_b := none) (n_b := 0) (c_b := 0) cn kd (by omega) h_x_4 HBF.out
  refine c.mono ?_
  rintro e w5 ⟨rfl, hb⟩
  clear c
  have B5 := B4.trans (hb.mono B4.size)
  have h_l_5 := h_l_4.below batE_lasts hb
  have h_x_5 := h_x_4.below hb
  have h_b_5 := h_b_4.later hb
  have h_r_5 := h_r_4.later hb
  clear hb B4 h_l_4 h_x_4 h_b_4 h_r_4
  go_wp2_with fail
  have c := placeC_any w5 h_l_5 name
  rw [HZ.out] at c
  refine c.mono ?_
  rintro e w6 ⟨rfl, hb⟩
  clear c
  have B6 := B5.trans (hb.mono B5.size)
  have h_l_6 := h_l_5.below batE_lasts hb
  have h_x_6 := h_x_5.below hb
  have h_b_6 := h_b_5.later hb
  have h_r_6 := h_r_5.later hb
  clear hb B5 h_l_5 h_x_5 h_b_5 h_r_5
  have HXWB := Lib.hid h_x_6
  have HBWB := Lib.hid h_b_6
  have HLWB := Lib.hid h_l_6
  have HB0 := Lib.hid B6
  obtain ⟨x0, hx0⟩ : ∃ x, l[i]? = some x := ⟨_, List.getElem?_eq_getElem (by rw [HL.out]; exact hidx)⟩
  have H64 := Lib.hid (h63 x0 hx0)
  have HX0 := Lib.hid hx0
  have HPUT := Lib.hid (putC_at (b := ⟨kd, ms⟩) HZ.out hx0)
  have HLW2 := Lib.hid h_l_6
  obtain ⟨bb, oo, rfl, hcc⟩ := HLW2.out.addr (by omega)
  obtain ⟨u1, v1, T0, T1, rfl, a_q, n_q, c_q, rfl, h_q⟩ := hcc i x0 hx0
  have hq64 : n_q ≤ 63 := by rw [← h_q.len]; exact H64.out
  have hdi : decide (((i : Nat) : Int) < 0) = false := decide_eq_false (by omega)
  have hdg : decide (((i : Nat) : Int) ≥ 0) = true := decide_eq_true (by omega)
  have hdg2 : decide (0 ≤ ((i : Nat) : Int)) = true := decide_eq_true (by omega)
  have hd64 : (((n_q : Nat) : Int) == 64) = false := by simp; omega
  clear h_x_6 h_b_6 h_r_6 h_l_6 B6 hcc hx0 h_q T0 h63 HLW2
  go_wp2_with fail
  refine (TwinC_any w6 HLWB.out hnl HSM.out).mono ?_
  rintro e w1 ⟨a1, co, qs, rfl, QX, hF, hA, hb⟩
  have HF1 := Lib.hid hF
  have HA1 := Lib.hid hA
  have HBW := Lib.hid hb
  have HL1 := Lib.hid HL.out
  clear hF hA hb T1 hq64 hdg hdg2 hd64
  go_upto_region 13 with fail
  clear hdi
  obtain ⟨no, hno⟩ : ∃ no, n_l = no := ⟨_, rfl⟩
  obtain ⟨L1, hL1⟩ : ∃ L, l = L := ⟨_, rfl⟩
  rw [hno] at QX HA1 hidx
  rw [hno, hL1] at HL1
  rw [hL1] at HF1 HX0
  have HPUT : Hid (putC l name ⟨kd, ms⟩ = L1.set i ⟨x0.nm, x0.bs ++ [⟨kd, ms⟩]⟩) := Lib.hid (by rw [HPUT.out, hL1])
  have HNO := Lib.hid hno
  clear hL1
  obtain ⟨g, cur, rfl, hgb0, -, -, -, -, -⟩ := QX.row (Nat.lt_of_le_of_lt (Nat.zero_le _) hidx)
  have HQL := Lib.hid QX.len
  obtain ⟨qx, hqx⟩ : ∃ q, qs[i]? = some q := ⟨_, List.getElem?_eq_getElem (by rw [HQL.out]; exact hidx)⟩
  obtain ⟨hu, ab, nb, cb, hv, hol, pbs, XP, hof⟩ := HF1.out i x0 qx HX0.out hqx
  have HPQ0 := Lib.hid (show pth qs i = qx by simp [pth, hqx])
  have HQX := Lib.hid hqx
  have HU := Lib.hid hu
  have HV := Lib.hid hv
  have HOL := Lib.hid hol
  have HOF := Lib.hid hof
  have hnb : nb ≤ 63 := by rw [← hol]; exact H64.out
  have t1 : w1.cell? ⟨g, i * 2 + 1, none⟩ = some (.slice ab nb cb) := by
    obtain ⟨b, off, e, t0, t1⟩ := QX.rd.cell i hidx
    simp only [Option.some.injEq, Addr.mk.injEq, and_true] at e
    obtain ⟨rfl, rfl⟩ := e
    rw [Nat.zero_add, HPQ0.out, HV.out] at t1
    exact t1
  have k0 := cell_below HBW.out (HBWB.out.cell 0 _ rfl)
  have k1 := cell_below HBW.out (HBWB.out.cell 1 _ rfl)
  have HXM := Lib.hid (HXWB.out.below HBW.out)
  have hbase := HBW.out.size
  clear hqx hu hv hol hof hgb0 HXWB HBWB
  have hb := (Below.refl w1.heap.size w1).drew
  have DB := hb
  have t1 := cell_below hb t1
  have k0 := cell_below hb k0
  have k1 := cell_below hb k1
  have HXM := Lib.hid (HXM.out.below hb)
  clear hb
  refine wp_region_any (by kernel_rfl) ?_
  change wpAny _ _ _ _ _ _ _ (World.drew _)
  generalize w1.drew = w4 at *
  refine wpAny_take (i := 0) (oi := ?oir33_0) (v := ?vr33_0) ?hir33_0 (by kernel_rfl) (by kernel_rfl) (by kernel_rfl) ?hqr33_0 ?hyr33_0 ?restr33_0
  case hir33_0 => simp only [List.getElem?_toArray, List.getElem?_cons_succ, List.getElem?_cons_zero]; rfl
  case hqr33_0 => exact fun _ _ _ h => h
  case hyr33_0 => (refine Or.inl ⟨by rfl, ?_⟩; intro w; go_simp; all_goals with_reducible rfl)
  try simp only [Act.put, List.setIfInBounds_toArray, List.set_cons_zero, List.set_cons_succ]
  refine wpAny_take (i := 1) (oi := ?oir33_1) (v := ?vr33_1) ?hir33_1 (by kernel_rfl) (by kernel_rfl) (by kernel_rfl) ?hqr33_1 ?hyr33_1 ?restr33_1
  case hir33_1 => simp only [List.getElem?_toArray, List.getElem?_cons_succ, List.getElem?_cons_zero]; rfl
  case hqr33_1 => exact fun _ _ _ h => h
  case hyr33_1 => (refine Or.inl ⟨by rfl, ?_⟩; intro w; go_simp; all_goals with_reducible rfl)
  try simp only [Act.put, List.setIfInBounds_toArray, List.set_cons_zero, List.set_cons_succ]
  refine wpAny_take (i := 2) (oi := ?oir33_2) (v := ?vr33_2) ?hir33_2 (by kernel_rfl) (by kernel_rfl) (by kernel_rfl) ?hqr33_2 ?hyr33_2 ?restr33_2
  case hir33_2 => simp only [List.getElem?_toArray, List.getElem?_cons_succ, List.getElem?_cons_zero]; rfl
  case hqr33_2 => exact fun _ _ _ h => h
  case hyr33_2 => (refine Or.inl ⟨by rfl, ?_⟩; intro w; go_simp; all_goals with_reducible rfl)
  try simp only [Act.put, List.setIfInBounds_toArray, List.set_cons_zero, List.set_cons_succ]
  refine wpAny_take (i := 3) (oi := ?oir33_3) (v := ?vr33_3) ?hir33_3 (by kernel_rfl) (by kernel_rfl) (by kernel_rfl) ?hqr33_3 ?hyr33_3 ?restr33_3
  case hir33_3 => simp only [List.getElem?_toArray, List.getElem?_cons_succ, List.getElem?_cons_zero]; rfl
  case hqr33_3 => exact fun _ _ _ h => h
  case hyr33_3 => (refine Or.inl ⟨by rfl, ?_⟩; intro w; go_simp; all_goals with_reducible rfl)
  try simp only [Act.put, List.setIfInBounds_toArray, List.set_cons_zero, List.set_cons_succ]
  refine wpAny_take (i := 4) (oi := ?oir33_4) (v := ?vr33_4) ?hir33_4 (by kernel_rfl) (by kernel_rfl) (by kernel_rfl) ?hqr33_4 ?hyr33_4 ?restr33_4
  case hir33_4 => simp only [List.getElem?_toArray, List.getElem?_cons_succ, List.getElem?_cons_zero]; rfl
  case hqr33_4 => exact fun _ _ _ h => h
  case hyr33_4 => (refine Or.inl ⟨by rfl, ?_⟩; intro w; go_simp; all_goals with_reducible rfl)
  try simp only [Act.put, List.setIfInBounds_toArray, List.set_cons_zero, List.set_cons_succ]
  refine wpAny_take (i := 5) (oi := ?oir33_5) (v := ?vr33_5) ?hir33_5 (by kernel_rfl) (by kernel_rfl) (by kernel_rfl) ?hqr33_5 ?hyr33_5 ?restr33_5
  case hir33_5 => simp only [List.getElem?_toArray, List.getElem?_cons_succ, List.getElem?_cons_zero]; rfl
  case hqr33_5 => exact fun _ _ _ h => h
  case hyr33_5 => (refine Or.inl ⟨by rfl, ?_⟩; intro w; go_simp; all_goals with_reducible rfl)
  try simp only [Act.put, List.setIfInBounds_toArray, List.set_cons_zero, List.set_cons_succ]
  refine wpAny_ready (rs := [6, 7]) (by kernel_rfl) (by simp) ?_
  refine (AllReady.cons (o := ?ob64_6) ?hob64_6 (fun K hK => ?kb64_6) (AllReady.cons (o := ?ob64_7) ?hob64_7 (fun K hK => ?kb64_7) AllReady.nil))
  case hob64_6 => simp only [List.getElem?_toArray, List.getElem?_cons_succ, List.getElem?_cons_zero]; rfl
  case hob64_7 => simp only [List.getElem?_toArray, List.getElem?_cons_succ, List.getElem?_cons_zero]; rfl
  case kb64_6 =>
    go_simp
    refine hK _ _ ?_
    clear hK K
    try simp only [Act.put, List.setIfInBounds_toArray, List.set_cons_zero, List.set_cons_succ]
    refine wpAny_ready (rs := [7]) (by kernel_rfl) (by simp) ?_
    refine (AllReady.cons (o := ?ob42_7) ?hob42_7 (fun K hK => ?kb42_7) AllReady.nil)
    case hob42_7 => simp only [List.getElem?_toArray, List.getElem?_cons_succ, List.getElem?_cons_zero]; rfl
    case kb42_7 =>
      go_simp
      go_wp2_with fail
      try simp only [Act.put, List.setIfInBounds_toArray, List.set_cons_zero, List.set_cons_succ]
      refine wpAny_ready (rs := [8]) (by kernel_rfl) (by simp) ?_
      refine (AllReady.cons (o := ?ob41_8) ?hob41_8 (fun K hK => ?kb41_8) AllReady.nil)
      case hob41_8 => simp only [List.getElem?_toArray, List.getElem?_cons_succ, List.getElem?_cons_zero]; rfl
      case kb41_8 =>
        go_simp
        have HBL7 := Lib.hid (Nat.le_trans hbase DB.size)
        refine (copied_any w4 kd HXM.out hnx).mono ?_
        rintro e w7 ⟨a7, c7, rfl, h7, hb⟩
        have H7 := Lib.hid h7
        have DB := DB.trans (hb.mono DB.size)
        have HB7 := Lib.hid hb
        have t1 := cell_below hb t1
        clear h7 k0 k1 hb
        go_wp2_with fail
        try simp only [Act.put, List.setIfInBounds_toArray, List.set_cons_zero, List.set_cons_succ]
        refine wpAny_ready (rs := [9]) (by kernel_rfl) (by simp) ?_
        refine (AllReady.cons (o := ?ob40_9) ?hob40_9 (fun K hK => ?kb40_9) AllReady.nil)
        case hob40_9 => simp only [List.getElem?_toArray, List.getElem?_cons_succ, List.getElem?_cons_zero]; rfl
        case kb40_9 =>
          go_simp
          have hal := below_al w7 (.cells #[.int .u8 ((kd : Nat) : Int), .slice a7 n_x c7] 37)
          have DB := DB.trans (hal.mono DB.size)
          have HAL := Lib.hid hal
          have t1 := cell_below hal t1
          clear hal
          go_wp2_with fail
          try simp only [Act.put, List.setIfInBounds_toArray, List.set_cons_zero, List.set_cons_succ]
          refine wpAny_ready (rs := [10]) (by kernel_rfl) (by simp) ?_
          refine AllReady.cons (o := ?ob35_0) ?hob35_0 (fun K hK => ?kb35_0) AllReady.nil
          case hob35_0 => simp only [List.getElem?_toArray, List.getElem?_cons_succ, List.getElem?_cons_zero]; rfl
          have HP9 := Lib.hid (XP.below DB)
          refine op_appX _ _ 27 rfl etQ w6.heap.size rfl HP9.out rfl (rdP_new w7 ⟨.int .u8 ((kd : Nat) : Int), .slice a7 n_x c7, rfl, rfl⟩ 37) (by omega) (Nat.le_trans hbase DB.size) ?_
          intro a8 c8 w8 X8 hk8 hb8
          have Q9 := QX.below DB
          have Q8 := Q9.keepN (fun p q e1 e2 e3 => by
            obtain ⟨_, _, cs1, f1⟩ := Q9.typed p e1
            obtain ⟨_, _, cs2, f2⟩ := HP9.out.typed q e2
            rw [e3, f2] at f1
            simp at f1) hk8
          have HB8 := Lib.hid hb8
          have HK8 := Lib.hid hk8
          have HX8 := Lib.hid X8
          have HDB := Lib.hid DB
          clear t1 hb8 hk8 X8 DB Q9
          have t1 : w8.cell? ⟨g, i * 2 + 1, none⟩ = some (.slice ab nb cb) := by
            obtain ⟨b, off, e, t0, t1⟩ := Q8.rd.cell i hidx
            simp only [Option.some.injEq, Addr.mk.injEq, and_true] at e
            obtain ⟨rfl, rfl⟩ := e
            rw [Nat.zero_add, HPQ0.out, HV.out] at t1
            exact t1
          have f1 := Q8.free (i * 2 + 1)
          refine hK _ _ ?_
          clear hK K
          try simp only [Act.put, List.setIfInBounds_toArray, List.set_cons_zero, List.set_cons_succ]
          refine wpAny_take (i := 11) (oi := ?oir37_11) (v := ?vr37_11) ?hir37_11 (by kernel_rfl) (by kernel_rfl) (by kernel_rfl) ?hqr37_11 ?hyr37_11 ?restr37_11
          case hir37_11 => simp only [List.getElem?_toArray, List.getElem?_cons_succ, List.getElem?_cons_zero]; rfl
          case hqr37_11 => exact fun _ _ _ h => h
          case hyr37_11 => (refine Or.inl ⟨by rfl, ?_⟩; intro w; go_simp; all_goals with_reducible rfl)
          try simp only [Act.put, List.setIfInBounds_toArray, List.set_cons_zero, List.set_cons_succ]
          refine wpAny_take (i := 12) (oi := ?oir37_12) (v := ?vr37_12) ?hir37_12 (by kernel_rfl) (by kernel_rfl) (by kernel_rfl) ?hqr37_12 ?hyr37_12 ?restr37_12
          case hir37_12 => simp only [List.getElem?_toArray, List.getElem?_cons_succ, List.getElem?_cons_zero]; rfl
          case hqr37_12 => exact fun _ _ _ h => h
          case hyr37_12 => (refine Or.inl ⟨by rfl, ?_⟩; intro w; go_simp; all_goals with_reducible rfl)
          try simp only [Act.put, List.setIfInBounds_toArray, List.set_cons_zero, List.set_cons_succ]
          refine wpAny_ready (rs := [13]) (by kernel_rfl) (by simp) ?_
          refine (AllReady.cons (o := ?ob39_13) ?hob39_13 (fun K hK => ?kb39_13) AllReady.nil)
          case hob39_13 => simp only [List.getElem?_toArray, List.getElem?_cons_succ, List.getElem?_cons_zero]; rfl
          case kb39_13 =>
            go_simp
            refine hK _ _ ?_
            clear hK K
            try simp only [Act.put, List.setIfInBounds_toArray, List.set_cons_zero, List.set_cons_succ]
            refine wpAny_done (by kernel_rfl) ?_ _
            have Q10 := Q8.setV hidx (x := .slice a8 (nb + 1) c8) rfl
            have hg8 : ∃ cs, w8.heap[g]? = some (.cells cs 79 (0, 0)) := (Q8.typed _ rfl).2.2
            have hgb : w6.heap.size ≤ g := (Q8.typed _ rfl).1
            have B8 : Below w6.heap.size w6 w8 := (HBW.out.trans (HDB.out.mono HBW.out.size)).trans HB8.out
            have BW : Below w6.heap.size w6 (w8.setCell ⟨g, i * 2 + 1, none⟩ (.slice a8 (nb + 1) c8)) := B8.setCell hgb _
            have B10 : Below w.heap.size w (w8.setCell ⟨g, i * 2 + 1, none⟩ (.slice a8 (nb + 1) c8)) := HB0.out.trans (BW.mono HB0.out.size)
            have HABT : ∀ p, ab = some p → ∃ cs, (w7.alloc (.cells #[.int .u8 ((kd : Nat) : Int), .slice a7 n_x c7] 37)).heap[p.block]? = some (.cells cs 37 (0, 0)) := fun p e => (HP9.out.typed p e).2.2
            have HFIN := Lib.hid (show ∀ (j : Nat) x p, (L1.set i ⟨x0.nm, x0.bs ++ [⟨kd, ms⟩]⟩)[j]? = some x → (qs.set i ⟨(pth qs i).u, .slice a8 (nb + 1) c8, (pth qs i).hu, rfl⟩)[j]? = some p → batM w6.heap.size w6 (w8.setCell ⟨g, i * 2 + 1, none⟩ (.slice a8 (nb + 1) c8)) x p.u p.v from fun j x p h1 h2 => by
              obtain ⟨csg, hcg⟩ := hg8
              rcases pset_at h2 with ⟨e0, rfl⟩ | ⟨h3, h4⟩
              · rcases cset_at h1 with ⟨_, rfl⟩ | ⟨h5, _⟩
                · refine ⟨?_, a8, nb + 1, c8, rfl, OwM.keepT (OwM.snoc (y := ⟨kd, ms⟩) (p := ⟨.int .u8 ((kd : Nat) : Int), .slice a7 n_x c7, rfl, rfl⟩) HOL.out HP9.out (fun i y q e1 e2 => (HOF.out i y q e1 e2).below HDB.out) HX8.out HK8.out ⟨rfl, by show kd < 256; omega, a7, n_x, c7, rfl, .inr ((H7.out.below HAL.out).base_le HBL7.out)⟩) hcg (by decide) (by decide) (keepB_cell _ _ _ _)⟩
                  show (pth qs i).u = _
                  rw [HPQ0.out]
                  exact HU.out
                · exact absurd e0 h5
              · rcases cset_at h1 with ⟨h5, _⟩ | ⟨_, h6⟩
                · exact absurd h5 h3
                · have hj : j < qs.length := (List.getElem?_eq_some_iff.1 h4).1
                  refine (((HF1.out j x p h6 h4).below HDB.out).keepA HABT (fun p2 e1 e2 => ?_) HK8.out).keepT hcg (by decide) (by decide) (keepB_cell _ _ _ _)
                  exact HA1.out j i p qx p2.block (by rw [← HQL.out]; exact hj) hidx h3 h4 HQX.out e2 (by rw [HV.out, e1]; rfl))
            clear t1 f1
            go_wp2_with fail
            go_ret2
            refine ⟨some ⟨g, 0, none⟩, co, ?_, ?_, B10⟩
            · rw [HPUT.out, List.length_set, HL1.out]; rfl
            · rw [HPUT.out, List.length_set, HL1.out]
              refine ⟨by rw [List.length_set]; exact HL1.out, _, Q10.base_le HB0.out.size, fun j x p h1 h2 => ?_⟩
              obtain ⟨k1, ak, nk, ck, k2, k3⟩ := HFIN.out j x p h1 h2
              obtain ⟨k4, qk, k5, k6⟩ := k3.base_le HB0.out.size
              exact ⟨k1, ak, nk, ck, k2, k4, qk, k5, fun m y q f1 f2 => (k6 m y q f1 f2).any⟩
  case kb64_7 =>
    go_simp
    go_wp2_with fail
    try simp only [Act.put, List.setIfInBounds_toArray, List.set_cons_zero, List.set_cons_succ]
    refine wpAny_ready (rs := [6, 8]) (by kernel_rfl) (by simp) ?_
    refine (AllReady.cons (o := ?ob63_6) ?hob63_6 (fun K hK => ?kb63_6) (AllReady.cons (o := ?ob63_8) ?hob63_8 (fun K hK => ?kb63_8) AllReady.nil))
    case hob63_6 => simp only [List.getElem?_toArray, List.getElem?_cons_succ, List.getElem?_cons_zero]; rfl
    case hob63_8 => simp only [List.getElem?_toArray, List.getElem?_cons_succ, List.getElem?_cons_zero]; rfl
    case kb63_6 =>
      go_simp
      refine hK _ _ ?_
      clear hK K
      try simp only [Act.put, List.setIfInBounds_toArray, List.set_cons_zero, List.set_cons_succ]
      refine wpAny_ready (rs := [8]) (by kernel_rfl) (by simp) ?_
      refine (AllReady.cons (o := ?ob49_8) ?hob49_8 (fun K hK => ?kb49_8) AllReady.nil)
      case hob49_8 => simp only [List.getElem?_toArray, List.getElem?_cons_succ, List.getElem?_cons_zero]; rfl
      case kb49_8 =>
        go_simp
        have HBL7 := Lib.hid (Nat.le_trans hbase DB.size)
        refine (copied_any w4 kd HXM.out hnx).mono ?_
        rintro e w7 ⟨a7, c7, rfl, h7, hb⟩
        have H7 := Lib.hid h7
        have DB := DB.trans (hb.mono DB.size)
        have HB7 := Lib.hid hb
        have t1 := cell_below hb t1
        clear h7 k0 k1 hb
        go_wp2_with fail
        try simp only [Act.put, List.setIfInBounds_toArray, List.set_cons_zero, List.set_cons_succ]
        refine wpAny_ready (rs := [9]) (by kernel_rfl) (by simp) ?_
        refine (AllReady.cons (o := ?ob48_9) ?hob48_9 (fun K hK => ?kb48_9) AllReady.nil)
        case hob48_9 => simp only [List.getElem?_toArray, List.getElem?_cons_succ, List.getElem?_cons_zero]; rfl
        case kb48_9 =>
          go_simp
          have hal := below_al w7 (.cells #[.int .u8 ((kd : Nat) : Int), .slice a7 n_x c7] 37)
          have DB := DB.trans (hal.mono DB.size)
          have HAL := Lib.hid hal
          have t1 := cell_below hal t1
          clear hal
          go_wp2_with fail
          try simp only [Act.put, List.setIfInBounds_toArray, List.set_cons_zero, List.set_cons_succ]
          refine wpAny_ready (rs := [10]) (by kernel_rfl) (by simp) ?_
          refine AllReady.cons (o := ?ob43_0) ?hob43_0 (fun K hK => ?kb43_0) AllReady.nil
          case hob43_0 => simp only [List.getElem?_toArray, List.getElem?_cons_succ, List.getElem?_cons_zero]; rfl
          have HP9 := Lib.hid (XP.below DB)
          refine op_appX _ _ 27 rfl etQ w6.heap.size rfl HP9.out rfl (rdP_new w7 ⟨.int .u8 ((kd : Nat) : Int), .slice a7 n_x c7, rfl, rfl⟩ 37) (by omega) (Nat.le_trans hbase DB.size) ?_
          intro a8 c8 w8 X8 hk8 hb8
          have Q9 := QX.below DB
          have Q8 := Q9.keepN (fun p q e1 e2 e3 => by
            obtain ⟨_, _, cs1, f1⟩ := Q9.typed p e1
            obtain ⟨_, _, cs2, f2⟩ := HP9.out.typed q e2
            rw [e3, f2] at f1
            simp at f1) hk8
          have HB8 := Lib.hid hb8
          have HK8 := Lib.hid hk8
          have HX8 := Lib.hid X8
          have HDB := Lib.hid DB
          clear t1 hb8 hk8 X8 DB Q9
          have t1 : w8.cell? ⟨g, i * 2 + 1, none⟩ = some (.slice ab nb cb) := by
            obtain ⟨b, off, e, t0, t1⟩ := Q8.rd.cell i hidx
            simp only [Option.some.injEq, Addr.mk.injEq, and_true] at e
            obtain ⟨rfl, rfl⟩ := e
            rw [Nat.zero_add, HPQ0.out, HV.out] at t1
            exact t1
          have f1 := Q8.free (i * 2 + 1)
          refine hK _ _ ?_
          clear hK K
          try simp only [Act.put, List.setIfInBounds_toArray, List.set_cons_zero, List.set_cons_succ]
          refine wpAny_take (i := 11) (oi := ?oir45_11) (v := ?vr45_11) ?hir45_11 (by kernel_rfl) (by kernel_rfl) (by kernel_rfl) ?hqr45_11 ?hyr45_11 ?restr45_11
          case hir45_11 => simp only [List.getElem?_toArray, List.getElem?_cons_succ, List.getElem?_cons_zero]; rfl
          case hqr45_11 => exact fun _ _ _ h => h
          case hyr45_11 => (refine Or.inl ⟨by rfl, ?_⟩; intro w; go_simp; all_goals with_reducible rfl)
          try simp only [Act.put, List.setIfInBounds_toArray, List.set_cons_zero, List.set_cons_succ]
          refine wpAny_take (i := 12) (oi := ?oir45_12) (v := ?vr45_12) ?hir45_12 (by kernel_rfl) (by kernel_rfl) (by kernel_rfl) ?hqr45_12 ?hyr45_12 ?restr45_12
          case hir45_12 => simp only [List.getElem?_toArray, List.getElem?_cons_succ, List.getElem?_cons_zero]; rfl
          case hqr45_12 => exact fun _ _ _ h => h
          case hyr45_12 => (refine Or.inl ⟨by rfl, ?_⟩; intro w; go_simp; all_goals with_reducible rfl)
          try simp only [Act.put, List.setIfInBounds_toArray, List.set_cons_zero, List.set_cons_succ]
          refine wpAny_ready (rs := [13]) (by kernel_rfl) (by simp) ?_
          refine (AllReady.cons (o := ?ob47_13) ?hob47_13 (fun K hK => ?kb47_13) AllReady.nil)
          case hob47_13 => simp only [List.getElem?_toArray, List.getElem?_cons_succ, List.getElem?_cons_zero]; rfl
          case kb47_13 =>
            go_simp
            refine hK _ _ ?_
            clear hK K
            try simp only [Act.put, List.setIfInBounds_toArray, List.set_cons_zero, List.set_cons_succ]
            refine wpAny_done (by kernel_rfl) ?_ _
            have Q10 := Q8.setV hidx (x := .slice a8 (nb + 1) c8) rfl
            have hg8 : ∃ cs, w8.heap[g]? = some (.cells cs 79 (0, 0)) := (Q8.typed _ rfl).2.2
            have hgb : w6.heap.size ≤ g := (Q8.typed _ rfl).1
            have B8 : Below w6.heap.size w6 w8 := (HBW.out.trans (HDB.out.mono HBW.out.size)).trans HB8.out
            have BW : Below w6.heap.size w6 (w8.setCell ⟨g, i * 2 + 1, none⟩ (.slice a8 (nb + 1) c8)) := B8.setCell hgb _
            have B10 : Below w.heap.size w (w8.setCell ⟨g, i * 2 + 1, none⟩ (.slice a8 (nb + 1) c8)) := HB0.out.trans (BW.mono HB0.out.size)
            have HABT : ∀ p, ab = some p → ∃ cs, (w7.alloc (.cells #[.int .u8 ((kd : Nat) : Int), .slice a7 n_x c7] 37)).heap[p.block]? = some (.cells cs 37 (0, 0)) := fun p e => (HP9.out.typed p e).2.2
            have HFIN := Lib.hid (show ∀ (j : Nat) x p, (L1.set i ⟨x0.nm, x0.bs ++ [⟨kd, ms⟩]⟩)[j]? = some x → (qs.set i ⟨(pth qs i).u, .slice a8 (nb + 1) c8, (pth qs i).hu, rfl⟩)[j]? = some p → batM w6.heap.size w6 (w8.setCell ⟨g, i * 2 + 1, none⟩ (.slice a8 (nb + 1) c8)) x p.u p.v from fun j x p h1 h2 => by
              obtain ⟨csg, hcg⟩ := hg8
              rcases pset_at h2 with ⟨e0, rfl⟩ | ⟨h3, h4⟩
              · rcases cset_at h1 with ⟨_, rfl⟩ | ⟨h5, _⟩
                · refine ⟨?_, a8, nb + 1, c8, rfl, OwM.keepT (OwM.snoc (y := ⟨kd, ms⟩) (p := ⟨.int .u8 ((kd : Nat) : Int), .slice a7 n_x c7, rfl, rfl⟩) HOL.out HP9.out (fun i y q e1 e2 => (HOF.out i y q e1 e2).below HDB.out) HX8.out HK8.out ⟨rfl, by show kd < 256; omega, a7, n_x, c7, rfl, .inr ((H7.out.below HAL.out).base_le HBL7.out)⟩) hcg (by decide) (by decide) (keepB_cell _ _ _ _)⟩
                  show (pth qs i).u = _
                  rw [HPQ0.out]
                  exact HU.out
                · exact absurd e0 h5
              · rcases cset_at h1 with ⟨h5, _⟩ | ⟨_, h6⟩
                · exact absurd h5 h3
                · have hj : j < qs.length := (List.getElem?_eq_some_iff.1 h4).1
                  refine (((HF1.out j x p h6 h4).below HDB.out).keepA HABT (fun p2 e1 e2 => ?_) HK8.out).keepT hcg (by decide) (by decide) (keepB_cell _ _ _ _)
                  exact HA1.out j i p qx p2.block (by rw [← HQL.out]; exact hj) hidx h3 h4 HQX.out e2 (by rw [HV.out, e1]; rfl))
            clear t1 f1
            go_wp2_with fail
            go_ret2
            refine ⟨some ⟨g, 0, none⟩, co, ?_, ?_, B10⟩
            · rw [HPUT.out, List.length_set, HL1.out]; rfl
            · rw [HPUT.out, List.length_set, HL1.out]
              refine ⟨by rw [List.length_set]; exact HL1.out, _, Q10.base_le HB0.out.size, fun j x p h1 h2 => ?_⟩
              obtain ⟨k1, ak, nk, ck, k2, k3⟩ := HFIN.out j x p h1 h2
              obtain ⟨k4, qk, k5, k6⟩ := k3.base_le HB0.out.size
              exact ⟨k1, ak, nk, ck, k2, k4, qk, k5, fun m y q f1 f2 => (k6 m y q f1 f2).any⟩
    case kb63_8 =>
      go_simp
      have HBL7 := Lib.hid (Nat.le_trans hbase DB.size)
      refine (copied_any w4 kd HXM.out hnx).mono ?_
      rintro e w7 ⟨a7, c7, rfl, h7, hb⟩
      have H7 := Lib.hid h7
      have DB := DB.trans (hb.mono DB.size)
      have HB7 := Lib.hid hb
      have t1 := cell_below hb t1
      clear h7 k0 k1 hb
      go_wp2_with fail
      try simp only [Act.put, List.setIfInBounds_toArray, List.set_cons_zero, List.set_cons_succ]
      refine wpAny_ready (rs := [6, 9]) (by kernel_rfl) (by simp) ?_
      refine (AllReady.cons (o := ?ob62_6) ?hob62_6 (fun K hK => ?kb62_6) (AllReady.cons (o := ?ob62_9) ?hob62_9 (fun K hK => ?kb62_9) AllReady.nil))
      case hob62_6 => simp only [List.getElem?_toArray, List.getElem?_cons_succ, List.getElem?_cons_zero]; rfl
      case hob62_9 => simp only [List.getElem?_toArray, List.getElem?_cons_succ, List.getElem?_cons_zero]; rfl
      case kb62_6 =>
        go_simp
        refine hK _ _ ?_
        clear hK K
        try simp only [Act.put, List.setIfInBounds_toArray, List.set_cons_zero, List.set_cons_succ]
        refine wpAny_ready (rs := [9]) (by kernel_rfl) (by simp) ?_
        refine (AllReady.cons (o := ?ob55_9) ?hob55_9 (fun K hK => ?kb55_9) AllReady.nil)
        case hob55_9 => simp only [List.getElem?_toArray, List.getElem?_cons_succ, List.getElem?_cons_zero]; rfl
        case kb55_9 =>
          go_simp
          have hal := below_al w7 (.cells #[.int .u8 ((kd : Nat) : Int), .slice a7 n_x c7] 37)
          have DB := DB.trans (hal.mono DB.size)
          have HAL := Lib.hid hal
          have t1 := cell_below hal t1
          clear hal
          go_wp2_with fail
          try simp only [Act.put, List.setIfInBounds_toArray, List.set_cons_zero, List.set_cons_succ]
          refine wpAny_ready (rs := [10]) (by kernel_rfl) (by simp) ?_
          refine AllReady.cons (o := ?ob50_0) ?hob50_0 (fun K hK => ?kb50_0) AllReady.nil
          case hob50_0 => simp only [List.getElem?_toArray, List.getElem?_cons_succ, List.getElem?_cons_zero]; rfl
          have HP9 := Lib.hid (XP.below DB)
          refine op_appX _ _ 27 rfl etQ w6.heap.size rfl HP9.out rfl (rdP_new w7 ⟨.int .u8 ((kd : Nat) : Int), .slice a7 n_x c7, rfl, rfl⟩ 37) (by omega) (Nat.le_trans hbase DB.size) ?_
          intro a8 c8 w8 X8 hk8 hb8
          have Q9 := QX.below DB
          have Q8 := Q9.keepN (fun p q e1 e2 e3 => by
            obtain ⟨_, _, cs1, f1⟩ := Q9.typed p e1
            obtain ⟨_, _, cs2, f2⟩ := HP9.out.typed q e2
            rw [e3, f2] at f1
            simp at f1) hk8
          have HB8 := Lib.hid hb8
          have HK8 := Lib.hid hk8
          have HX8 := Lib.hid X8
          have HDB := Lib.hid DB
          clear t1 hb8 hk8 X8 DB Q9
          have t1 : w8.cell? ⟨g, i * 2 + 1, none⟩ = some (.slice ab nb cb) := by
            obtain ⟨b, off, e, t0, t1⟩ := Q8.rd.cell i hidx
            simp only [Option.some.injEq, Addr.mk.injEq, and_true] at e
            obtain ⟨rfl, rfl⟩ := e
            rw [Nat.zero_add, HPQ0.out, HV.out] at t1
            exact t1
          have f1 := Q8.free (i * 2 + 1)
          refine hK _ _ ?_
          clear hK K
          try simp only [Act.put, List.setIfInBounds_toArray, List.set_cons_zero, List.set_cons_succ]
          refine wpAny_take (i := 11) (oi := ?oir52_11) (v := ?vr52_11) ?hir52_11 (by kernel_rfl) (by kernel_rfl) (by kernel_rfl) ?hqr52_11 ?hyr52_11 ?restr52_11
          case hir52_11 => simp only [List.getElem?_toArray, List.getElem?_cons_succ, List.getElem?_cons_zero]; rfl
          case hqr52_11 => exact fun _ _ _ h => h
          case hyr52_11 => (refine Or.inl ⟨by rfl, ?_⟩; intro w; go_simp; all_goals with_reducible rfl)
          try simp only [Act.put, List.setIfInBounds_toArray, List.set_cons_zero, List.set_cons_succ]
          refine wpAny_take (i := 12) (oi := ?oir52_12) (v := ?vr52_12) ?hir52_12 (by kernel_rfl) (by kernel_rfl) (by kernel_rfl) ?hqr52_12 ?hyr52_12 ?restr52_12
          case hir52_12 => simp only [List.getElem?_toArray, List.getElem?_cons_succ, List.getElem?_cons_zero]; rfl
          case hqr52_12 => exact fun _ _ _ h => h
          case hyr52_12 => (refine Or.inl ⟨by rfl, ?_⟩; intro w; go_simp; all_goals with_reducible rfl)
          try simp only [Act.put, List.setIfInBounds_toArray, List.set_cons_zero, List.set_cons_succ]
          refine wpAny_ready (rs := [13]) (by kernel_rfl) (by simp) ?_
          refine (AllReady.cons (o := ?ob54_13) ?hob54_13 (fun K hK => ?kb54_13) AllReady.nil)
          case hob54_13 => simp only [List.getElem?_toArray, List.getElem?_cons_succ, List.getElem?_cons_zero]; rfl
          case kb54_13 =>
            go_simp
            refine hK _ _ ?_
            clear hK K
            try simp only [Act.put, List.setIfInBounds_toArray, List.set_cons_zero, List.set_cons_succ]
            refine wpAny_done (by kernel_rfl) ?_ _
            have Q10 := Q8.setV hidx (x := .slice a8 (nb + 1) c8) rfl
            have hg8 : ∃ cs, w8.heap[g]? = some (.cells cs 79 (0, 0)) := (Q8.typed _ rfl).2.2
            have hgb : w6.heap.size ≤ g := (Q8.typed _ rfl).1
            have B8 : Below w6.heap.size w6 w8 := (HBW.out.trans (HDB.out.mono HBW.out.size)).trans HB8.out
            have BW : Below w6.heap.size w6 (w8.setCell ⟨g, i * 2 + 1, none⟩ (.slice a8 (nb + 1) c8)) := B8.setCell hgb _
            have B10 : Below w.heap.size w (w8.setCell ⟨g, i * 2 + 1, none⟩ (.slice a8 (nb + 1) c8)) := HB0.out.trans (BW.mono HB0.out.size)
            have HABT : ∀ p, ab = some p → ∃ cs, (w7.alloc (.cells #[.int .u8 ((kd : Nat) : Int), .slice a7 n_x c7] 37)).heap[p.block]? = some (.cells cs 37 (0, 0)) := fun p e => (HP9.out.typed p e).2.2
            have HFIN := Lib.hid (show ∀ (j : Nat) x p, (L1.set i ⟨x0.nm, x0.bs ++ [⟨kd, ms⟩]⟩)[j]? = some x → (qs.set i ⟨(pth qs i).u, .slice a8 (nb + 1) c8, (pth qs i).hu, rfl⟩)[j]? = some p → batM w6.heap.size w6 (w8.setCell ⟨g, i * 2 + 1, none⟩ (.slice a8 (nb + 1) c8)) x p.u p.v from fun j x p h1 h2 => by
              obtain ⟨csg, hcg⟩ := hg8
              rcases pset_at h2 with ⟨e0, rfl⟩ | ⟨h3, h4⟩
              · rcases cset_at h1 with ⟨_, rfl⟩ | ⟨h5, _⟩
                · refine ⟨?_, a8, nb + 1, c8, rfl, OwM.keepT (OwM.snoc (y := ⟨kd, ms⟩) (p := ⟨.int .u8 ((kd : Nat) : Int), .slice a7 n_x c7, rfl, rfl⟩) HOL.out HP9.out (fun i y q e1 e2 => (HOF.out i y q e1 e2).below HDB.out) HX8.out HK8.out ⟨rfl, by show kd < 256; omega, a7, n_x, c7, rfl, .inr ((H7.out.below HAL.out).base_le HBL7.out)⟩) hcg (by decide) (by decide) (keepB_cell _ _ _ _)⟩
                  show (pth qs i).u = _
                  rw [HPQ0.out]
                  exact HU.out
                · exact absurd e0 h5
              · rcases cset_at h1 with ⟨h5, _⟩ | ⟨_, h6⟩
                · exact absurd h5 h3
                · have hj : j < qs.length := (List.getElem?_eq_some_iff.1 h4).1
                  refine (((HF1.out j x p h6 h4).below HDB.out).keepA HABT (fun p2 e1 e2 => ?_) HK8.out).keepT hcg (by decide) (by decide) (keepB_cell _ _ _ _)
                  exact HA1.out j i p qx p2.block (by rw [← HQL.out]; exact hj) hidx h3 h4 HQX.out e2 (by rw [HV.out, e1]; rfl))
            clear t1 f1
            go_wp2_with fail
            go_ret2
            refine ⟨some ⟨g, 0, none⟩, co, ?_, ?_, B10⟩
            · rw [HPUT.out, List.length_set, HL1.out]; rfl
            · rw [HPUT.out, List.length_set, HL1.out]
              refine ⟨by rw [List.length_set]; exact HL1.out, _, Q10.base_le HB0.out.size, fun j x p h1 h2 => ?_⟩
              obtain ⟨k1, ak, nk, ck, k2, k3⟩ := HFIN.out j x p h1 h2
              obtain ⟨k4, qk, k5, k6⟩ := k3.base_le HB0.out.size
              exact ⟨k1, ak, nk, ck, k2, k4, qk, k5, fun m y q f1 f2 => (k6 m y q f1 f2).any⟩
      case kb62_9 =>
        go_simp
        have hal := below_al w7 (.cells #[.int .u8 ((kd : Nat) : Int), .slice a7 n_x c7] 37)
        have DB := DB.trans (hal.mono DB.size)
        have HAL := Lib.hid hal
        have t1 := cell_below hal t1
        clear hal
        go_wp2_with fail
        try simp only [Act.put, List.setIfInBounds_toArray, List.set_cons_zero, List.set_cons_succ]
        refine wpAny_ready (rs := [6]) (by kernel_rfl) (by simp) ?_
        refine (AllReady.cons (o := ?ob61_6) ?hob61_6 (fun K hK => ?kb61_6) AllReady.nil)
        case hob61_6 => simp only [List.getElem?_toArray, List.getElem?_cons_succ, List.getElem?_cons_zero]; rfl
        case kb61_6 =>
          go_simp
          refine hK _ _ ?_
          clear hK K
          try simp only [Act.put, List.setIfInBounds_toArray, List.set_cons_zero, List.set_cons_succ]
          refine wpAny_ready (rs := [10]) (by kernel_rfl) (by simp) ?_
          refine AllReady.cons (o := ?ob56_0) ?hob56_0 (fun K hK => ?kb56_0) AllReady.nil
          case hob56_0 => simp only [List.getElem?_toArray, List.getElem?_cons_succ, List.getElem?_cons_zero]; rfl
          have HP9 := Lib.hid (XP.below DB)
          refine op_appX _ _ 27 rfl etQ w6.heap.size rfl HP9.out rfl (rdP_new w7 ⟨.int .u8 ((kd : Nat) : Int), .slice a7 n_x c7, rfl, rfl⟩ 37) (by omega) (Nat.le_trans hbase DB.size) ?_
          intro a8 c8 w8 X8 hk8 hb8
          have Q9 := QX.below DB
          have Q8 := Q9.keepN (fun p q e1 e2 e3 => by
            obtain ⟨_, _, cs1, f1⟩ := Q9.typed p e1
            obtain ⟨_, _, cs2, f2⟩ := HP9.out.typed q e2
            rw [e3, f2] at f1
            simp at f1) hk8
          have HB8 := Lib.hid hb8
          have HK8 := Lib.hid hk8
          have HX8 := Lib.hid X8
          have HDB := Lib.hid DB
          clear t1 hb8 hk8 X8 DB Q9
          have t1 : w8.cell? ⟨g, i * 2 + 1, none⟩ = some (.slice ab nb cb) := by
            obtain ⟨b, off, e, t0, t1⟩ := Q8.rd.cell i hidx
            simp only [Option.some.injEq, Addr.mk.injEq, and_true] at e
            obtain ⟨rfl, rfl⟩ := e
            rw [Nat.zero_add, HPQ0.out, HV.out] at t1
            exact t1
          have f1 := Q8.free (i * 2 + 1)
          refine hK _ _ ?_
          clear hK K
          try simp only [Act.put, List.setIfInBounds_toArray, List.set_cons_zero, List.set_cons_succ]
          refine wpAny_take (i := 11) (oi := ?oir58_11) (v := ?vr58_11) ?hir58_11 (by kernel_rfl) (by kernel_rfl) (by kernel_rfl) ?hqr58_11 ?hyr58_11 ?restr58_11
          case hir58_11 => simp only [List.getElem?_toArray, List.getElem?_cons_succ, List.getElem?_cons_zero]; rfl
          case hqr58_11 => exact fun _ _ _ h => h
          case hyr58_11 => (refine Or.inl ⟨by rfl, ?_⟩; intro w; go_simp; all_goals with_reducible rfl)
          try simp only [Act.put, List.setIfInBounds_toArray, List.set_cons_zero, List.set_cons_succ]
          refine wpAny_take (i := 12) (oi := ?oir58_12) (v := ?vr58_12) ?hir58_12 (by kernel_rfl) (by kernel_rfl) (by kernel_rfl) ?hqr58_12 ?hyr58_12 ?restr58_12
          case hir58_12 => simp only [List.getElem?_toArray, List.getElem?_cons_succ, List.getElem?_cons_zero]; rfl
          case hqr58_12 => exact fun _ _ _ h => h
          case hyr58_12 => (refine Or.inl ⟨by rfl, ?_⟩; intro w; go_simp; all_goals with_reducible rfl)
          try simp only [Act.put, List.setIfInBounds_toArray, List.set_cons_zero, List.set_cons_succ]
          refine wpAny_ready (rs := [13]) (by kernel_rfl) (by simp) ?_
          refine (AllReady.cons (o := ?ob60_13) ?hob60_13 (fun K hK => ?kb60_13) AllReady.nil)
          case hob60_13 => simp only [List.getElem?_toArray, List.getElem?_cons_succ, List.getElem?_cons_zero]; rfl
          case kb60_13 =>
            go_simp
            refine hK _ _ ?_
            clear hK K
            try simp only [Act.put, List.setIfInBounds_toArray, List.set_cons_zero, List.set_cons_succ]
            refine wpAny_done (by kernel_rfl) ?_ _
            have Q10 := Q8.setV hidx (x := .slice a8 (nb + 1) c8) rfl
            have hg8 : ∃ cs, w8.heap[g]? = some (.cells cs 79 (0, 0)) := (Q8.typed _ rfl).2.2
            have hgb : w6.heap.size ≤ g := (Q8.typed _ rfl).1
            have B8 : Below w6.heap.size w6 w8 := (HBW.out.trans (HDB.out.mono HBW.out.size)).trans HB8.out
            have BW : Below w6.heap.size w6 (w8.setCell ⟨g, i * 2 + 1, none⟩ (.slice a8 (nb + 1) c8)) := B8.setCell hgb _
            have B10 : Below w.heap.size w (w8.setCell ⟨g, i * 2 + 1, none⟩ (.slice a8 (nb + 1) c8)) := HB0.out.trans (BW.mono HB0.out.size)
            have HABT : ∀ p, ab = some p → ∃ cs, (w7.alloc (.cells #[.int .u8 ((kd : Nat) : Int), .slice a7 n_x c7] 37)).heap[p.block]? = some (.cells cs 37 (0, 0)) := fun p e => (HP9.out.typed p e).2.2
            have HFIN := Lib.hid (show ∀ (j : Nat) x p, (L1.set i ⟨x0.nm, x0.bs ++ [⟨kd, ms⟩]⟩)[j]? = some x → (qs.set i ⟨(pth qs i).u, .slice a8 (nb + 1) c8, (pth qs i).hu, rfl⟩)[j]? = some p → batM w6.heap.size w6 (w8.setCell ⟨g, i * 2 + 1, none⟩ (.slice a8 (nb + 1) c8)) x p.u p.v from fun j x p h1 h2 => by
              obtain ⟨csg, hcg⟩ := hg8
              rcases pset_at h2 with ⟨e0, rfl⟩ | ⟨h3, h4⟩
              · rcases cset_at h1 with ⟨_, rfl⟩ | ⟨h5, _⟩
                · refine ⟨?_, a8, nb + 1, c8, rfl, OwM.keepT (OwM.snoc (y := ⟨kd, ms⟩) (p := ⟨.int .u8 ((kd : Nat) : Int), .slice a7 n_x c7, rfl, rfl⟩) HOL.out HP9.out (fun i y q e1 e2 => (HOF.out i y q e1 e2).below HDB.out) HX8.out HK8.out ⟨rfl, by show kd < 256; omega, a7, n_x, c7, rfl, .inr ((H7.out.below HAL.out).base_le HBL7.out)⟩) hcg (by decide) (by decide) (keepB_cell _ _ _ _)⟩
                  show (pth qs i).u = _
                  rw [HPQ0.out]
                  exact HU.out
                · exact absurd e0 h5
              · rcases cset_at h1 with ⟨h5, _⟩ | ⟨_, h6⟩
                · exact absurd h5 h3
                · have hj : j < qs.length := (List.getElem?_eq_some_iff.1 h4).1
                  refine (((HF1.out j x p h6 h4).below HDB.out).keepA HABT (fun p2 e1 e2 => ?_) HK8.out).keepT hcg (by decide) (by decide) (keepB_cell _ _ _ _)
                  exact HA1.out j i p qx p2.block (by rw [← HQL.out]; exact hj) hidx h3 h4 HQX.out e2 (by rw [HV.out, e1]; rfl))
            clear t1 f1
            go_wp2_with fail
            go_ret2
            refine ⟨some ⟨g, 0, none⟩, co, ?_, ?_, B10⟩
            · rw [HPUT.out, List.length_set, HL1.out]; rfl
            · rw [HPUT.out, List.length_set, HL1.out]
              refine ⟨by rw [List.length_set]; exact HL1.out, _, Q10.base_le HB0.out.size, fun j x p h1 h2 => ?_⟩
              obtain ⟨k1, ak, nk, ck, k2, k3⟩ := HFIN.out j x p h1 h2
              obtain ⟨k4, qk, k5, k6⟩ := k3.base_le HB0.out.size
              exact ⟨k1, ak, nk, ck, k2, k4, qk, k5, fun m y q f1 f2 => (k6 m y q f1 f2).any⟩

end Go.Proofs.Ythpjnbnheagpiaa
