/- Records: Check of valid ones. Conditions: valid records of at most three batches. Printed by gen_topr.py. -/
import Derived.Test.YthpjnbnheagpiaaTopQ
namespace Go.Proofs.Ythpjnbnheagpiaa
open Go.RowKit Go.Suf
set_option linter.unusedVariables false
set_option linter.unusedSimpArgs false

/-- 'x[:j]' of elements of two cells, as an equation on its run, in every world. -/
theorem run_upto2 {α : Type} {E : World → α → Value → Value → Prop} {P : Program} {w : World} {a1 : Option Addr} {n cap : Nat} {l : List α} {t e : TypeId} {bs : Nat} (T : ET2 P t e bs) (h : Rd2 E w a1 n cap l) (j : Nat) (hj : j ≤ n) :
    ∃ a', Rd2 E w a' j cap (l.take j) ∧ (∀ W, (Instr.sliceAt t (.slice a1 n cap) none (some (.int .i64 (j : Int))) none).run P W = .ok (.slice a' j cap) W) ∧
      (∀ W, (Instr.slice t (.slice a1 n cap) none (some (.int .i64 (j : Int))) none).run P W = .ok (.slice a' j cap) W) := by
  have hel : P.elem t = e := by
    have := T.ht
    simp [Program.elem, this]
  have ht' : P.underlying t = some (.slice (P.elem t)) := by rw [hel]; exact T.ht
  have hsz : ∀ W, (sizeOf e).run P W = .ok 2 W := fun W => by
    obtain ⟨i, z, hi, _, _, h1, _⟩ := T.info
    simp [sizeOf, typeInfo, hi, h1]
  have hle := h.le
  obtain ⟨a', e1, hr⟩ := sliced_rd2 h 0 j (Nat.zero_le _) hj
  simp only [Nat.sub_zero, List.drop_zero] at e1 hr
  have hrun : ∀ W, (Instr.slice t (.slice a1 n cap) none (some (.int .i64 (j : Int))) none).run P W = .ok (.slice a' j cap) W := by
    intro W
    rw [run_slice_h W t a1 n cap ht' .i64 j (by omega) (by omega), hel, hsz]
    simp [e1]
  exact ⟨a', hr, fun W => by rw [run_sliceAt_slice W t _ _ _ _ ht']; exact hrun W, hrun⟩
theorem RecW.new {kd : Nat} {cn : Int} {l : List CQ} (h : RecW kd cn l) {i : Nat} {x : CQ} (hx : l[i]? = some x) : plcI (l.take i) x.nm = -1 := by
  unfold plcI
  refine fstI_none fun j hj => ?_
  obtain ⟨hi, e⟩ := List.getElem?_eq_some_iff.1 hx
  rw [List.length_take] at hj
  have h1 : (l.take i)[j]? = some l[j] := by rw [List.getElem?_take_of_lt (by omega)]; exact List.getElem?_eq_getElem (by omega)
  rw [cth_of h1]
  cases hq : eqS l[j].nm x.nm with
  | false => rfl
  | true =>
    exfalso
    have h2 := eqS_iff.1 hq
    have h3 := h.dist
    rw [List.Nodup, List.pairwise_map, List.pairwise_iff_getElem] at h3
    exact h3 j i (by omega) hi (by omega) (by rw [h2, e])
set_option maxRecDepth 100000 in
set_option maxHeartbeats 4000000 in
theorem CheckR_any (w : World) (cn : Int) (hc1 : 1 ≤ cn) (hc2 : cn ≤ 10) (kd : Nat) (hk1 : 1 ≤ kd) (hk2 : kd ≤ 3) {a_l : Option Addr} {n_l c_l : Nat} {l : List CQ} (h_l : RdC w a_l n_l c_l l) (hW : RecW kd cn l) : Calls Try.prog 24 #[.slice a_l n_l c_l, .int .i64 cn, .int .u8 ((kd : Nat) : Int)] w (fun e w' => e = .returned (.int .i64 0) ∧ Below w.heap.size w w') := by
  have HL := Lib.hid h_l.len
  have hn := h_l.lt
  have HRC := Lib.hid h_l
  clear h_l
  have HW := Lib.hid hW
  have hn3 : n_l ≤ 3 := by rw [← HL.out]; exact hW.len
  clear hW
  have d1 : decide (cn < 1) = false := decide_eq_false (by omega)
  have d2 : decide (cn > 10) = false := decide_eq_false (by omega)
  have d3 : decide (10 < cn) = false := decide_eq_false (by omega)
  have d4 : decide (((kd : Nat) : Int) < 1) = false := decide_eq_false (by omega)
  have d5 : decide (((kd : Nat) : Int) > 3) = false := decide_eq_false (by omega)
  have d6 : decide (kd < 1) = false := decide_eq_false (by omega)
  have d7 : decide (3 < kd) = false := decide_eq_false (by omega)
  have hb16 : decide (((n_l : Nat) : Int) > 16) = false := decide_eq_false (by omega)
  have hb17 : decide (16 < ((n_l : Nat) : Int)) = false := decide_eq_false (by omega)
  go_enter Try.func24, Try.ntmps24
  go_wp2_with fail
  refine (containsSize_any w HRC.out (fun x hx => (HW.out.ok x hx).2.1)).mono ?_
  rintro e w1 ⟨rfl, hb⟩
  have B1 := hb
  clear hb d1 d2 d3 d4 d5 d6 d7 hb16 hb17
  go_wp2_with fail
  go_loopw [7, 32] (fun v7 v32 wr => ∃ i : Nat, i ≤ n_l ∧ v32 = .int .i64 (i : Nat) ∧ Below w.heap.size w wr) (fun _ v32 _ => n_l - (intOf v32).toNat)
  case atStart => exact ⟨0, Nat.zero_le _, rfl, B1⟩
  clear B1
  case round =>
    rename World => wr
    obtain ⟨i, hi, rfl, B⟩ := hrel
    by_cases hlt : i < n_l
    case neg =>
      obtain rfl : n_l = i := by omega
      go_wp2_with fail
      go_ret
      exact ⟨rfl, B⟩
    obtain ⟨x, hx⟩ : ∃ x, l[i]? = some x := ⟨_, List.getElem?_eq_getElem (by rw [HL.out]; exact hlt)⟩
    obtain ⟨ho, h64, hf⟩ := HW.out.ok x (List.mem_of_getElem? hx)
    have HNW := Lib.hid (HW.out.new hx)
    have HOD := Lib.hid ho
    have HFT := Lib.hid hf
    have HRL := Lib.hid (HRC.out.below batE_lasts B)
    obtain ⟨bb, oo, rfl, hcc⟩ := HRL.out.addr (by omega)
    obtain ⟨u1, v1, t0, t1, rfl, a_m, n_m, c_m, rfl, h_m⟩ := hcc i x hx
    have HM := Lib.hid h_m
    obtain ⟨a', hr', hs1, hs2⟩ := run_upto2 etC HRL.out i hi
    have HRT := Lib.hid hr'
    clear hcc hx ho h64 hf h_m hr'
    have R := (PRow.new 79 wr #[.string x.nm, .slice a_m n_m c_m]).base B
    have hal := below_al wr (.cells #[.string x.nm, .slice a_m n_m c_m] 79)
    have HRT1 := Lib.hid (HRT.out.below batE_lasts hal)
    have HM1 := Lib.hid (HM.out.below balE_lasts hal)
    clear HRT HM HRL B
    go_upto_region 8 with (first | refine wpList_store_new rfl 79 _ _ rfl atBat _ _ _ rfl rfl rfl rfl (bat_one _ _ _ _) ?_)
    clear t0 t1 hal
    obtain ⟨gb, hgb⟩ : ∃ gb, wr.heap.size = gb := ⟨_, rfl⟩
    rw [hgb] at R ⊢
    clear hgb
    generalize wr.alloc (.cells #[.string x.nm, .slice a_m n_m c_m] 79) = wa at *
    have hdw := (Below.refl wa.heap.size wa).drew
    have R2 := R.later hdw
    have HRT2 := Lib.hid (HRT1.out.below batE_lasts hdw)
    have HM2 := Lib.hid (HM1.out.below balE_lasts hdw)
    clear R HRT1 HM1 hdw
    have k0 := R2.cell 0 _ rfl
    have k1 := R2.cell 1 _ rfl
    refine wp_region_held_drew (S := (fun v => v.cell? ⟨gb, 0, none⟩ = some (.string x.nm) ∧ v.cell? ⟨gb, 1, none⟩ = some (.slice a_m n_m c_m))) (by kernel_rfl) ?_ (fun hHeld => ?_)
    · exact ⟨k0, k1⟩
    generalize wa.drew = w4 at *
    refine wpAnyH_take (i := 0) (oi := ?oir1_0) (v := ?vr1_0) ?hir1_0 (by kernel_rfl) (by kernel_rfl) (by kernel_rfl) ?hqr1_0 ?hyr1_0 (by assumption) ?restr1_0
    case hir1_0 => simp only [List.getElem?_toArray, List.getElem?_cons_succ, List.getElem?_cons_zero]; rfl
    case hqr1_0 => exact fun _ _ _ h => h
    case hyr1_0 => (refine Or.inl ⟨by rfl, ?_⟩; intro w hSw; (try dsimp only at hSw); go_simp; all_goals with_reducible rfl)
    try simp only [Act.put, List.setIfInBounds_toArray, List.set_cons_zero, List.set_cons_succ]
    refine wpAnyH_take (i := 1) (oi := ?oir1_1) (v := ?vr1_1) ?hir1_1 (by kernel_rfl) (by kernel_rfl) (by kernel_rfl) ?hqr1_1 ?hyr1_1 (by assumption) ?restr1_1
    case hir1_1 => simp only [List.getElem?_toArray, List.getElem?_cons_succ, List.getElem?_cons_zero]; rfl
    case hqr1_1 => exact fun _ _ _ h => h
    case hyr1_1 => (refine Or.inl ⟨by rfl, ?_⟩; intro w hSw; (try dsimp only at hSw); go_simp; all_goals with_reducible rfl)
    try simp only [Act.put, List.setIfInBounds_toArray, List.set_cons_zero, List.set_cons_succ]
    refine wpAnyH_take (i := 2) (oi := ?oir1_2) (v := ?vr1_2) ?hir1_2 (by kernel_rfl) (by kernel_rfl) (by kernel_rfl) ?hqr1_2 ?hyr1_2 (by assumption) ?restr1_2
    case hir1_2 => simp only [List.getElem?_toArray, List.getElem?_cons_succ, List.getElem?_cons_zero]; rfl
    case hqr1_2 => exact fun _ _ _ h => h
    case hyr1_2 => (refine Or.inl ⟨by rfl, ?_⟩; intro w hSw; (try dsimp only at hSw); go_simp; all_goals with_reducible rfl)
    try simp only [Act.put, List.setIfInBounds_toArray, List.set_cons_zero, List.set_cons_succ]
    refine wpAnyH_take (i := 3) (oi := ?oir1_3) (v := ?vr1_3) ?hir1_3 (by kernel_rfl) (by kernel_rfl) (by kernel_rfl) ?hqr1_3 ?hyr1_3 (by assumption) ?restr1_3
    case hir1_3 => simp only [List.getElem?_toArray, List.getElem?_cons_succ, List.getElem?_cons_zero]; rfl
    case hqr1_3 => exact fun _ _ _ h => h
    case hyr1_3 => (refine Or.inl ⟨by rfl, ?_⟩; intro w hSw; (try dsimp only at hSw); go_simp; all_goals with_reducible rfl)
    try simp only [Act.put, List.setIfInBounds_toArray, List.set_cons_zero, List.set_cons_succ]
    refine wpAnyH_ready (rs := [4]) (by kernel_rfl) (by simp) ?_
    refine AllReadyH.cons (o := ?oz2) ?hoz2 (fun K hK => ?kz2) AllReadyH.nil
    case hoz2 => simp only [List.getElem?_toArray, List.getElem?_cons_succ, List.getElem?_cons_zero]; rfl
    go_simp
    refine (mayRow_any w4 x.nm cn kd (by omega) HM2.out HOD.out HFT.out).mono ?_
    rintro e w5 ⟨rfl, hb⟩
    have R3 := R2.later hb
    have HRT3 := Lib.hid (HRT2.out.below batE_lasts hb)
    clear k0 k1 R2 HRT2 HM2 hb
    have k0 := R3.cell 0 _ rfl
    have k1 := R3.cell 1 _ rfl
    go_wp2_with fail
    refine hK.out _ _ ?_ (fun hHeld => ?_)
    · exact ⟨k0, k1⟩
    clear hK K
    try simp only [Act.put, List.setIfInBounds_toArray, List.set_cons_zero, List.set_cons_succ]
    refine wpAnyH_take (i := 5) (oi := ?oir3_5) (v := ?vr3_5) ?hir3_5 (by kernel_rfl) (by kernel_rfl) (by kernel_rfl) ?hqr3_5 ?hyr3_5 (by assumption) ?restr3_5
    case hir3_5 => simp only [List.getElem?_toArray, List.getElem?_cons_succ, List.getElem?_cons_zero]; rfl
    case hqr3_5 => exact fun _ _ _ h => h
    case hyr3_5 => (refine Or.inl ⟨by rfl, ?_⟩; intro w hSw; (try dsimp only at hSw); go_simp; all_goals with_reducible rfl)
    try simp only [Act.put, List.setIfInBounds_toArray, List.set_cons_zero, List.set_cons_succ]
    refine wpAnyH_take (i := 6) (oi := ?oir3_6) (v := ?vr3_6) ?hir3_6 (by kernel_rfl) (by kernel_rfl) (by kernel_rfl) ?hqr3_6 ?hyr3_6 (by assumption) ?restr3_6
    case hir3_6 => simp only [List.getElem?_toArray, List.getElem?_cons_succ, List.getElem?_cons_zero]; rfl
    case hqr3_6 => exact fun _ _ _ h => h
    case hyr3_6 => (refine Or.inl ⟨by rfl, ?_⟩; intro w hSw; (try dsimp only at hSw); go_simp; all_goals with_reducible rfl)
    try simp only [Act.put, List.setIfInBounds_toArray, List.set_cons_zero, List.set_cons_succ]
    refine wpAnyH_take (i := 7) (oi := ?oir3_7) (v := ?vr3_7) ?hir3_7 (by kernel_rfl) (by kernel_rfl) (by kernel_rfl) ?hqr3_7 ?hyr3_7 (by assumption) ?restr3_7
    case hir3_7 => simp only [List.getElem?_toArray, List.getElem?_cons_succ, List.getElem?_cons_zero]; rfl
    case hqr3_7 => exact fun _ _ _ h => h
    case hyr3_7 => (refine Or.inl ⟨by rfl, ?_⟩; intro w hSw; (try dsimp only at hSw); go_simp; all_goals with_reducible rfl)
    try simp only [Act.put, List.setIfInBounds_toArray, List.set_cons_zero, List.set_cons_succ]
    refine wpAnyH_take (i := 8) (oi := ?oir3_8) (v := ?vr3_8) ?hir3_8 (by kernel_rfl) (by kernel_rfl) (by kernel_rfl) ?hqr3_8 ?hyr3_8 (by assumption) ?restr3_8
    case hir3_8 => simp only [List.getElem?_toArray, List.getElem?_cons_succ, List.getElem?_cons_zero]; rfl
    case hqr3_8 => exact fun _ _ _ h => h
    case hyr3_8 => (refine Or.inl ⟨by rfl, ?_⟩; intro w hSw; (try dsimp only at hSw); go_simp; all_goals with_reducible rfl)
    try simp only [Act.put, List.setIfInBounds_toArray, List.set_cons_zero, List.set_cons_succ]
    refine wpAnyH_take (i := 9) (oi := ?oir3_9) (v := ?vr3_9) ?hir3_9 (by kernel_rfl) (by kernel_rfl) (by kernel_rfl) ?hqr3_9 ?hyr3_9 (by assumption) ?restr3_9
    case hir3_9 => simp only [List.getElem?_toArray, List.getElem?_cons_succ, List.getElem?_cons_zero]; rfl
    case hqr3_9 => exact fun _ _ _ h => h
    case hyr3_9 => (refine Or.inl ⟨by rfl, ?_⟩; intro w hSw; (try dsimp only at hSw); go_simp; all_goals with_reducible rfl)
    try simp only [Act.put, List.setIfInBounds_toArray, List.set_cons_zero, List.set_cons_succ]
    refine wpAnyH_take (i := 10) (oi := ?oir3_10) (v := ?vr3_10) ?hir3_10 (by kernel_rfl) (by kernel_rfl) (by kernel_rfl) ?hqr3_10 ?hyr3_10 (by assumption) ?restr3_10
    case hir3_10 => simp only [List.getElem?_toArray, List.getElem?_cons_succ, List.getElem?_cons_zero]; rfl
    case hqr3_10 => exact fun _ _ _ h => h
    case hyr3_10 => (refine Or.inl ⟨by rfl, ?_⟩; intro w hSw; (try dsimp only at hSw); go_simp; all_goals with_reducible rfl)
    try simp only [Act.put, List.setIfInBounds_toArray, List.set_cons_zero, List.set_cons_succ]
    refine wpAnyH_take (i := 11) (oi := ?oir3_11) (v := ?vr3_11) ?hir3_11 (by kernel_rfl) (by kernel_rfl) (by kernel_rfl) ?hqr3_11 ?hyr3_11 (by assumption) ?restr3_11
    case hir3_11 => simp only [List.getElem?_toArray, List.getElem?_cons_succ, List.getElem?_cons_zero]; rfl
    case hqr3_11 => exact fun _ _ _ h => h
    case hyr3_11 => (refine Or.inl ⟨by rfl, ?_⟩; intro w hSw; (try dsimp only at hSw); go_simp; all_goals with_reducible rfl)
    try simp only [Act.put, List.setIfInBounds_toArray, List.set_cons_zero, List.set_cons_succ]
    refine wpAnyH_ready (rs := [12]) (by kernel_rfl) (by simp) ?_
    refine AllReadyH.cons (o := ?oz4) ?hoz4 (fun K hK => ?kz4) AllReadyH.nil
    case hoz4 => simp only [List.getElem?_toArray, List.getElem?_cons_succ, List.getElem?_cons_zero]; rfl
    go_simp
    have c := placeC_any w5 HRT3.out x.nm
    rw [HNW.out] at c
    refine c.mono ?_
    rintro e w6 ⟨rfl, hb⟩
    clear c
    have R4 := R3.later hb
    clear k0 k1 R3 HRT3 hb
    have k0 := R4.cell 0 _ rfl
    have k1 := R4.cell 1 _ rfl
    go_wp2_with fail
    refine hK.out _ _ ?_ (fun hHeld => ?_)
    · exact ⟨k0, k1⟩
    clear hK K
    try simp only [Act.put, List.setIfInBounds_toArray, List.set_cons_zero, List.set_cons_succ]
    refine wpAnyH_take (i := 13) (oi := ?oir5_13) (v := ?vr5_13) ?hir5_13 (by kernel_rfl) (by kernel_rfl) (by kernel_rfl) ?hqr5_13 ?hyr5_13 (by assumption) ?restr5_13
    case hir5_13 => simp only [List.getElem?_toArray, List.getElem?_cons_succ, List.getElem?_cons_zero]; rfl
    case hqr5_13 => exact fun _ _ _ h => h
    case hyr5_13 => (refine Or.inl ⟨by rfl, ?_⟩; intro w hSw; (try dsimp only at hSw); go_simp; all_goals with_reducible rfl)
    try simp only [Act.put, List.setIfInBounds_toArray, List.set_cons_zero, List.set_cons_succ]
    refine wpAnyH_take (i := 14) (oi := ?oir5_14) (v := ?vr5_14) ?hir5_14 (by kernel_rfl) (by kernel_rfl) (by kernel_rfl) ?hqr5_14 ?hyr5_14 (by assumption) ?restr5_14
    case hir5_14 => simp only [List.getElem?_toArray, List.getElem?_cons_succ, List.getElem?_cons_zero]; rfl
    case hqr5_14 => exact fun _ _ _ h => h
    case hyr5_14 => (refine Or.inl ⟨by rfl, ?_⟩; intro w hSw; (try dsimp only at hSw); go_simp; all_goals with_reducible rfl)
    try simp only [Act.put, List.setIfInBounds_toArray, List.set_cons_zero, List.set_cons_succ]
    refine wpAnyH_done (by kernel_rfl) ?_ _
    clear hHeld k0 k1
    have B4 := R4.below
    clear R4
    go_wp2_with fail
    go_roundw
    case rel => exact ⟨i + 1, by omega, by go_num, B4⟩
    case measure => simp [intOf]; omega

end Go.Proofs.Ythpjnbnheagpiaa
