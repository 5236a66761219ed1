/- Observe of comparison audits. Printed by gen_cmpo.py. -/
import Derived.Test.YtmkcdlhhbnakiaaCmpS
import Derived.Test.YtmkcdlhhbnakiaaCmpG
namespace Go.Proofs.Ytmkcdlhhbnakiaa
open Go.RowKit Go.Suf
set_option linter.unusedVariables false
set_option linter.unusedSimpArgs false

/-- What holds in front of the k-th overstatement: the audit lies in block g, laid behind w. -/
def ObA (w wr : World) (g : Nat) (p : CV) (vs : List Int) (k : Nat) : Prop :=
  ∃ q L B a n c b m d, PRow 66 w wr g (cmC q a n c b m d) ∧ Rd .u32 wr a n c (limbs L) ∧ Rd .u32 wr b m d (limbs B) ∧ obsNC p (vs.take k) = some q ∧ VldC q L B

theorem RetSee.below {wb : World} {k : Nat} {q : CV} {x : Int} {e : Ending} {w' : World} (h : RetSee wb k q x e w') : Below wb.heap.size wb w' := by
  rcases h with ⟨-, -, h⟩ | ⟨a, n, c, b, m, d, -, -, h, -, -⟩
  · exact h
  · exact h.below

set_option maxRecDepth 100000 in
set_option maxHeartbeats 8000000 in
theorem cmObserve_any (w : World) {p : CV} {a b : Option Addr} {n m c d : Nat} (h1 : Rd .u32 w a n c p.lev) (h2 : Rd .u32 w b m d p.best) (hw : CW p)
    {av : Option Addr} {nv cv : Nat} {vs : List Int} (hv : RdI w av nv cv vs) :
    Calls Try.prog 11 #[cmV p a n c b m d, .slice av nv cv] w (RetCE w (obsCC p vs)) := by
  obtain ⟨r, hr⟩ : ∃ r, r = obsCC p vs := ⟨_, rfl⟩
  rw [← hr]
  obtain ⟨R0, R1⟩ := cm_blocks w (cmC p a n c b m d)
  have k0 := R0.cell 0 _ rfl
  have k1 := R0.cell 1 _ rfl
  have k2 := R0.cell 2 _ rfl
  have k3 := R0.cell 3 _ rfl
  have k4 := R0.cell 4 _ rfl
  have k5 := R0.cell 5 _ rfl
  have k6 := R0.cell 6 _ rfl
  have k7 := R0.cell 7 _ rfl
  have k8 := R0.cell 8 _ rfl
  have k9 := R0.cell 9 _ rfl
  have hn := hv.lt
  have HL := Lib.hid hv.len
  by_cases hc : chkC p = 0
  case neg =>
    have e := Lib.hid (show r = (zeroCV, 8) by rw [hr]; exact obsCC_bad hc)
    have C := Lib.hid ((chkC_two _).resolve_left hc)
    clear hr hc
    go_enter Try.func11, Try.ntmps11
    go_wp2_with fail
    have cc := cmCheck_any _ (h1.below R0.below) (h2.below R0.below) hw
    rw [C.out] at cc
    refine cc.mono ?_
    rintro e1 w1 ⟨rfl, hb⟩
    have R1 := R1.later hb
    have row1 := R1.row
    have HB := Lib.hid (fun cs => below_row R1.below R1.lo cs)
    clear cc hb
    go_wp2_with (refine wpList_store_whole rfl 25 _ _ rfl atCmp _ _ _ row1 rfl rfl rfl rfl (cm_one zeroCV _ _ _ _ _ _) ?_)
    refine bodyPost_ret (results_cell_two rfl _ _ _ _ _ _ _ rfl (setRow_heap _ _ _ _ _ _ row1) Try.underlying25 rfl (by kernel_rfl) _ rfl) rfl ?_
    refine ⟨none, 0, 0, none, 0, 0, by rw [e.out]; rfl, ?_, ?_, HB.out _⟩
    · rw [e.out]; exact Rd.nil _ _
    · rw [e.out]; exact Rd.nil _ _
  case pos =>
  obtain ⟨L0, B0, vld0⟩ := chkC_get (fun x hx => h1.bd x hx) (fun x hx => h2.bd x hx) hc
  have C := Lib.hid hc
  have HR := Lib.hid hr
  have VL := Lib.hid vld0
  clear hr hc vld0
  go_enter Try.func11, Try.ntmps11
  go_wp2_with fail
  have cc := cmCheck_any _ (h1.below R0.below) (h2.below R0.below) hw
  rw [C.out] at cc
  refine cc.mono ?_
  rintro e1 w1 ⟨rfl, hb⟩
  clear cc k0 k1 k2 k3 k4 k5 k6 k7 k8 k9
  have R0 := R0.later hb
  have R1 := R1.later hb
  have x1 := h1.below R0.below
  have x2 := h2.below R0.below
  have k0 := R0.cell 0 _ rfl
  have k1 := R0.cell 1 _ rfl
  have k2 := R0.cell 2 _ rfl
  have k3 := R0.cell 3 _ rfl
  have k4 := R0.cell 4 _ rfl
  have k5 := R0.cell 5 _ rfl
  have k6 := R0.cell 6 _ rfl
  have k7 := R0.cell 7 _ rfl
  have k8 := R0.cell 8 _ rfl
  have k9 := R0.cell 9 _ rfl
  have RA : PRow 66 w1 _ _ _ := PRow.new 66 w1 (cmC p a n c b m d)
  clear hb
  have x1 := x1.below RA.below
  have x2 := x2.below RA.below
  have G0 := R0.later RA.below
  have SZ := Lib.hid (show n ≤ 1099511627776 ∧ m ≤ 1099511627776 by
    have u1 := x1.len
    have u2 := x2.len
    rw [VL.out.lev] at u1
    rw [VL.out.best] at u2
    have v1 := limbs_len_le VL.out.pw.1
    have v2 := limbs_len_le VL.out.pw.2
    omega)
  go_upto_region 5 with fail
  clear k0 k1 k2 k3 k4 k5 k6 k7 k8 k9
  generalize hK : w1.heap.size = K at *
  generalize w1.alloc (.cells (cmC p a n c b m d) 66) = w2 at *
  have hb := (Below.refl w2.heap.size w2).drew
  have RA := RA.later hb
  have G0 := G0.later hb
  have x1 := x1.below hb
  have x2 := x2.below hb
  clear hb
  refine wp_region_held_drew (S := (fun w' => w'.cell? ⟨w.heap.size, 8, none⟩ = some (.slice a n c) ∧ w'.cell? ⟨w.heap.size, 9, none⟩ = some (.slice b m d))) (by kernel_rfl) ?_ (fun hHeld => ?_)
  · exact ⟨G0.cell 8 _ rfl, G0.cell 9 _ rfl⟩
  generalize w2.drew = w3 at *
  refine wpAnyH_take (i := 0) (oi := ?a1_0) (v := ?b1_0) ?c1_0 (by kernel_rfl) (by kernel_rfl) (by kernel_rfl) ?d1_0 ?e1_0 (by assumption) ?f1_0
  case c1_0 => simp only [tA, tS, tZ]; rfl
  case d1_0 => exact fun _ _ _ h => h
  case e1_0 => (refine Or.inl ⟨by rfl, ?_⟩; intro w h; (try dsimp only at h); go_simp; all_goals with_reducible rfl)
  try simp only [Act.put, tI, tP, tQ]
  refine wpAnyH_take (i := 1) (oi := ?a1_1) (v := ?b1_1) ?c1_1 (by kernel_rfl) (by kernel_rfl) (by kernel_rfl) ?d1_1 ?e1_1 (by assumption) ?f1_1
  case c1_1 => simp only [tA, tS, tZ]; rfl
  case d1_1 => exact fun _ _ _ h => h
  case e1_1 => (refine Or.inl ⟨by rfl, ?_⟩; intro w h; (try dsimp only at h); go_simp; all_goals with_reducible rfl)
  try simp only [Act.put, tI, tP, tQ]
  refine wpAnyH_take (i := 2) (oi := ?a1_2) (v := ?b1_2) ?c1_2 (by kernel_rfl) (by kernel_rfl) (by kernel_rfl) ?d1_2 ?e1_2 (by assumption) ?f1_2
  case c1_2 => simp only [tA, tS, tZ]; rfl
  case d1_2 => exact fun _ _ _ h => h
  case e1_2 => (refine Or.inl ⟨by rfl, ?_⟩; intro w h; (try dsimp only at h); go_simp; all_goals with_reducible rfl)
  try simp only [Act.put, tI, tP, tQ]
  refine wpAnyH_take (i := 3) (oi := ?a1_3) (v := ?b1_3) ?c1_3 (by kernel_rfl) (by kernel_rfl) (by kernel_rfl) ?d1_3 ?e1_3 (by assumption) ?f1_3
  case c1_3 => simp only [tA, tS, tZ]; rfl
  case d1_3 => exact fun _ _ _ h => h
  case e1_3 => (refine Or.inl ⟨by rfl, ?_⟩; intro w h; (try dsimp only at h); go_simp; all_goals with_reducible rfl)
  try simp only [Act.put, tI, tP, tQ]
  refine wpAnyH_take (i := 5) (oi := ?a1_5) (v := ?b1_5) ?c1_5 (by kernel_rfl) (by kernel_rfl) (by kernel_rfl) ?d1_5 ?e1_5 (by assumption) ?f1_5
  case c1_5 => simp only [tA, tS, tZ]; rfl
  case d1_5 => exact fun _ _ _ h => h
  case e1_5 => (refine Or.inl ⟨by rfl, ?_⟩; intro w h; (try dsimp only at h); go_simp; all_goals with_reducible rfl)
  try simp only [Act.put, tI, tP, tQ]
  refine wpAnyH_take (i := 6) (oi := ?a1_6) (v := ?b1_6) ?c1_6 (by kernel_rfl) (by kernel_rfl) (by kernel_rfl) ?d1_6 ?e1_6 (by assumption) ?f1_6
  case c1_6 => simp only [tA, tS, tZ]; rfl
  case d1_6 => exact fun _ _ _ h => h
  case e1_6 => (refine Or.inl ⟨by rfl, ?_⟩; intro w h; (try dsimp only at h); go_simp; all_goals with_reducible rfl)
  try simp only [Act.put, tI, tP, tQ]
  refine wpAnyH_ready (rs := [4]) (by kernel_rfl) (by simp) ?_
  refine AllReadyH.cons (o := ?or2_4) ?hor2_4 (fun K hK => ?kr2_4) AllReadyH.nil
  case hor2_4 => simp only [List.getElem?_toArray, List.getElem?_cons_succ, List.getElem?_cons_zero]; rfl
  go_simp
  refine (Clone_any w3 x1 SZ.out.1).mono ?_
  rintro e2 w4 ⟨a1, n1, c1, rfl, y1, hb⟩
  have RA := RA.later hb
  have G0 := G0.later hb
  have x1 := x1.below hb
  have x2 := x2.below hb
  clear hb
  go_wp2_with fail
  refine hK.out _ _ ?_ (fun hHeld => ?_)
  · exact ⟨G0.cell 8 _ rfl, G0.cell 9 _ rfl⟩
  clear hK K
  try simp only [Act.put, List.setIfInBounds_toArray, List.set_cons_zero, List.set_cons_succ]
  refine wpAnyH_ready (rs := [7]) (by kernel_rfl) (by simp) ?_
  refine AllReadyH.cons (o := ?or3_7) ?hor3_7 (fun K hK => ?kr3_7) AllReadyH.nil
  case hor3_7 => simp only [List.getElem?_toArray, List.getElem?_cons_succ, List.getElem?_cons_zero]; rfl
  go_simp
  refine (Clone_any w4 x2 SZ.out.2).mono ?_
  rintro e2 w5 ⟨a2, n2, c2, rfl, y2, hb⟩
  have RA := RA.later hb
  have G0 := G0.later hb
  have x1 := x1.below hb
  have x2 := x2.below hb
  have y1 := y1.below hb
  clear hb
  go_wp2_with fail
  refine hK.out _ _ ?_ (fun hHeld => ?_)
  · exact ⟨G0.cell 8 _ rfl, G0.cell 9 _ rfl⟩
  clear hK K
  try simp only [Act.put, List.setIfInBounds_toArray, List.set_cons_zero, List.set_cons_succ]
  refine wpAnyH_take (i := 8) (oi := ?a4_8) (v := ?b4_8) ?c4_8 (by kernel_rfl) (by kernel_rfl) (by kernel_rfl) ?d4_8 ?e4_8 (by assumption) ?f4_8
  case c4_8 => simp only [tA, tS, tZ]; rfl
  case d4_8 => exact fun _ _ _ h => h
  case e4_8 => (refine Or.inl ⟨by rfl, ?_⟩; intro w h; (try dsimp only at h); go_simp; all_goals with_reducible rfl)
  try simp only [Act.put, tI, tP, tQ]
  refine wpAnyH_take (i := 9) (oi := ?a4_9) (v := ?b4_9) ?c4_9 (by kernel_rfl) (by kernel_rfl) (by kernel_rfl) ?d4_9 ?e4_9 (by assumption) ?f4_9
  case c4_9 => simp only [tA, tS, tZ]; rfl
  case d4_9 => exact fun _ _ _ h => h
  case e4_9 => (refine Or.inl ⟨by rfl, ?_⟩; intro w h; (try dsimp only at h); go_simp; all_goals with_reducible rfl)
  try simp only [Act.put, tI, tP, tQ]
  refine wpAnyH_take (i := 10) (oi := ?a4_10) (v := ?b4_10) ?c4_10 (by kernel_rfl) (by kernel_rfl) (by kernel_rfl) ?d4_10 ?e4_10 (by assumption) ?f4_10
  case c4_10 => simp only [tA, tS, tZ]; rfl
  case d4_10 => exact fun _ _ _ h => h
  case e4_10 => (refine Or.inl ⟨by rfl, ?_⟩; intro w h; (try dsimp only at h); go_simp; all_goals with_reducible rfl)
  try simp only [Act.put, tI, tP, tQ]
  have fr8 := RA.free 8
  have k8 := RA.cell 8 _ rfl
  have RB : PRow 66 w1 (w5.setCell ⟨K, 8, none⟩ (.slice a1 n1 c1)) K (cmC p a1 n1 c1 b m d) := RA.set 8 (.slice a1 n1 c1)
  have y1 := rd_setcell (i := 8) y1 RA.row (cm_noint _ _ _ _ _ _ _) (.slice a1 n1 c1)
  have y2 := rd_setcell (i := 8) y2 RA.row (cm_noint _ _ _ _ _ _ _) (.slice a1 n1 c1)
  have G1 := G0.other (p := ⟨K, 8, none⟩) (by show w.heap.size ≠ K; have := R0.lt; omega) (by show w.heap.size ≤ K; have := R0.lt; omega) (.slice a1 n1 c1)
  refine wpAnyH_ready (rs := [11]) (by kernel_rfl) (by simp) ?_
  refine AllReadyH.cons (o := ?or5_11) ?hor5_11 (fun K hK => ?kr5_11) AllReadyH.nil
  case hor5_11 => simp only [List.getElem?_toArray, List.getElem?_cons_succ, List.getElem?_cons_zero]; rfl
  go_simp
  refine hK.out _ _ ?_ (fun hHeld => ?_)
  · exact ⟨G1.cell 8 _ rfl, G1.cell 9 _ rfl⟩
  clear hK K
  try simp only [Act.put, List.setIfInBounds_toArray, List.set_cons_zero, List.set_cons_succ]
  clear fr8 k8 RA G0
  generalize w5.setCell ⟨K, 8, none⟩ (.slice a1 n1 c1) = w6 at *
  refine wpAnyH_take (i := 12) (oi := ?a6_12) (v := ?b6_12) ?c6_12 (by kernel_rfl) (by kernel_rfl) (by kernel_rfl) ?d6_12 ?e6_12 (by assumption) ?f6_12
  case c6_12 => simp only [tA, tS, tZ]; rfl
  case d6_12 => exact fun _ _ _ h => h
  case e6_12 => (refine Or.inl ⟨by rfl, ?_⟩; intro w h; (try dsimp only at h); go_simp; all_goals with_reducible rfl)
  try simp only [Act.put, tI, tP, tQ]
  refine wpAnyH_take (i := 13) (oi := ?a6_13) (v := ?b6_13) ?c6_13 (by kernel_rfl) (by kernel_rfl) (by kernel_rfl) ?d6_13 ?e6_13 (by assumption) ?f6_13
  case c6_13 => simp only [tA, tS, tZ]; rfl
  case d6_13 => exact fun _ _ _ h => h
  case e6_13 => (refine Or.inl ⟨by rfl, ?_⟩; intro w h; (try dsimp only at h); go_simp; all_goals with_reducible rfl)
  try simp only [Act.put, tI, tP, tQ]
  refine wpAnyH_take (i := 14) (oi := ?a6_14) (v := ?b6_14) ?c6_14 (by kernel_rfl) (by kernel_rfl) (by kernel_rfl) ?d6_14 ?e6_14 (by assumption) ?f6_14
  case c6_14 => simp only [tA, tS, tZ]; rfl
  case d6_14 => exact fun _ _ _ h => h
  case e6_14 => (refine Or.inl ⟨by rfl, ?_⟩; intro w h; (try dsimp only at h); go_simp; all_goals with_reducible rfl)
  try simp only [Act.put, tI, tP, tQ]
  have fr9 := RB.free 9
  have k9 := RB.cell 9 _ rfl
  have RC : PRow 66 w1 (w6.setCell ⟨K, 9, none⟩ (.slice a2 n2 c2)) K (cmC p a1 n1 c1 a2 n2 c2) := RB.set 9 (.slice a2 n2 c2)
  have y1 := rd_setcell (i := 9) y1 RB.row (cm_noint _ _ _ _ _ _ _) (.slice a2 n2 c2)
  have y2 := rd_setcell (i := 9) y2 RB.row (cm_noint _ _ _ _ _ _ _) (.slice a2 n2 c2)
  have G2 := G1.other (p := ⟨K, 9, none⟩) (by show w.heap.size ≠ K; have := R0.lt; omega) (by show w.heap.size ≤ K; have := R0.lt; omega) (.slice a2 n2 c2)
  refine wpAnyH_ready (rs := [15]) (by kernel_rfl) (by simp) ?_
  refine AllReadyH.cons (o := ?or7_15) ?hor7_15 (fun K hK => ?kr7_15) AllReadyH.nil
  case hor7_15 => simp only [List.getElem?_toArray, List.getElem?_cons_succ, List.getElem?_cons_zero]; rfl
  go_simp
  refine hK.out _ _ ?_ (fun hHeld => ?_)
  · exact ⟨G2.cell 8 _ rfl, G2.cell 9 _ rfl⟩
  clear hK K
  try simp only [Act.put, List.setIfInBounds_toArray, List.set_cons_zero, List.set_cons_succ]
  clear fr9 k9 RB G1 G2
  generalize w6.setCell ⟨K, 9, none⟩ (.slice a2 n2 c2) = w7 at *
  refine wpAnyH_done (by kernel_rfl) ?_ _
  clear hHeld
  have start : ObA w1 w7 K p vs 0 := ⟨p, L0, B0, a1, n1, c1, a2, n2, c2, RC, by rw [← VL.out.lev]; exact y1, by rw [← VL.out.best]; exact y2, rfl, VL.out⟩
  clear RC y1 y2 x1 x2 hK
  go_wp2_with fail
  go_loopw [38] (fun i wr => ∃ (k : Nat), k ≤ nv ∧ i = .int .i64 (k : Nat) ∧ ObA w1 wr K p vs k) (fun i _ => nv - (intOf i).toNat)
  case atStart => exact ⟨0, Nat.zero_le _, rfl, start⟩
  case round =>
    obtain ⟨k, hk, rfl, q, L, B, a', n', c', b', m', d', R, ra, rb, ho, hvld⟩ := hrel
    have HO := Lib.hid ho
    have vld := Lib.hid hvld
    clear ho hvld start
    have R1r := R1.later R.below
    by_cases hlt : k < nv
    · obtain ⟨bv, off, rfl, hall⟩ := ((hv.below R1.below).below R.below).addr (by omega)
      have hcell := hall k hlt
      obtain ⟨x, hx⟩ : ∃ x, x = ith vs k := ⟨_, rfl⟩
      rw [← hx] at hcell
      have HX := Lib.hid hx
      have HLT := Lib.hid hlt
      clear hx hall R1r
      go_wp2_with fail
      have cc := see_any w1 wr R ra rb vld.out x
      refine cc.mono ?_
      rintro e1 w8 hs
      clear cc hcell ra rb R
      have hb := hs.below
      have R1 := R1.later hb
      clear hb
      rcases hs with ⟨o, rfl, -⟩ | ⟨a3, n3, c3, b3, m3, d3, o, rfl, R3, z1, z2⟩
      · have e := Lib.hid (show r = (zeroCV, 2) by
          rw [HR.out]
          exact obsCC_none C.out (obsNC_fail (k := k + 1) (by rw [obsNC_snoc HO.out (by rw [HL.out]; exact HLT.out), ← HX.out]; exact o)))
        have row1 := R1.row
        have HB := Lib.hid (fun cs => below_row R1.below R1.lo cs)
        clear o
        go_wp2_with (refine wpList_store_whole rfl 25 _ _ rfl atCmp _ _ _ row1 rfl rfl rfl rfl (cm_one zeroCV _ _ _ _ _ _) ?_)
        refine bodyPost_ret (results_cell_two rfl _ _ _ _ _ _ _ rfl (setRow_heap _ _ _ _ _ _ row1) Try.underlying25 rfl (by kernel_rfl) _ rfl) rfl ?_
        refine ⟨none, 0, 0, none, 0, 0, by rw [e.out]; rfl, ?_, ?_, HB.out _⟩
        · rw [e.out]; exact Rd.nil _ _
        · rw [e.out]; exact Rd.nil _ _
      · obtain ⟨L', B', v', -⟩ := obs1C_vld vld.out o
        have FIN : Hid (ObA w1 w8 K p vs (k + 1)) := Lib.hid ⟨stepC q x, L', B', a3, n3, c3, b3, m3, d3, R3, by rw [← v'.lev]; exact z1, by rw [← v'.best]; exact z2, by rw [obsNC_snoc HO.out (by rw [HL.out]; exact HLT.out), ← HX.out]; exact o, v'⟩
        clear o v' R3 z1 z2 R1
        go_wp2_with fail
        go_roundw
        case rel => exact ⟨k + 1, by have := HLT.out; omega, by go_num, FIN.out⟩
        case measure => simp [intOf]; have := HLT.out; omega
    · obtain rfl : k = nv := by omega
      have e := Lib.hid (show r = (q, 0) by
        rw [HR.out]
        exact obsCC_some C.out (by rw [← HO.out, List.take_of_length_le (by rw [HL.out]; exact Nat.le_refl _)]))
      have row1 := R1r.row
      have HB := Lib.hid (fun cs => below_row R1r.below R1r.lo cs)
      have fin := Lib.hid (fun cs => (⟨rd_rowset ra row1 (cm_noint zeroCV _ _ _ _ _ _) cs, rd_rowset rb row1 (cm_noint zeroCV _ _ _ _ _ _) cs⟩ : _ ∧ _))
      have k0 := R.cell 0 _ rfl
      have k1 := R.cell 1 _ rfl
      have k2 := R.cell 2 _ rfl
      have k3 := R.cell 3 _ rfl
      have k4 := R.cell 4 _ rfl
      have k5 := R.cell 5 _ rfl
      have k6 := R.cell 6 _ rfl
      have k7 := R.cell 7 _ rfl
      have k8 := R.cell 8 _ rfl
      have k9 := R.cell 9 _ rfl
      clear ra rb
      go_wp2_with (refine wpList_store_whole rfl 25 _ _ rfl atCmp _ _ _ row1 rfl rfl rfl rfl (cm_one q _ _ _ _ _ _) ?_)
      refine bodyPost_ret (results_cell_two rfl _ _ _ _ _ _ _ rfl (setRow_heap _ _ _ _ _ _ row1) Try.underlying25 rfl (by kernel_rfl) _ rfl) rfl ?_
      refine ⟨a', n', c', b', m', d', by rw [e.out]; rfl, ?_, ?_, HB.out _⟩
      · rw [e.out, vld.out.lev]; exact (fin.out _).1
      · rw [e.out, vld.out.best]; exact (fin.out _).2

end Go.Proofs.Ytmkcdlhhbnakiaa
