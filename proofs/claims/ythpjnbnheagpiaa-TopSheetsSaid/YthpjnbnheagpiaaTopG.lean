/- Profiles: Check of valid ones. Conditions: valid profiles of at most 1,000 ballots. Printed by gen_topg.py. -/
import Derived.Test.YthpjnbnheagpiaaSheF
namespace Go.Proofs.Ythpjnbnheagpiaa
open Go.RowKit Go.Suf
set_option linter.unusedVariables false
set_option linter.unusedSimpArgs false

/-- The row's numbers add up. -/
def sumR (rs : List RwQ) : Int := (rs.map RwQ.many).sum
theorem blk_neT {w0 w1 w : World} {a b : Nat} {c1 c2 : Array Value} {t1 t2 : TypeId} (h1 : PRow t1 w0 w a c1) (h2 : PRow t2 w1 w b c2) (hne : t1 ≠ t2) : a ≠ b := by
  rintro rfl
  have h3 := h1.row
  rw [h2.row] at h3
  simp at h3
  exact hne h3.2.symm

set_option maxRecDepth 100000 in
set_option maxHeartbeats 4000000 in
theorem checkRow_any (w : World) {w0 : World} {gf gs gp : Nat} {fi : Bool} {s : Int} (hs : 0 ≤ s ∧ s ≤ 1000) (cn : Int) (hc1 : 1 ≤ cn) (hc2 : cn ≤ 10) (kd : Nat) (hkd : kd < 256) {a_r : Option Addr} {n_r c_r : Nat} (F : PRow 4 w0 w gf #[.bool fi]) (S : PRow 3 w0 w gs #[.int .i64 s]) (P : PRow 51 w0 w gp #[.int .i64 cn, .int .u8 ((kd : Nat) : Int), .slice a_r n_r c_r]) {a_x : Option Addr} {n_x c_x : Nat} {xs : List Int} (h_x : RdI w0 a_x n_x c_x xs) (mx : Int) {a_y : Option Addr} {n_y c_y : Nat} {ys : List Int} (h_y : RdI w0 a_y n_y c_y ys) (my : Int) (hm : 1 ≤ my ∧ my ≤ 1000) (hlt : fi = false → lexZ xs ys < 0) (HFI : Hid (ballC kd ys cn = 0)) : Calls Try.prog 85 #[.agg #[.slice a_x n_x c_x, .int .i64 mx], .agg #[.slice a_y n_y c_y, .int .i64 my], .pointer (some ⟨gf, 0, none⟩), .pointer (some ⟨gs, 0, none⟩), .pointer (some ⟨gp, 0, none⟩)] w (fun e w' => e = .returned (.bool true) ∧ PRow 4 w0 w' gf #[.bool false] ∧ PRow 3 w0 w' gs #[.int .i64 (s + my)] ∧ PRow 51 w0 w' gp #[.int .i64 cn, .int .u8 ((kd : Nat) : Int), .slice a_r n_r c_r]) := by
  have HX0 := Lib.hid h_x
  have HY0 := Lib.hid h_y
  have HLT := Lib.hid hlt
  clear hlt
  have B0 : Below w0.heap.size w0 w := F.below
  have h_f_0 := F
  have h_s_0 := S
  have h_p_0 := P
  clear F S P h_x h_y
  have h_x_0 := HX0.out.below B0
  have h_y_0 := HY0.out.below B0
  go_enter Try.func85, Try.ntmps85
  have hb := below_al w (.cells #[.slice a_x n_x c_x, .int .i64 mx] 92)
  have B1 := B0.trans (hb.mono B0.size)
  have h_f_1 := h_f_0.later hb
  have h_s_1 := h_s_0.later hb
  have h_p_1 := h_p_0.later hb
  have h_x_1 := h_x_0.below hb
  have h_y_1 := h_y_0.below hb
  clear hb B0 h_f_0 h_s_0 h_p_0 h_x_0 h_y_0
  have h_l_1 := PRow.new 92 w #[.slice a_x n_x c_x, .int .i64 mx]
  have HBR := Lib.hid B1
  have hb := below_al (w.alloc (.cells #[.slice a_x n_x c_x, .int .i64 mx] 92)) (.cells #[.slice a_y n_y c_y, .int .i64 my] 92)
  have B2 := B1.trans (hb.mono B1.size)
  have h_f_2 := h_f_1.later hb
  have h_s_2 := h_s_1.later hb
  have h_p_2 := h_p_1.later hb
  have h_x_2 := h_x_1.below hb
  have h_y_2 := h_y_1.below hb
  have h_l_2 := h_l_1.later hb
  clear hb B1 h_f_1 h_s_1 h_p_1 h_x_1 h_y_1 h_l_1
  have h_r_2 := (PRow.new 92 (w.alloc (.cells #[.slice a_x n_x c_x, .int .i64 mx] 92)) #[.slice a_y n_y c_y, .int .i64 my]).base HBR.out
  simp only [World.size_alloc] at h_r_2
  go_upto_region 1 with fail
  generalize ((w.alloc (.cells #[.slice a_x n_x c_x, .int .i64 mx] 92)).alloc (.cells #[.slice a_y n_y c_y, .int .i64 my] 92)) = w2 at *
  cases fi
  case false =>
    have hlz : lexZ xs ys < 0 := HLT.out rfl
    obtain ⟨z, hz⟩ : ∃ z, lexZ xs ys = z := ⟨_, rfl⟩
    rw [hz] at hlz
    have HZ := Lib.hid hz
    have d0 : decide (z ≥ 0) = false := decide_eq_false (by omega)
    have d00 : decide ((0 : Int) ≤ z) = false := decide_eq_false (by omega)
    clear hz
    have k_f_0 := h_f_2.cell 0 _ rfl
    have k_l_0 := h_l_2.cell 0 _ rfl
    have k_l_1 := h_l_2.cell 1 _ rfl
    have k_r_0 := h_r_2.cell 0 _ rfl
    have k_r_1 := h_r_2.cell 1 _ rfl
    go_wp2_with fail
    clear k_f_0 k_l_0 k_l_1 k_r_0 k_r_1
    have c := compareI_any w2 h_x_2 h_y_2
    rw [HZ.out] at c
    refine c.mono ?_
    rintro e w9 ⟨rfl, hw⟩
    subst hw
    clear c
    go_upto_region 3 with fail
    clear d0 d00 hlz
    have k_f := h_f_2.cell 0 _ rfl
    have f_f := h_f_2.free 0
    have n_f := h_f_2.set 0 (.bool false)
    simp only [List.setIfInBounds_toArray, List.set_cons_zero] at n_f
    have n_s := h_s_2.other (p := ⟨gf, 0, none⟩) (blk_neT h_s_2 h_f_2 (by decide)) h_f_2.lo (.bool false)
    have n_p := h_p_2.other (p := ⟨gf, 0, none⟩) (blk_neT h_p_2 h_f_2 (by decide)) h_f_2.lo (.bool false)
    have n_r := h_r_2.other (p := ⟨gf, 0, none⟩) (blk_neT h_r_2 h_f_2 (by decide)) h_f_2.lo (.bool false)
    go_upto_region 4 with fail
    clear k_f f_f
    clear h_f_2 h_s_2 h_p_2 h_x_2 h_y_2 h_l_2 h_r_2 B2
    generalize w2.setCell ⟨gf, 0, none⟩ (.bool false) = wf at *
    have h_f_3 := n_f
    clear n_f
    have h_s_3 := n_s
    clear n_s
    have h_p_3 := n_p
    clear n_p
    have h_r_3 := n_r
    clear n_r
    have B3 := h_f_3.below
    have h_y_3 := HY0.out.below B3
    have k_s := h_s_3.cell 0 _ rfl
    have f_s := h_s_3.free 0
    have k_r := h_r_3.cell 1 _ rfl
    have d1 : decide ((1000001 : Int) < my) = false := decide_eq_false (by omega)
    have d2 : decide ((1000001 : Int) < s + my) = false := decide_eq_false (by omega)
    have d3 : decide (my > (1000001 : Int)) = false := decide_eq_false (by omega)
    have d4 : decide (s + my > (1000001 : Int)) = false := decide_eq_false (by omega)
    have d5 : ¬ (1000001 : Int) < my := by omega
    have d6 : ¬ (1000001 : Int) < s + my := by omega
    have hw1 : IntKind.i64.wrap (s + my) = s + my := wrap_in (by omega) (by omega)
    have n_s := h_s_3.set 0 (.int .i64 (s + my))
    simp only [List.setIfInBounds_toArray, List.set_cons_zero] at n_s
    have n_f := h_f_3.other (p := ⟨gs, 0, none⟩) (blk_neT h_f_3 h_s_3 (by decide)) h_s_3.lo (.int .i64 (s + my))
    have n_p := h_p_3.other (p := ⟨gs, 0, none⟩) (blk_neT h_p_3 h_s_3 (by decide)) h_s_3.lo (.int .i64 (s + my))
    have n_r := h_r_3.other (p := ⟨gs, 0, none⟩) (blk_neT h_r_3 h_s_3 (by decide)) h_s_3.lo (.int .i64 (s + my))
    go_upto_region 5 with fail
    all_goals try (exfalso; omega)
    clear k_s f_s k_r d1 d2 d3 d4 d5 d6 hw1
    clear h_f_3 h_s_3 h_p_3 h_r_3 h_y_3 B3
    generalize wf.setCell ⟨gs, 0, none⟩ (.int .i64 (s + my)) = wg at *
    have h_f_4 := n_f
    clear n_f
    have h_s_4 := n_s
    clear n_s
    have h_p_4 := n_p
    clear n_p
    have h_r_4 := n_r
    clear n_r
    have B4 := h_f_4.below
    have h_y_4 := HY0.out.below B4
    have d1 : decide (my > 0) = true := decide_eq_true (by omega)
    have d2 : decide (0 < my) = true := decide_eq_true (by omega)
    have hb := (Below.refl wg.heap.size wg).drew
    have B5 := B4.trans (hb.mono B4.size)
    have h_f_5 := h_f_4.later hb
    have h_s_5 := h_s_4.later hb
    have h_p_5 := h_p_4.later hb
    have h_r_5 := h_r_4.later hb
    have h_y_5 := h_y_4.below hb
    clear hb B4 h_f_4 h_s_4 h_p_4 h_r_4 h_y_4
    refine wp_region_held_drew (S := (fun w' => w'.cell? ⟨gp, 0, none⟩ = some (.int .i64 cn) ∧ w'.cell? ⟨gp, 1, none⟩ = some (.int .u8 ((kd : Nat) : Int)) ∧ w'.cell? ⟨gp, 2, none⟩ = some (.slice a_r n_r c_r) ∧ w'.cell? ⟨w.heap.size + 1, 0, none⟩ = some (.slice a_y n_y c_y) ∧ w'.cell? ⟨w.heap.size + 1, 1, none⟩ = some (.int .i64 my) ∧ True)) (by kernel_rfl) ?_ (fun hHeld => ?_)
    · exact ⟨h_p_5.cell 0 _ rfl, h_p_5.cell 1 _ rfl, h_p_5.cell 2 _ rfl, h_r_5.cell 0 _ rfl, h_r_5.cell 1 _ rfl, trivial⟩
    generalize wg.drew = w5 at *
    refine wpAnyH_take (i := 0) (oi := ?oir1_0) (v := ?vr1_0) ?hir1_0 (by kernel_rfl) (by kernel_rfl) (by kernel_rfl) ?hqr1_0 ?hyr1_0 (by assumption) ?restr1_0
    case hir1_0 => simp only [List.getElem?_toArray, List.getElem?_cons_succ, List.getElem?_cons_zero]; rfl
    case hqr1_0 => exact fun _ _ _ h => h
    case hyr1_0 => (refine Or.inl ⟨by rfl, ?_⟩; intro w hSw; (try dsimp only at hSw); go_simp; all_goals with_reducible rfl)
    try simp only [Act.put, List.setIfInBounds_toArray, List.set_cons_zero, List.set_cons_succ]
    refine wpAnyH_take (i := 1) (oi := ?oir1_1) (v := ?vr1_1) ?hir1_1 (by kernel_rfl) (by kernel_rfl) (by kernel_rfl) ?hqr1_1 ?hyr1_1 (by assumption) ?restr1_1
    case hir1_1 => simp only [List.getElem?_toArray, List.getElem?_cons_succ, List.getElem?_cons_zero]; rfl
    case hqr1_1 => exact fun _ _ _ h => h
    case hyr1_1 => (refine Or.inl ⟨by rfl, ?_⟩; intro w hSw; (try dsimp only at hSw); go_simp; all_goals with_reducible rfl)
    try simp only [Act.put, List.setIfInBounds_toArray, List.set_cons_zero, List.set_cons_succ]
    refine wpAnyH_take (i := 2) (oi := ?oir1_2) (v := ?vr1_2) ?hir1_2 (by kernel_rfl) (by kernel_rfl) (by kernel_rfl) ?hqr1_2 ?hyr1_2 (by assumption) ?restr1_2
    case hir1_2 => simp only [List.getElem?_toArray, List.getElem?_cons_succ, List.getElem?_cons_zero]; rfl
    case hqr1_2 => exact fun _ _ _ h => h
    case hyr1_2 => (refine Or.inl ⟨by rfl, ?_⟩; intro w hSw; (try dsimp only at hSw); go_simp; all_goals with_reducible rfl)
    try simp only [Act.put, List.setIfInBounds_toArray, List.set_cons_zero, List.set_cons_succ]
    refine wpAnyH_take (i := 3) (oi := ?oir1_3) (v := ?vr1_3) ?hir1_3 (by kernel_rfl) (by kernel_rfl) (by kernel_rfl) ?hqr1_3 ?hyr1_3 (by assumption) ?restr1_3
    case hir1_3 => simp only [List.getElem?_toArray, List.getElem?_cons_succ, List.getElem?_cons_zero]; rfl
    case hqr1_3 => exact fun _ _ _ h => h
    case hyr1_3 => (refine Or.inl ⟨by rfl, ?_⟩; intro w hSw; (try dsimp only at hSw); go_simp; all_goals with_reducible rfl)
    try simp only [Act.put, List.setIfInBounds_toArray, List.set_cons_zero, List.set_cons_succ]
    refine wpAnyH_take (i := 4) (oi := ?oir1_4) (v := ?vr1_4) ?hir1_4 (by kernel_rfl) (by kernel_rfl) (by kernel_rfl) ?hqr1_4 ?hyr1_4 (by assumption) ?restr1_4
    case hir1_4 => simp only [List.getElem?_toArray, List.getElem?_cons_succ, List.getElem?_cons_zero]; rfl
    case hqr1_4 => exact fun _ _ _ h => h
    case hyr1_4 => (refine Or.inl ⟨by rfl, ?_⟩; intro w hSw; (try dsimp only at hSw); go_simp; all_goals with_reducible rfl)
    try simp only [Act.put, List.setIfInBounds_toArray, List.set_cons_zero, List.set_cons_succ]
    refine wpAnyH_take (i := 5) (oi := ?oir1_5) (v := ?vr1_5) ?hir1_5 (by kernel_rfl) (by kernel_rfl) (by kernel_rfl) ?hqr1_5 ?hyr1_5 (by assumption) ?restr1_5
    case hir1_5 => simp only [List.getElem?_toArray, List.getElem?_cons_succ, List.getElem?_cons_zero]; rfl
    case hqr1_5 => exact fun _ _ _ h => h
    case hyr1_5 => (refine Or.inl ⟨by rfl, ?_⟩; intro w hSw; (try dsimp only at hSw); go_simp; all_goals with_reducible rfl)
    try simp only [Act.put, List.setIfInBounds_toArray, List.set_cons_zero, List.set_cons_succ]
    refine wpAnyH_take (i := 7) (oi := ?oir1_7) (v := ?vr1_7) ?hir1_7 (by kernel_rfl) (by kernel_rfl) (by kernel_rfl) ?hqr1_7 ?hyr1_7 (by assumption) ?restr1_7
    case hir1_7 => simp only [List.getElem?_toArray, List.getElem?_cons_succ, List.getElem?_cons_zero]; rfl
    case hqr1_7 => exact fun _ _ _ h => h
    case hyr1_7 => (refine Or.inl ⟨by rfl, ?_⟩; intro w hSw; (try dsimp only at hSw); go_simp; all_goals with_reducible rfl)
    try simp only [Act.put, List.setIfInBounds_toArray, List.set_cons_zero, List.set_cons_succ]
    refine wpAnyH_take (i := 8) (oi := ?oir1_8) (v := ?vr1_8) ?hir1_8 (by kernel_rfl) (by kernel_rfl) (by kernel_rfl) ?hqr1_8 ?hyr1_8 (by assumption) ?restr1_8
    case hir1_8 => simp only [List.getElem?_toArray, List.getElem?_cons_succ, List.getElem?_cons_zero]; rfl
    case hqr1_8 => exact fun _ _ _ h => h
    case hyr1_8 => (refine Or.inl ⟨by rfl, ?_⟩; intro w hSw; (try dsimp only at hSw); go_simp; all_goals with_reducible rfl)
    try simp only [Act.put, List.setIfInBounds_toArray, List.set_cons_zero, List.set_cons_succ]
    refine wpAnyH_ready (rs := [6]) (by kernel_rfl) (by simp) ?_
    refine AllReadyH.cons (o := ?or2_6) ?hor2_6 (fun K hK => ?kr2_6) AllReadyH.nil
    case hor2_6 => simp only [List.getElem?_toArray, List.getElem?_cons_succ, List.getElem?_cons_zero]; rfl
    go_simp
    have c := profOf_any (a_r := a_r) (n_r := n_r) (c_r := c_r) (rs := []) (a_x := a_y) (n_x := n_y) (c_x := c_y) w5 cn kd hkd my
    refine c.mono ?_
    rintro e w6 ⟨rfl, hb⟩
    clear c
    have B6 := B5.trans (hb.mono B5.size)
    have h_f_6 := h_f_5.later hb
    have h_s_6 := h_s_5.later hb
    have h_p_6 := h_p_5.later hb
    have h_r_6 := h_r_5.later hb
    have h_y_6 := h_y_5.below hb
    clear hb B5 h_f_5 h_s_5 h_p_5 h_r_5 h_y_5
    go_wp2_with fail
    clear hHeld
    refine hK.out _ _ ?_ (fun hHeld => ?_)
    · exact ⟨h_p_6.cell 0 _ rfl, h_p_6.cell 1 _ rfl, h_p_6.cell 2 _ rfl, h_r_6.cell 0 _ rfl, h_r_6.cell 1 _ rfl, trivial⟩
    clear hK K
    try simp only [Act.put, List.setIfInBounds_toArray, List.set_cons_zero, List.set_cons_succ]
    refine wpAnyH_ready (rs := [9]) (by kernel_rfl) (by simp) ?_
    refine AllReadyH.cons (o := ?or3_9) ?hor3_9 (fun K hK => ?kr3_9) AllReadyH.nil
    case hor3_9 => simp only [List.getElem?_toArray, List.getElem?_cons_succ, List.getElem?_cons_zero]; rfl
    go_simp
    have c := ballCheck_any w6 kd hkd h_y_6 cn
    rw [HFI.out] at c
    refine c.mono ?_
    rintro e w7 ⟨rfl, hb⟩
    clear c
    have B7 := B6.trans (hb.mono B6.size)
    have h_f_7 := h_f_6.later hb
    have h_s_7 := h_s_6.later hb
    have h_p_7 := h_p_6.later hb
    have h_r_7 := h_r_6.later hb
    have h_y_7 := h_y_6.below hb
    clear hb B6 h_f_6 h_s_6 h_p_6 h_r_6 h_y_6
    go_wp2_with fail
    clear hHeld
    refine hK.out _ _ ?_ (fun hHeld => ?_)
    · exact ⟨h_p_7.cell 0 _ rfl, h_p_7.cell 1 _ rfl, h_p_7.cell 2 _ rfl, h_r_7.cell 0 _ rfl, h_r_7.cell 1 _ rfl, trivial⟩
    clear hK K
    try simp only [Act.put, List.setIfInBounds_toArray, List.set_cons_zero, List.set_cons_succ]
    refine wpAnyH_take (i := 10) (oi := ?oir4_10) (v := ?vr4_10) ?hir4_10 (by kernel_rfl) (by kernel_rfl) (by kernel_rfl) ?hqr4_10 ?hyr4_10 (by assumption) ?restr4_10
    case hir4_10 => simp only [List.getElem?_toArray, List.getElem?_cons_succ, List.getElem?_cons_zero]; rfl
    case hqr4_10 => exact fun _ _ _ h => h
    case hyr4_10 => (refine Or.inl ⟨by rfl, ?_⟩; intro w hSw; (try dsimp only at hSw); go_simp; all_goals with_reducible rfl)
    try simp only [Act.put, List.setIfInBounds_toArray, List.set_cons_zero, List.set_cons_succ]
    refine wpAnyH_take (i := 11) (oi := ?oir4_11) (v := ?vr4_11) ?hir4_11 (by kernel_rfl) (by kernel_rfl) (by kernel_rfl) ?hqr4_11 ?hyr4_11 (by assumption) ?restr4_11
    case hir4_11 => simp only [List.getElem?_toArray, List.getElem?_cons_succ, List.getElem?_cons_zero]; rfl
    case hqr4_11 => exact fun _ _ _ h => h
    case hyr4_11 => (refine Or.inl ⟨by rfl, ?_⟩; intro w hSw; (try dsimp only at hSw); go_simp; all_goals with_reducible rfl)
    try simp only [Act.put, List.setIfInBounds_toArray, List.set_cons_zero, List.set_cons_succ]
    refine wpAnyH_take (i := 12) (oi := ?oir4_12) (v := ?vr4_12) ?hir4_12 (by kernel_rfl) (by kernel_rfl) (by kernel_rfl) ?hqr4_12 ?hyr4_12 (by assumption) ?restr4_12
    case hir4_12 => simp only [List.getElem?_toArray, List.getElem?_cons_succ, List.getElem?_cons_zero]; rfl
    case hqr4_12 => exact fun _ _ _ h => h
    case hyr4_12 => (refine Or.inl ⟨by rfl, ?_⟩; intro w hSw; (try dsimp only at hSw); go_simp; all_goals with_reducible rfl)
    try simp only [Act.put, List.setIfInBounds_toArray, List.set_cons_zero, List.set_cons_succ]
    refine wpAnyH_done (by kernel_rfl) ?_ _
    clear hHeld
    go_wp2_with fail
    go_ret
    exact ⟨rfl, h_f_7, h_s_7, h_p_7⟩
  case true =>
    have k_f_0 := h_f_2.cell 0 _ rfl
    have k_l_0 := h_l_2.cell 0 _ rfl
    have k_l_1 := h_l_2.cell 1 _ rfl
    have k_r_0 := h_r_2.cell 0 _ rfl
    have k_r_1 := h_r_2.cell 1 _ rfl
    go_upto_region 3 with fail
    clear k_f_0 k_l_0 k_l_1 k_r_0 k_r_1
    have k_f := h_f_2.cell 0 _ rfl
    have f_f := h_f_2.free 0
    have n_f := h_f_2.set 0 (.bool false)
    simp only [List.setIfInBounds_toArray, List.set_cons_zero] at n_f
    have n_s := h_s_2.other (p := ⟨gf, 0, none⟩) (blk_neT h_s_2 h_f_2 (by decide)) h_f_2.lo (.bool false)
    have n_p := h_p_2.other (p := ⟨gf, 0, none⟩) (blk_neT h_p_2 h_f_2 (by decide)) h_f_2.lo (.bool false)
    have n_r := h_r_2.other (p := ⟨gf, 0, none⟩) (blk_neT h_r_2 h_f_2 (by decide)) h_f_2.lo (.bool false)
    go_upto_region 4 with fail
    clear k_f f_f
    clear h_f_2 h_s_2 h_p_2 h_x_2 h_y_2 h_l_2 h_r_2 B2
    generalize w2.setCell ⟨gf, 0, none⟩ (.bool false) = wf at *
    have h_f_3 := n_f
    clear n_f
    have h_s_3 := n_s
    clear n_s
    have h_p_3 := n_p
    clear n_p
    have h_r_3 := n_r
    clear n_r
    have B3 := h_f_3.below
    have h_y_3 := HY0.out.below B3
    have k_s := h_s_3.cell 0 _ rfl
    have f_s := h_s_3.free 0
    have k_r := h_r_3.cell 1 _ rfl
    have d1 : decide ((1000001 : Int) < my) = false := decide_eq_false (by omega)
    have d2 : decide ((1000001 : Int) < s + my) = false := decide_eq_false (by omega)
    have d3 : decide (my > (1000001 : Int)) = false := decide_eq_false (by omega)
    have d4 : decide (s + my > (1000001 : Int)) = false := decide_eq_false (by omega)
    have d5 : ¬ (1000001 : Int) < my := by omega
    have d6 : ¬ (1000001 : Int) < s + my := by omega
    have hw1 : IntKind.i64.wrap (s + my) = s + my := wrap_in (by omega) (by omega)
    have n_s := h_s_3.set 0 (.int .i64 (s + my))
    simp only [List.setIfInBounds_toArray, List.set_cons_zero] at n_s
    have n_f := h_f_3.other (p := ⟨gs, 0, none⟩) (blk_neT h_f_3 h_s_3 (by decide)) h_s_3.lo (.int .i64 (s + my))
    have n_p := h_p_3.other (p := ⟨gs, 0, none⟩) (blk_neT h_p_3 h_s_3 (by decide)) h_s_3.lo (.int .i64 (s + my))
    have n_r := h_r_3.other (p := ⟨gs, 0, none⟩) (blk_neT h_r_3 h_s_3 (by decide)) h_s_3.lo (.int .i64 (s + my))
    go_upto_region 5 with fail
    all_goals try (exfalso; omega)
    clear k_s f_s k_r d1 d2 d3 d4 d5 d6 hw1
    clear h_f_3 h_s_3 h_p_3 h_r_3 h_y_3 B3
    generalize wf.setCell ⟨gs, 0, none⟩ (.int .i64 (s + my)) = wg at *
    have h_f_4 := n_f
    clear n_f
    have h_s_4 := n_s
    clear n_s
    have h_p_4 := n_p
    clear n_p
    have h_r_4 := n_r
    clear n_r
    have B4 := h_f_4.below
    have h_y_4 := HY0.out.below B4
    have d1 : decide (my > 0) = true := decide_eq_true (by omega)
    have d2 : decide (0 < my) = true := decide_eq_true (by omega)
    have hb := (Below.refl wg.heap.size wg).drew
    have B5 := B4.trans (hb.mono B4.size)
    have h_f_5 := h_f_4.later hb
    have h_s_5 := h_s_4.later hb
    have h_p_5 := h_p_4.later hb
    have h_r_5 := h_r_4.later hb
    have h_y_5 := h_y_4.below hb
    clear hb B4 h_f_4 h_s_4 h_p_4 h_r_4 h_y_4
    refine wp_region_held_drew (S := (fun w' => w'.cell? ⟨gp, 0, none⟩ = some (.int .i64 cn) ∧ w'.cell? ⟨gp, 1, none⟩ = some (.int .u8 ((kd : Nat) : Int)) ∧ w'.cell? ⟨gp, 2, none⟩ = some (.slice a_r n_r c_r) ∧ w'.cell? ⟨w.heap.size + 1, 0, none⟩ = some (.slice a_y n_y c_y) ∧ w'.cell? ⟨w.heap.size + 1, 1, none⟩ = some (.int .i64 my) ∧ True)) (by kernel_rfl) ?_ (fun hHeld => ?_)
    · exact ⟨h_p_5.cell 0 _ rfl, h_p_5.cell 1 _ rfl, h_p_5.cell 2 _ rfl, h_r_5.cell 0 _ rfl, h_r_5.cell 1 _ rfl, trivial⟩
    generalize wg.drew = w5 at *
    refine wpAnyH_take (i := 0) (oi := ?oir5_0) (v := ?vr5_0) ?hir5_0 (by kernel_rfl) (by kernel_rfl) (by kernel_rfl) ?hqr5_0 ?hyr5_0 (by assumption) ?restr5_0
    case hir5_0 => simp only [List.getElem?_toArray, List.getElem?_cons_succ, List.getElem?_cons_zero]; rfl
    case hqr5_0 => exact fun _ _ _ h => h
    case hyr5_0 => (refine Or.inl ⟨by rfl, ?_⟩; intro w hSw; (try dsimp only at hSw); go_simp; all_goals with_reducible rfl)
    try simp only [Act.put, List.setIfInBounds_toArray, List.set_cons_zero, List.set_cons_succ]
    refine wpAnyH_take (i := 1) (oi := ?oir5_1) (v := ?vr5_1) ?hir5_1 (by kernel_rfl) (by kernel_rfl) (by kernel_rfl) ?hqr5_1 ?hyr5_1 (by assumption) ?restr5_1
    case hir5_1 => simp only [List.getElem?_toArray, List.getElem?_cons_succ, List.getElem?_cons_zero]; rfl
    case hqr5_1 => exact fun _ _ _ h => h
    case hyr5_1 => (refine Or.inl ⟨by rfl, ?_⟩; intro w hSw; (try dsimp only at hSw); go_simp; all_goals with_reducible rfl)
    try simp only [Act.put, List.setIfInBounds_toArray, List.set_cons_zero, List.set_cons_succ]
    refine wpAnyH_take (i := 2) (oi := ?oir5_2) (v := ?vr5_2) ?hir5_2 (by kernel_rfl) (by kernel_rfl) (by kernel_rfl) ?hqr5_2 ?hyr5_2 (by assumption) ?restr5_2
    case hir5_2 => simp only [List.getElem?_toArray, List.getElem?_cons_succ, List.getElem?_cons_zero]; rfl
    case hqr5_2 => exact fun _ _ _ h => h
    case hyr5_2 => (refine Or.inl ⟨by rfl, ?_⟩; intro w hSw; (try dsimp only at hSw); go_simp; all_goals with_reducible rfl)
    try simp only [Act.put, List.setIfInBounds_toArray, List.set_cons_zero, List.set_cons_succ]
    refine wpAnyH_take (i := 3) (oi := ?oir5_3) (v := ?vr5_3) ?hir5_3 (by kernel_rfl) (by kernel_rfl) (by kernel_rfl) ?hqr5_3 ?hyr5_3 (by assumption) ?restr5_3
    case hir5_3 => simp only [List.getElem?_toArray, List.getElem?_cons_succ, List.getElem?_cons_zero]; rfl
    case hqr5_3 => exact fun _ _ _ h => h
    case hyr5_3 => (refine Or.inl ⟨by rfl, ?_⟩; intro w hSw; (try dsimp only at hSw); go_simp; all_goals with_reducible rfl)
    try simp only [Act.put, List.setIfInBounds_toArray, List.set_cons_zero, List.set_cons_succ]
    refine wpAnyH_take (i := 4) (oi := ?oir5_4) (v := ?vr5_4) ?hir5_4 (by kernel_rfl) (by kernel_rfl) (by kernel_rfl) ?hqr5_4 ?hyr5_4 (by assumption) ?restr5_4
    case hir5_4 => simp only [List.getElem?_toArray, List.getElem?_cons_succ, List.getElem?_cons_zero]; rfl
    case hqr5_4 => exact fun _ _ _ h => h
    case hyr5_4 => (refine Or.inl ⟨by rfl, ?_⟩; intro w hSw; (try dsimp only at hSw); go_simp; all_goals with_reducible rfl)
    try simp only [Act.put, List.setIfInBounds_toArray, List.set_cons_zero, List.set_cons_succ]
    refine wpAnyH_take (i := 5) (oi := ?oir5_5) (v := ?vr5_5) ?hir5_5 (by kernel_rfl) (by kernel_rfl) (by kernel_rfl) ?hqr5_5 ?hyr5_5 (by assumption) ?restr5_5
    case hir5_5 => simp only [List.getElem?_toArray, List.getElem?_cons_succ, List.getElem?_cons_zero]; rfl
    case hqr5_5 => exact fun _ _ _ h => h
    case hyr5_5 => (refine Or.inl ⟨by rfl, ?_⟩; intro w hSw; (try dsimp only at hSw); go_simp; all_goals with_reducible rfl)
    try simp only [Act.put, List.setIfInBounds_toArray, List.set_cons_zero, List.set_cons_succ]
    refine wpAnyH_take (i := 7) (oi := ?oir5_7) (v := ?vr5_7) ?hir5_7 (by kernel_rfl) (by kernel_rfl) (by kernel_rfl) ?hqr5_7 ?hyr5_7 (by assumption) ?restr5_7
    case hir5_7 => simp only [List.getElem?_toArray, List.getElem?_cons_succ, List.getElem?_cons_zero]; rfl
    case hqr5_7 => exact fun _ _ _ h => h
    case hyr5_7 => (refine Or.inl ⟨by rfl, ?_⟩; intro w hSw; (try dsimp only at hSw); go_simp; all_goals with_reducible rfl)
    try simp only [Act.put, List.setIfInBounds_toArray, List.set_cons_zero, List.set_cons_succ]
    refine wpAnyH_take (i := 8) (oi := ?oir5_8) (v := ?vr5_8) ?hir5_8 (by kernel_rfl) (by kernel_rfl) (by kernel_rfl) ?hqr5_8 ?hyr5_8 (by assumption) ?restr5_8
    case hir5_8 => simp only [List.getElem?_toArray, List.getElem?_cons_succ, List.getElem?_cons_zero]; rfl
    case hqr5_8 => exact fun _ _ _ h => h
    case hyr5_8 => (refine Or.inl ⟨by rfl, ?_⟩; intro w hSw; (try dsimp only at hSw); go_simp; all_goals with_reducible rfl)
    try simp only [Act.put, List.setIfInBounds_toArray, List.set_cons_zero, List.set_cons_succ]
    refine wpAnyH_ready (rs := [6]) (by kernel_rfl) (by simp) ?_
    refine AllReadyH.cons (o := ?or6_6) ?hor6_6 (fun K hK => ?kr6_6) AllReadyH.nil
    case hor6_6 => simp only [List.getElem?_toArray, List.getElem?_cons_succ, List.getElem?_cons_zero]; rfl
    go_simp
    have c := profOf_any (a_r := a_r) (n_r := n_r) (c_r := c_r) (rs := []) (a_x := a_y) (n_x := n_y) (c_x := c_y) w5 cn kd hkd my
    refine c.mono ?_
    rintro e w6 ⟨rfl, hb⟩
    clear c
    have B6 := B5.trans (hb.mono B5.size)
    have h_f_6 := h_f_5.later hb
    have h_s_6 := h_s_5.later hb
    have h_p_6 := h_p_5.later hb
    have h_r_6 := h_r_5.later hb
    have h_y_6 := h_y_5.below hb
    clear hb B5 h_f_5 h_s_5 h_p_5 h_r_5 h_y_5
    go_wp2_with fail
    clear hHeld
    refine hK.out _ _ ?_ (fun hHeld => ?_)
    · exact ⟨h_p_6.cell 0 _ rfl, h_p_6.cell 1 _ rfl, h_p_6.cell 2 _ rfl, h_r_6.cell 0 _ rfl, h_r_6.cell 1 _ rfl, trivial⟩
    clear hK K
    try simp only [Act.put, List.setIfInBounds_toArray, List.set_cons_zero, List.set_cons_succ]
    refine wpAnyH_ready (rs := [9]) (by kernel_rfl) (by simp) ?_
    refine AllReadyH.cons (o := ?or7_9) ?hor7_9 (fun K hK => ?kr7_9) AllReadyH.nil
    case hor7_9 => simp only [List.getElem?_toArray, List.getElem?_cons_succ, List.getElem?_cons_zero]; rfl
    go_simp
    have c := ballCheck_any w6 kd hkd h_y_6 cn
    rw [HFI.out] at c
    refine c.mono ?_
    rintro e w7 ⟨rfl, hb⟩
    clear c
    have B7 := B6.trans (hb.mono B6.size)
    have h_f_7 := h_f_6.later hb
    have h_s_7 := h_s_6.later hb
    have h_p_7 := h_p_6.later hb
    have h_r_7 := h_r_6.later hb
    have h_y_7 := h_y_6.below hb
    clear hb B6 h_f_6 h_s_6 h_p_6 h_r_6 h_y_6
    go_wp2_with fail
    clear hHeld
    refine hK.out _ _ ?_ (fun hHeld => ?_)
    · exact ⟨h_p_7.cell 0 _ rfl, h_p_7.cell 1 _ rfl, h_p_7.cell 2 _ rfl, h_r_7.cell 0 _ rfl, h_r_7.cell 1 _ rfl, trivial⟩
    clear hK K
    try simp only [Act.put, List.setIfInBounds_toArray, List.set_cons_zero, List.set_cons_succ]
    refine wpAnyH_take (i := 10) (oi := ?oir8_10) (v := ?vr8_10) ?hir8_10 (by kernel_rfl) (by kernel_rfl) (by kernel_rfl) ?hqr8_10 ?hyr8_10 (by assumption) ?restr8_10
    case hir8_10 => simp only [List.getElem?_toArray, List.getElem?_cons_succ, List.getElem?_cons_zero]; rfl
    case hqr8_10 => exact fun _ _ _ h => h
    case hyr8_10 => (refine Or.inl ⟨by rfl, ?_⟩; intro w hSw; (try dsimp only at hSw); go_simp; all_goals with_reducible rfl)
    try simp only [Act.put, List.setIfInBounds_toArray, List.set_cons_zero, List.set_cons_succ]
    refine wpAnyH_take (i := 11) (oi := ?oir8_11) (v := ?vr8_11) ?hir8_11 (by kernel_rfl) (by kernel_rfl) (by kernel_rfl) ?hqr8_11 ?hyr8_11 (by assumption) ?restr8_11
    case hir8_11 => simp only [List.getElem?_toArray, List.getElem?_cons_succ, List.getElem?_cons_zero]; rfl
    case hqr8_11 => exact fun _ _ _ h => h
    case hyr8_11 => (refine Or.inl ⟨by rfl, ?_⟩; intro w hSw; (try dsimp only at hSw); go_simp; all_goals with_reducible rfl)
    try simp only [Act.put, List.setIfInBounds_toArray, List.set_cons_zero, List.set_cons_succ]
    refine wpAnyH_take (i := 12) (oi := ?oir8_12) (v := ?vr8_12) ?hir8_12 (by kernel_rfl) (by kernel_rfl) (by kernel_rfl) ?hqr8_12 ?hyr8_12 (by assumption) ?restr8_12
    case hir8_12 => simp only [List.getElem?_toArray, List.getElem?_cons_succ, List.getElem?_cons_zero]; rfl
    case hqr8_12 => exact fun _ _ _ h => h
    case hyr8_12 => (refine Or.inl ⟨by rfl, ?_⟩; intro w hSw; (try dsimp only at hSw); go_simp; all_goals with_reducible rfl)
    try simp only [Act.put, List.setIfInBounds_toArray, List.set_cons_zero, List.set_cons_succ]
    refine wpAnyH_done (by kernel_rfl) ?_ _
    clear hHeld
    go_wp2_with fail
    go_ret
    exact ⟨rfl, h_f_7, h_s_7, h_p_7⟩

end Go.Proofs.Ythpjnbnheagpiaa
