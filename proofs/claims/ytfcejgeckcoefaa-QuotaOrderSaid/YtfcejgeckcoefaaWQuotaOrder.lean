/- The walk of the law QuotaOrder: it returns true and turns nothing that was there. No condition. Printed by gen_quolaws.py. -/
import Derived.Test.YtfcejgeckcoefaaQuoG
import Derived.Test.YtfcejgeckcoefaaQuoH
import Derived.BigQuiet
import Derived.Deep.CutRange
namespace Go.Proofs.Ytfcejgeckcoefaa
open Go.RowKit Go.Suf
set_option linter.unusedVariables false
set_option linter.unusedSimpArgs false

theorem w64_small {x : Int} (h : -9223372036854775808 ≤ x) (h2 : x < 9223372036854775808) : wrap64 x = x := by
  simp only [wrap64]
  omega

/-- The quotas as natural numbers. -/
theorem order_law {v s : Int} (h : mayQ v s) : ∃ (q p n : Int) (V S P : Nat), droopC v s = (q, 0) ∧ v = (V : Int) ∧ s = (S : Int) ∧ q = (P : Int) + 1 ∧ p = (P : Int) ∧ n = (S : Int) + 1 ∧ V ≤ 1000000 ∧ 1 ≤ S ∧ S ≤ 10 ∧ P ≤ 1000000 ∧ V < (P + 1) * (S + 1) ∧ P * (S + 1) ≤ V := by
  obtain ⟨⟨v1, v2⟩, s1, s2⟩ := h
  obtain ⟨V, rfl⟩ : ∃ V : Nat, v = (V : Int) := ⟨v.toNat, by omega⟩
  obtain ⟨S, rfl⟩ : ∃ S : Nat, s = (S : Int) := ⟨s.toNat, by omega⟩
  have e := Nat.div_add_mod V (S + 1)
  have m1 := Nat.mod_lt V (show 0 < S + 1 by omega)
  have q1 : V / (S + 1) ≤ V := Nat.div_le_self _ _
  refine ⟨_, _, _, V, S, V / (S + 1), ?_, rfl, rfl, rfl, rfl, rfl, by omega, by omega, by omega, by omega, ?_, ?_⟩
  · rw [droopC, if_pos ⟨⟨v1, v2⟩, s1, s2⟩]
    rfl
  · rw [Nat.add_mul, Nat.one_mul, Nat.mul_comm (V / (S + 1))]
    omega
  · rw [Nat.mul_comm]
    omega

theorem whole_fr {n : Int} {N : Nat} (h : n = (N : Int)) : (ofC n 1).1 = fr N 1 := by
  subst h
  exact congrArg Prod.fst (ofC_fr (n := N) (d := 1) (by decide))

set_option maxRecDepth 100000 in
set_option maxHeartbeats 8000000 in
theorem quotaOrder_walk (w : World) (v : Int) (h_v1 : -9223372036854775808 ≤ v) (h_v2 : v ≤ 9223372036854775807) (s : Int) (h_s1 : -9223372036854775808 ≤ s) (h_s2 : s ≤ 9223372036854775807) :
    Calls Try.prog 7 #[.int .i64 v, .int .i64 s] w fun e w' => e = .returned (.bool true) ∧ Below w.heap.size w w' := by
  have i_v : i64 v := ⟨h_v1, h_v2⟩
  have i_s : i64 s := ⟨h_s1, h_s2⟩
  have l_v : v < 9223372036854775808 := by omega
  have l_s : s < 9223372036854775808 := by omega
  have B0 : Below w.heap.size w w := Below.refl _ _
  by_cases hm : mayQ v s
  case neg =>
    have DM := Lib.hid (show decide (mayQ v s) = false from decide_eq_false hm)
    clear hm
    go_enter Try.func7, Try.ntmps7
    go_wp2_with fail
    have c := refMay_b w v s
    rw [DM.out] at c
    refine c.mono ?_
    rintro e w1 ⟨rfl, hb⟩
    clear c
    have B1 := B0.trans (hb.mono B0.size)
    clear hb B0
    go_wp2_with fail
    have c := wakes_any w1
    refine c.mono ?_
    rintro e w2 ⟨rfl, hb⟩
    clear c
    have B2 := B1.trans (hb.mono B1.size)
    clear hb B1
    go_wp2_with fail
    go_ret
    exact ⟨rfl, B2⟩
  obtain ⟨q, p, n, V, S, P, hc, hv, hs, hq, hp, hn, b1, b2, b3, b4, c1, c2⟩ := order_law hm
  have DM := Lib.hid (show decide (mayQ v s) = true from decide_eq_true hm)
  have DC := Lib.hid hc
  have RH := Lib.hid (show partC v s s = (fr V S, 0) by rw [partC, if_pos hm, hv, hs]; exact ofC_fr (by omega))
  have RB := Lib.hid (show partC v s (s + 1) = (fr V (S + 1), 0) by rw [partC, if_pos hm, hv, hs]; exact ofC_fr (d := S + 1) (by omega))
  have WQ := Lib.hid (whole_fr (n := q) (N := P + 1) (by omega))
  have WP := Lib.hid (whole_fr (n := p) (N := P) (by omega))
  have WV := Lib.hid (whole_fr hv)
  obtain ⟨t1, h1, -, a1, -⟩ := fr_cmp (A := P + 1) (B := 1) (C := V) (D := S + 1) (by decide) (by omega) (small48 (by omega)) (small48 (by decide)) (small48 (by omega)) (small48 (by omega))
  obtain ⟨t2, h2, -, a2, -⟩ := fr_cmp (A := P) (B := 1) (C := V) (D := S + 1) (by decide) (by omega) (small48 (by omega)) (small48 (by decide)) (small48 (by omega)) (small48 (by omega))
  obtain ⟨t3, h3, a3, a4, -⟩ := fr_cmp (A := V) (B := S + 1) (C := V) (D := S) (by omega) (by omega) (small48 (by omega)) (small48 (by omega)) (small48 (by omega)) (small48 (by omega))
  have C1 := Lib.hid h1
  have C2 := Lib.hid h2
  have C3 := Lib.hid h3
  clear h1 h2 h3
  rw [Nat.mul_one] at a1 a2
  rw [Nat.mul_succ] at a3 a4
  have M1 := Lib.hid (show mulV (fr V S) (ofC s 1).1 = (fr V 1, 0) by
    rw [whole_fr hs, fr_mul (by omega) (by decide) (small48 (by omega)) (small48 (by omega)) (small48 (by omega)) (small48 (by decide))]
    rw [show fr (V * S) (S * 1) = fr V 1 from fr_same (by omega) (by decide) (by rw [Nat.mul_one, Nat.mul_one])])
  have M2 := Lib.hid (show mulV (fr V (S + 1)) (ofC n 1).1 = (fr V 1, 0) by
    rw [whole_fr (n := n) (N := S + 1) (by omega), fr_mul (by omega) (by decide) (small48 (by omega)) (small48 (by omega)) (small48 (by omega)) (small48 (by decide))]
    rw [show fr (V * (S + 1)) ((S + 1) * 1) = fr V 1 from fr_same (by omega) (by decide) (by rw [Nat.mul_one, Nat.mul_one])])
  have f1 : IntKind.i64.wrap (q - 1) = p := by rw [wrap_i64 (by omega) (by omega)]; omega
  have f2 : wrap64 (q - 1) = p := by rw [w64_small (by omega) (by omega)]; omega
  have f3 : IntKind.i64.wrap (s + 1) = n := by rw [wrap_i64 (by omega) (by omega)]; omega
  have f4 : wrap64 (s + 1) = n := by rw [w64_small (by omega) (by omega)]; omega
  have d1 : decide (0 < t1) = true := decide_eq_true (a1.2 c1)
  have d2 : decide (t2 ≤ 0) = true := decide_eq_true (by clear f1 f2 f3 f4; omega)
  obtain ⟨b, hb⟩ : ∃ b, b = decide (0 < v) := ⟨_, rfl⟩
  have d0 : decide (0 < v) = b := hb.symm
  have d3 : decide (t3 < 0) = b := by
    rw [hb]
    exact decide_eq_decide.2 ⟨fun h => by have := a3.1 h; clear f1 f2 f3 f4; omega, fun h => a3.2 (by clear f1 f2 f3 f4; omega)⟩
  have d4 : decide (t3 ≤ 0) = true := decide_eq_true (by clear f1 f2 f3 f4; omega)
  have q1 : -9223372036854775808 ≤ q := by omega
  have q2 : q < 9223372036854775808 := by omega
  have p1 : -9223372036854775808 ≤ p := by omega
  have p2 : p < 9223372036854775808 := by omega
  have n1 : -9223372036854775808 ≤ n := by omega
  have n2 : n < 9223372036854775808 := by omega
  clear hm hc hv hs hq hp hn b1 b2 b3 b4 c1 c2 a1 a2 a3 a4 hb
  go_enter Try.func7, Try.ntmps7
  go_wp2_with fail
  have c := refMay_b w v s
  rw [DM.out] at c
  refine c.mono ?_
  rintro e w1 ⟨rfl, hb⟩
  clear c
  have B1 := B0.trans (hb.mono B0.size)
  clear hb B0
  go_wp2_with fail
  have c := droop_any w1 v s
  rw [DC.out] at c
  refine c.mono ?_
  rintro e w2 ⟨rfl, hb⟩
  clear c
  have B2 := B1.trans (hb.mono B1.size)
  clear hb B1
  go_wp2_with fail
  have c := hare_any w2 v s h_s1 l_s
  rw [RH.out] at c
  refine c.mono ?_
  rintro e w3 ⟨a_h, n_h, c_h, b_h, m_h, d_h, rfl, h_hn_3, h_hd_3, hb⟩
  clear c
  have B3 := B2.trans (hb.mono B2.size)
  clear hb B2
  have hb := below_al w3 (.cells #[.bool ((fr V S)).neg, .slice a_h n_h c_h, .slice b_h m_h d_h] 27)
  have B4 := B3.trans (hb.mono B3.size)
  have h_hn_4 := h_hn_3.below hb
  have h_hd_4 := h_hd_3.below hb
  clear hb B3 h_hn_3 h_hd_3
  have h_h_4 := Has.new w3 #[.bool ((fr V S)).neg, .slice a_h n_h c_h, .slice b_h m_h d_h] 27
  go_wp2_with first | refine wpList_store_new rfl 27 _ _ rfl atRat _ _ _ rfl rfl rfl rfl (rat_one _ _ _ _ _ _ _) ?_
  generalize (w3.alloc (.cells #[.bool ((fr V S)).neg, .slice a_h n_h c_h, .slice b_h m_h d_h] 27)) = w4 at *
  have c := hag_any w4 v s h_s1 l_s
  rw [RB.out] at c
  refine c.mono ?_
  rintro e w5 ⟨a_b, n_b, c_b, b_b, m_b, d_b, rfl, h_bn_5, h_bd_5, hb⟩
  clear c
  have B5 := B4.trans (hb.mono B4.size)
  have h_hn_5 := h_hn_4.below hb
  have h_hd_5 := h_hd_4.below hb
  have h_h_5 := h_h_4.later hb
  clear hb B4 h_hn_4 h_hd_4 h_h_4
  have hb := below_al w5 (.cells #[.bool ((fr V (S + 1))).neg, .slice a_b n_b c_b, .slice b_b m_b d_b] 27)
  have B6 := B5.trans (hb.mono B5.size)
  have h_hn_6 := h_hn_5.below hb
  have h_hd_6 := h_hd_5.below hb
  have h_h_6 := h_h_5.later hb
  have h_bn_6 := h_bn_5.below hb
  have h_bd_6 := h_bd_5.below hb
  clear hb B5 h_hn_5 h_hd_5 h_h_5 h_bn_5 h_bd_5
  have h_b_6 := Has.new w5 #[.bool ((fr V (S + 1))).neg, .slice a_b n_b c_b, .slice b_b m_b d_b] 27
  go_wp2_with first | refine wpList_store_new rfl 27 _ _ rfl atRat _ _ _ rfl rfl rfl rfl (rat_one _ _ _ _ _ _ _) ?_
  generalize (w5.alloc (.cells #[.bool ((fr V (S + 1))).neg, .slice a_b n_b c_b, .slice b_b m_b d_b] 27)) = w6 at *
  have hb := (Below.refl w6.heap.size w6).drew
  have B7 := B6.trans (hb.mono B6.size)
  have h_hn_7 := h_hn_6.below hb
  have h_hd_7 := h_hd_6.below hb
  have h_h_7 := h_h_6.later hb
  have h_bn_7 := h_bn_6.below hb
  have h_bd_7 := h_bd_6.below hb
  have h_b_7 := h_b_6.later hb
  clear hb B6 h_hn_6 h_hd_6 h_h_6 h_bn_6 h_bd_6 h_b_6
  refine wp_region_held_drew (S := (fun w' => w'.cell? ⟨w5.heap.size, 0, none⟩ = some (.bool ((fr V (S + 1))).neg) ∧ w'.cell? ⟨w5.heap.size, 1, none⟩ = some (.slice a_b n_b c_b) ∧ w'.cell? ⟨w5.heap.size, 2, none⟩ = some (.slice b_b m_b d_b) ∧ True)) (by kernel_rfl) ?_ (fun hHeld => ?_)
  · exact ⟨h_b_7.cell 0 _ rfl, h_b_7.cell 1 _ rfl, h_b_7.cell 2 _ rfl, trivial⟩
  generalize w6.drew = w7 at *
  refine wpAnyH_take (i := 0) (oi := ?oir1_0) (v := ?vr1_0) ?hir1_0 (by kernel_rfl) (by kernel_rfl) (by kernel_rfl) ?hqr1_0 ?hyr1_0 (by assumption) ?restr1_0
  case hir1_0 => simp only [List.getElem?_toArray, List.getElem?_cons_succ, List.getElem?_cons_zero]; rfl
  case hqr1_0 => exact fun _ _ _ h => h
  case hyr1_0 => (refine Or.inl ⟨by rfl, ?_⟩; intro w hSw; (try dsimp only at hSw); go_simp; all_goals with_reducible rfl)
  try simp only [Act.put, List.setIfInBounds_toArray, List.set_cons_zero, List.set_cons_succ]
  refine wpAnyH_take (i := 2) (oi := ?oir1_2) (v := ?vr1_2) ?hir1_2 (by kernel_rfl) (by kernel_rfl) (by kernel_rfl) ?hqr1_2 ?hyr1_2 (by assumption) ?restr1_2
  case hir1_2 => simp only [List.getElem?_toArray, List.getElem?_cons_succ, List.getElem?_cons_zero]; rfl
  case hqr1_2 => exact fun _ _ _ h => h
  case hyr1_2 => (refine Or.inl ⟨by rfl, ?_⟩; intro w hSw; (try dsimp only at hSw); go_simp; all_goals with_reducible rfl)
  try simp only [Act.put, List.setIfInBounds_toArray, List.set_cons_zero, List.set_cons_succ]
  refine wpAnyH_ready (rs := [1]) (by kernel_rfl) (by simp) ?_
  refine AllReadyH.cons (o := ?or2_1) ?hor2_1 (fun K hK => ?kr2_1) AllReadyH.nil
  case hor2_1 => simp only [List.getElem?_toArray, List.getElem?_cons_succ, List.getElem?_cons_zero]; rfl
  go_simp
  have c := whole_any w7 q q1 q2
  rw [WQ.out] at c
  refine c.mono ?_
  rintro e w8 ⟨a_x, n_x, c_x, b_x, m_x, d_x, rfl, h_xn_8, h_xd_8, hb⟩
  clear c
  have B8 := B7.trans (hb.mono B7.size)
  have h_hn_8 := h_hn_7.below hb
  have h_hd_8 := h_hd_7.below hb
  have h_h_8 := h_h_7.later hb
  have h_bn_8 := h_bn_7.below hb
  have h_bd_8 := h_bd_7.below hb
  have h_b_8 := h_b_7.later hb
  clear hb B7 h_hn_7 h_hd_7 h_h_7 h_bn_7 h_bd_7 h_b_7
  go_wp2_with fail
  clear hHeld
  refine hK.out _ _ ?_ (fun hHeld => ?_)
  · exact ⟨h_b_8.cell 0 _ rfl, h_b_8.cell 1 _ rfl, h_b_8.cell 2 _ rfl, trivial⟩
  clear hK K
  try simp only [Act.put, List.setIfInBounds_toArray, List.set_cons_zero, List.set_cons_succ]
  refine wpAnyH_ready (rs := [3]) (by kernel_rfl) (by simp) ?_
  refine AllReadyH.cons (o := ?or3_3) ?hor3_3 (fun K hK => ?kr3_3) AllReadyH.nil
  case hor3_3 => simp only [List.getElem?_toArray, List.getElem?_cons_succ, List.getElem?_cons_zero]; rfl
  go_simp
  have c := ratCmp_any w8 (g1 := (fr (P + 1) 1).neg) (g2 := (fr V (S + 1)).neg) h_xn_8 h_xd_8 h_bn_8 h_bd_8
  rw [show (⟨(fr (P + 1) 1).neg, (fr (P + 1) 1).num, (fr (P + 1) 1).den⟩ : QV) = fr (P + 1) 1 from rfl] at c
  rw [show (⟨(fr V (S + 1)).neg, (fr V (S + 1)).num, (fr V (S + 1)).den⟩ : QV) = fr V (S + 1) from rfl] at c
  rw [C1.out] at c
  refine c.mono ?_
  rintro e w9 ⟨rfl, hb⟩
  clear c
  have B9 := B8.trans (hb.mono B8.size)
  have h_hn_9 := h_hn_8.below hb
  have h_hd_9 := h_hd_8.below hb
  have h_h_9 := h_h_8.later hb
  have h_bn_9 := h_bn_8.below hb
  have h_bd_9 := h_bd_8.below hb
  have h_b_9 := h_b_8.later hb
  clear hb B8 h_hn_8 h_hd_8 h_h_8 h_bn_8 h_bd_8 h_b_8 h_xn_8 h_xd_8
  go_wp2_with fail
  clear hHeld
  refine hK.out _ _ ?_ (fun hHeld => ?_)
  · exact ⟨h_b_9.cell 0 _ rfl, h_b_9.cell 1 _ rfl, h_b_9.cell 2 _ rfl, trivial⟩
  clear hK K
  try simp only [Act.put, List.setIfInBounds_toArray, List.set_cons_zero, List.set_cons_succ]
  refine wpAnyH_take (i := 4) (oi := ?oir4_4) (v := ?vr4_4) ?hir4_4 (by kernel_rfl) (by kernel_rfl) (by kernel_rfl) ?hqr4_4 ?hyr4_4 (by assumption) ?restr4_4
  case hir4_4 => simp only [List.getElem?_toArray, List.getElem?_cons_succ, List.getElem?_cons_zero]; rfl
  case hqr4_4 => exact fun _ _ _ h => h
  case hyr4_4 => (refine Or.inl ⟨by rfl, ?_⟩; intro w hSw; (try dsimp only at hSw); go_simp; all_goals with_reducible rfl)
  try simp only [Act.put, List.setIfInBounds_toArray, List.set_cons_zero, List.set_cons_succ]
  refine wpAnyH_take (i := 5) (oi := ?oir4_5) (v := ?vr4_5) ?hir4_5 (by kernel_rfl) (by kernel_rfl) (by kernel_rfl) ?hqr4_5 ?hyr4_5 (by assumption) ?restr4_5
  case hir4_5 => simp only [List.getElem?_toArray, List.getElem?_cons_succ, List.getElem?_cons_zero]; rfl
  case hqr4_5 => exact fun _ _ _ h => h
  case hyr4_5 => (refine Or.inl ⟨by rfl, ?_⟩; intro w hSw; (try dsimp only at hSw); go_simp; all_goals with_reducible rfl)
  try simp only [Act.put, List.setIfInBounds_toArray, List.set_cons_zero, List.set_cons_succ]
  refine wpAnyH_take (i := 6) (oi := ?oir4_6) (v := ?vr4_6) ?hir4_6 (by kernel_rfl) (by kernel_rfl) (by kernel_rfl) ?hqr4_6 ?hyr4_6 (by assumption) ?restr4_6
  case hir4_6 => simp only [List.getElem?_toArray, List.getElem?_cons_succ, List.getElem?_cons_zero]; rfl
  case hqr4_6 => exact fun _ _ _ h => h
  case hyr4_6 => (refine Or.inl ⟨by rfl, ?_⟩; intro w hSw; (try dsimp only at hSw); go_simp; all_goals with_reducible rfl)
  try simp only [Act.put, List.setIfInBounds_toArray, List.set_cons_zero, List.set_cons_succ]
  refine wpAnyH_take (i := 7) (oi := ?oir4_7) (v := ?vr4_7) ?hir4_7 (by kernel_rfl) (by kernel_rfl) (by kernel_rfl) ?hqr4_7 ?hyr4_7 (by assumption) ?restr4_7
  case hir4_7 => simp only [List.getElem?_toArray, List.getElem?_cons_succ, List.getElem?_cons_zero]; rfl
  case hqr4_7 => exact fun _ _ _ h => h
  case hyr4_7 => (refine Or.inl ⟨by rfl, ?_⟩; intro w hSw; (try dsimp only at hSw); go_simp; all_goals with_reducible rfl)
  try simp only [Act.put, List.setIfInBounds_toArray, List.set_cons_zero, List.set_cons_succ]
  refine wpAnyH_take (i := 8) (oi := ?oir4_8) (v := ?vr4_8) ?hir4_8 (by kernel_rfl) (by kernel_rfl) (by kernel_rfl) ?hqr4_8 ?hyr4_8 (by assumption) ?restr4_8
  case hir4_8 => simp only [List.getElem?_toArray, List.getElem?_cons_succ, List.getElem?_cons_zero]; rfl
  case hqr4_8 => exact fun _ _ _ h => h
  case hyr4_8 => (refine Or.inl ⟨by rfl, ?_⟩; intro w hSw; (try dsimp only at hSw); go_simp; all_goals with_reducible rfl)
  try simp only [Act.put, List.setIfInBounds_toArray, List.set_cons_zero, List.set_cons_succ]
  refine wpAnyH_done (by kernel_rfl) ?_ _
  clear hHeld
  go_wp2_with fail
  have hb := (Below.refl w9.heap.size w9).drew
  have B10 := B9.trans (hb.mono B9.size)
  have h_hn_10 := h_hn_9.below hb
  have h_hd_10 := h_hd_9.below hb
  have h_h_10 := h_h_9.later hb
  have h_bn_10 := h_bn_9.below hb
  have h_bd_10 := h_bd_9.below hb
  have h_b_10 := h_b_9.later hb
  clear hb B9 h_hn_9 h_hd_9 h_h_9 h_bn_9 h_bd_9 h_b_9
  refine wp_region_held_drew (S := (fun w' => w'.cell? ⟨w5.heap.size, 0, none⟩ = some (.bool ((fr V (S + 1))).neg) ∧ w'.cell? ⟨w5.heap.size, 1, none⟩ = some (.slice a_b n_b c_b) ∧ w'.cell? ⟨w5.heap.size, 2, none⟩ = some (.slice b_b m_b d_b) ∧ True)) (by kernel_rfl) ?_ (fun hHeld => ?_)
  · exact ⟨h_b_10.cell 0 _ rfl, h_b_10.cell 1 _ rfl, h_b_10.cell 2 _ rfl, trivial⟩
  generalize w9.drew = w10 at *
  refine wpAnyH_take (i := 0) (oi := ?oir5_0) (v := ?vr5_0) ?hir5_0 (by kernel_rfl) (by kernel_rfl) (by kernel_rfl) ?hqr5_0 ?hyr5_0 (by assumption) ?restr5_0
  case hir5_0 => simp only [List.getElem?_toArray, List.getElem?_cons_succ, List.getElem?_cons_zero]; rfl
  case hqr5_0 => exact fun _ _ _ h => h
  case hyr5_0 => (refine Or.inl ⟨by rfl, ?_⟩; intro w hSw; (try dsimp only at hSw); go_simp; all_goals with_reducible rfl)
  try simp only [Act.put, List.setIfInBounds_toArray, List.set_cons_zero, List.set_cons_succ]
  refine wpAnyH_take (i := 1) (oi := ?oir5_1) (v := ?vr5_1) ?hir5_1 (by kernel_rfl) (by kernel_rfl) (by kernel_rfl) ?hqr5_1 ?hyr5_1 (by assumption) ?restr5_1
  case hir5_1 => simp only [List.getElem?_toArray, List.getElem?_cons_succ, List.getElem?_cons_zero]; rfl
  case hqr5_1 => exact fun _ _ _ h => h
  case hyr5_1 => (refine Or.inl ⟨by rfl, ?_⟩; intro w hSw; (try dsimp only at hSw); go_simp; all_goals with_reducible rfl)
  try simp only [Act.put, List.setIfInBounds_toArray, List.set_cons_zero, List.set_cons_succ]
  refine wpAnyH_take (i := 3) (oi := ?oir5_3) (v := ?vr5_3) ?hir5_3 (by kernel_rfl) (by kernel_rfl) (by kernel_rfl) ?hqr5_3 ?hyr5_3 (by assumption) ?restr5_3
  case hir5_3 => simp only [List.getElem?_toArray, List.getElem?_cons_succ, List.getElem?_cons_zero]; rfl
  case hqr5_3 => exact fun _ _ _ h => h
  case hyr5_3 => (refine Or.inl ⟨by rfl, ?_⟩; intro w hSw; (try dsimp only at hSw); go_simp; all_goals with_reducible rfl)
  try simp only [Act.put, List.setIfInBounds_toArray, List.set_cons_zero, List.set_cons_succ]
  refine wpAnyH_ready (rs := [2]) (by kernel_rfl) (by simp) ?_
  refine AllReadyH.cons (o := ?or6_2) ?hor6_2 (fun K hK => ?kr6_2) AllReadyH.nil
  case hor6_2 => simp only [List.getElem?_toArray, List.getElem?_cons_succ, List.getElem?_cons_zero]; rfl
  go_simp
  have c := whole_any w10 p p1 p2
  rw [WP.out] at c
  refine c.mono ?_
  rintro e w11 ⟨a_x, n_x, c_x, b_x, m_x, d_x, rfl, h_xn_11, h_xd_11, hb⟩
  clear c
  have B11 := B10.trans (hb.mono B10.size)
  have h_hn_11 := h_hn_10.below hb
  have h_hd_11 := h_hd_10.below hb
  have h_h_11 := h_h_10.later hb
  have h_bn_11 := h_bn_10.below hb
  have h_bd_11 := h_bd_10.below hb
  have h_b_11 := h_b_10.later hb
  clear hb B10 h_hn_10 h_hd_10 h_h_10 h_bn_10 h_bd_10 h_b_10
  go_wp2_with fail
  clear hHeld
  refine hK.out _ _ ?_ (fun hHeld => ?_)
  · exact ⟨h_b_11.cell 0 _ rfl, h_b_11.cell 1 _ rfl, h_b_11.cell 2 _ rfl, trivial⟩
  clear hK K
  try simp only [Act.put, List.setIfInBounds_toArray, List.set_cons_zero, List.set_cons_succ]
  refine wpAnyH_ready (rs := [4]) (by kernel_rfl) (by simp) ?_
  refine AllReadyH.cons (o := ?or7_4) ?hor7_4 (fun K hK => ?kr7_4) AllReadyH.nil
  case hor7_4 => simp only [List.getElem?_toArray, List.getElem?_cons_succ, List.getElem?_cons_zero]; rfl
  go_simp
  have c := ratCmp_any w11 (g1 := (fr P 1).neg) (g2 := (fr V (S + 1)).neg) h_xn_11 h_xd_11 h_bn_11 h_bd_11
  rw [show (⟨(fr P 1).neg, (fr P 1).num, (fr P 1).den⟩ : QV) = fr P 1 from rfl] at c
  rw [show (⟨(fr V (S + 1)).neg, (fr V (S + 1)).num, (fr V (S + 1)).den⟩ : QV) = fr V (S + 1) from rfl] at c
  rw [C2.out] at c
  refine c.mono ?_
  rintro e w12 ⟨rfl, hb⟩
  clear c
  have B12 := B11.trans (hb.mono B11.size)
  have h_hn_12 := h_hn_11.below hb
  have h_hd_12 := h_hd_11.below hb
  have h_h_12 := h_h_11.later hb
  have h_bn_12 := h_bn_11.below hb
  have h_bd_12 := h_bd_11.below hb
  have h_b_12 := h_b_11.later hb
  clear hb B11 h_hn_11 h_hd_11 h_h_11 h_bn_11 h_bd_11 h_b_11 h_xn_11 h_xd_11
  go_wp2_with fail
  clear hHeld
  refine hK.out _ _ ?_ (fun hHeld => ?_)
  · exact ⟨h_b_12.cell 0 _ rfl, h_b_12.cell 1 _ rfl, h_b_12.cell 2 _ rfl, trivial⟩
  clear hK K
  try simp only [Act.put, List.setIfInBounds_toArray, List.set_cons_zero, List.set_cons_succ]
  refine wpAnyH_take (i := 5) (oi := ?oir8_5) (v := ?vr8_5) ?hir8_5 (by kernel_rfl) (by kernel_rfl) (by kernel_rfl) ?hqr8_5 ?hyr8_5 (by assumption) ?restr8_5
  case hir8_5 => simp only [List.getElem?_toArray, List.getElem?_cons_succ, List.getElem?_cons_zero]; rfl
  case hqr8_5 => exact fun _ _ _ h => h
  case hyr8_5 => (refine Or.inl ⟨by rfl, ?_⟩; intro w hSw; (try dsimp only at hSw); go_simp; all_goals with_reducible rfl)
  try simp only [Act.put, List.setIfInBounds_toArray, List.set_cons_zero, List.set_cons_succ]
  refine wpAnyH_take (i := 6) (oi := ?oir8_6) (v := ?vr8_6) ?hir8_6 (by kernel_rfl) (by kernel_rfl) (by kernel_rfl) ?hqr8_6 ?hyr8_6 (by assumption) ?restr8_6
  case hir8_6 => simp only [List.getElem?_toArray, List.getElem?_cons_succ, List.getElem?_cons_zero]; rfl
  case hqr8_6 => exact fun _ _ _ h => h
  case hyr8_6 => (refine Or.inl ⟨by rfl, ?_⟩; intro w hSw; (try dsimp only at hSw); go_simp; all_goals with_reducible rfl)
  try simp only [Act.put, List.setIfInBounds_toArray, List.set_cons_zero, List.set_cons_succ]
  refine wpAnyH_take (i := 7) (oi := ?oir8_7) (v := ?vr8_7) ?hir8_7 (by kernel_rfl) (by kernel_rfl) (by kernel_rfl) ?hqr8_7 ?hyr8_7 (by assumption) ?restr8_7
  case hir8_7 => simp only [List.getElem?_toArray, List.getElem?_cons_succ, List.getElem?_cons_zero]; rfl
  case hqr8_7 => exact fun _ _ _ h => h
  case hyr8_7 => (refine Or.inl ⟨by rfl, ?_⟩; intro w hSw; (try dsimp only at hSw); go_simp; all_goals with_reducible rfl)
  try simp only [Act.put, List.setIfInBounds_toArray, List.set_cons_zero, List.set_cons_succ]
  refine wpAnyH_take (i := 8) (oi := ?oir8_8) (v := ?vr8_8) ?hir8_8 (by kernel_rfl) (by kernel_rfl) (by kernel_rfl) ?hqr8_8 ?hyr8_8 (by assumption) ?restr8_8
  case hir8_8 => simp only [List.getElem?_toArray, List.getElem?_cons_succ, List.getElem?_cons_zero]; rfl
  case hqr8_8 => exact fun _ _ _ h => h
  case hyr8_8 => (refine Or.inl ⟨by rfl, ?_⟩; intro w hSw; (try dsimp only at hSw); go_simp; all_goals with_reducible rfl)
  try simp only [Act.put, List.setIfInBounds_toArray, List.set_cons_zero, List.set_cons_succ]
  refine wpAnyH_take (i := 9) (oi := ?oir8_9) (v := ?vr8_9) ?hir8_9 (by kernel_rfl) (by kernel_rfl) (by kernel_rfl) ?hqr8_9 ?hyr8_9 (by assumption) ?restr8_9
  case hir8_9 => simp only [List.getElem?_toArray, List.getElem?_cons_succ, List.getElem?_cons_zero]; rfl
  case hqr8_9 => exact fun _ _ _ h => h
  case hyr8_9 => (refine Or.inl ⟨by rfl, ?_⟩; intro w hSw; (try dsimp only at hSw); go_simp; all_goals with_reducible rfl)
  try simp only [Act.put, List.setIfInBounds_toArray, List.set_cons_zero, List.set_cons_succ]
  refine wpAnyH_done (by kernel_rfl) ?_ _
  clear hHeld
  have k_b_0 := h_b_12.cell 0 _ rfl
  have k_b_1 := h_b_12.cell 1 _ rfl
  have k_b_2 := h_b_12.cell 2 _ rfl
  have k_h_0 := h_h_12.cell 0 _ rfl
  have k_h_1 := h_h_12.cell 1 _ rfl
  have k_h_2 := h_h_12.cell 2 _ rfl
  go_wp2_with fail
  clear k_b_0 k_b_1 k_b_2 k_h_0 k_h_1 k_h_2
  have c := ratCmp_any w12 (g1 := (fr V (S + 1)).neg) (g2 := (fr V S).neg) h_bn_12 h_bd_12 h_hn_12 h_hd_12
  rw [show (⟨(fr V (S + 1)).neg, (fr V (S + 1)).num, (fr V (S + 1)).den⟩ : QV) = fr V (S + 1) from rfl] at c
  rw [show (⟨(fr V S).neg, (fr V S).num, (fr V S).den⟩ : QV) = fr V S from rfl] at c
  rw [C3.out] at c
  refine c.mono ?_
  rintro e w13 ⟨rfl, hb⟩
  clear c
  have B13 := B12.trans (hb.mono B12.size)
  have h_hn_13 := h_hn_12.below hb
  have h_hd_13 := h_hd_12.below hb
  have h_h_13 := h_h_12.later hb
  have h_bn_13 := h_bn_12.below hb
  have h_bd_13 := h_bd_12.below hb
  have h_b_13 := h_b_12.later hb
  clear hb B12 h_hn_12 h_hd_12 h_h_12 h_bn_12 h_bd_12 h_b_12
  go_upto_region 9 with fail
  go_cut [17, 18] from 65 to 71 (fun s1 s2 wx => ∃ a_y n_y c_y b_y m_y d_y g_y, s1 = Value.pointer (some ⟨g_y, 0, none⟩) ∧ s2 = Value.int .i64 0 ∧ PRow 27 w13 wx g_y #[.bool (fr V 1).neg, .slice a_y n_y c_y, .slice b_y m_y d_y] ∧ Rd .u32 wx a_y n_y c_y (fr V 1).num ∧ Rd .u32 wx b_y m_y d_y (fr V 1).den)
  case first =>
    have k0 := h_h_13.cell 0 _ rfl
    have k1 := h_h_13.cell 1 _ rfl
    have k2 := h_h_13.cell 2 _ rfl
    have kl := h_h_13.lt
    have D0 := (Below.refl w13.heap.size w13).drew
    refine wp_region_held_drew (S := (fun w' => Below w13.heap.size w13 w' ∧ w'.cell? ⟨w3.heap.size, 0, none⟩ = some (.bool ((fr V S)).neg) ∧ w'.cell? ⟨w3.heap.size, 1, none⟩ = some (.slice a_h n_h c_h) ∧ w'.cell? ⟨w3.heap.size, 2, none⟩ = some (.slice b_h m_h d_h))) (by kernel_rfl) ?_ (fun hHeld => ?_)
    · exact ⟨D0, cell_later D0 k0 kl, cell_later D0 k1 kl, cell_later D0 k2 kl⟩
    clear D0
    refine wpAnyH_take (i := 0) (oi := ?oir9_0) (v := ?vr9_0) ?hir9_0 (by kernel_rfl) (by kernel_rfl) (by kernel_rfl) ?hqr9_0 ?hyr9_0 (by assumption) ?restr9_0
    case hir9_0 => simp only [List.getElem?_toArray, List.getElem?_cons_succ, List.getElem?_cons_zero]; rfl
    case hqr9_0 => exact fun _ _ _ h => h
    case hyr9_0 => (refine Or.inl ⟨by rfl, ?_⟩; intro w hSw; (try dsimp only at hSw); go_simp; all_goals with_reducible rfl)
    try simp only [Act.put, List.setIfInBounds_toArray, List.set_cons_zero, List.set_cons_succ]
    refine wpAnyH_take (i := 1) (oi := ?oir9_1) (v := ?vr9_1) ?hir9_1 (by kernel_rfl) (by kernel_rfl) (by kernel_rfl) ?hqr9_1 ?hyr9_1 (by assumption) ?restr9_1
    case hir9_1 => simp only [List.getElem?_toArray, List.getElem?_cons_succ, List.getElem?_cons_zero]; rfl
    case hqr9_1 => exact fun _ _ _ h => h
    case hyr9_1 => (refine Or.inl ⟨by rfl, ?_⟩; intro w hSw; (try dsimp only at hSw); go_simp; all_goals with_reducible rfl)
    try simp only [Act.put, List.setIfInBounds_toArray, List.set_cons_zero, List.set_cons_succ]
    refine wpAnyH_ready (rs := [2, 7]) (by kernel_rfl) (by simp) ?_
    refine (AllReadyH.cons (o := ?ob24_2) ?hob24_2 (fun K hK => ?kb24_2) (AllReadyH.cons (o := ?ob24_7) ?hob24_7 (fun K hK => ?kb24_7) AllReadyH.nil))
    case hob24_2 => simp only [List.getElem?_toArray, List.getElem?_cons_succ, List.getElem?_cons_zero]; rfl
    case hob24_7 => simp only [List.getElem?_toArray, List.getElem?_cons_succ, List.getElem?_cons_zero]; rfl
    case kb24_2 =>
      go_simp
      refine (whole_any w13.drew s h_s1 l_s).mono ?_
      rintro e2 wa ⟨a2, n2, c2', b2, m2, d2, rfl, y1, y2, hb2⟩
      have BW := hHeld.1.trans (hb2.mono hHeld.1.size)
      go_wp2_with fail
      refine hK.out _ _ ?_ (fun hHeld => ?_)
      · exact keep_one hHeld hb2 kl
      clear hK K
      try simp only [Act.put, List.setIfInBounds_toArray, List.set_cons_zero, List.set_cons_succ]
      refine wpAnyH_ready (rs := [3, 7]) (by kernel_rfl) (by simp) ?_
      refine (AllReadyH.cons (o := ?ob18_3) ?hob18_3 (fun K hK => ?kb18_3) (AllReadyH.cons (o := ?ob18_7) ?hob18_7 (fun K hK => ?kb18_7) AllReadyH.nil))
      case hob18_3 => simp only [List.getElem?_toArray, List.getElem?_cons_succ, List.getElem?_cons_zero]; rfl
      case hob18_7 => simp only [List.getElem?_toArray, List.getElem?_cons_succ, List.getElem?_cons_zero]; rfl
      case kb18_3 =>
        go_simp
        have cc := ratMul_any wa (g1 := (fr V S).neg) (g2 := (ofC s 1).1.neg) (h_hn_13.below BW) (h_hd_13.below BW) y1 y2
        rw [show (⟨(fr V S).neg, (fr V S).num, (fr V S).den⟩ : QV) = fr V S from rfl, show (⟨(ofC s 1).1.neg, (ofC s 1).1.num, (ofC s 1).1.den⟩ : QV) = (ofC s 1).1 from rfl, M1.out] at cc
        refine cc.mono ?_
        rintro e2 wb ⟨a_y, n_y, c_y, b_y, m_y, d_y, rfl, z1, z2, hb3⟩
        clear cc
        have BW := BW.trans (hb3.mono BW.size)
        go_wp2_with fail
        refine hK.out _ _ ?_ (fun hHeld => ?_)
        · exact keep_one hHeld hb3 kl
        clear hK K
        try simp only [Act.put, List.setIfInBounds_toArray, List.set_cons_zero, List.set_cons_succ]
        refine wpAnyH_take (i := 4) (oi := ?oir10_4) (v := ?vr10_4) ?hir10_4 (by kernel_rfl) (by kernel_rfl) (by kernel_rfl) ?hqr10_4 ?hyr10_4 (by assumption) ?restr10_4
        case hir10_4 => simp only [List.getElem?_toArray, List.getElem?_cons_succ, List.getElem?_cons_zero]; rfl
        case hqr10_4 => exact fun _ _ _ h => h
        case hyr10_4 => (refine Or.inl ⟨by rfl, ?_⟩; intro w hSw; (try dsimp only at hSw); go_simp; all_goals with_reducible rfl)
        try simp only [Act.put, List.setIfInBounds_toArray, List.set_cons_zero, List.set_cons_succ]
        refine wpAnyH_take (i := 5) (oi := ?oir10_5) (v := ?vr10_5) ?hir10_5 (by kernel_rfl) (by kernel_rfl) (by kernel_rfl) ?hqr10_5 ?hyr10_5 (by assumption) ?restr10_5
        case hir10_5 => simp only [List.getElem?_toArray, List.getElem?_cons_succ, List.getElem?_cons_zero]; rfl
        case hqr10_5 => exact fun _ _ _ h => h
        case hyr10_5 => (refine Or.inl ⟨by rfl, ?_⟩; intro w hSw; (try dsimp only at hSw); go_simp; all_goals with_reducible rfl)
        try simp only [Act.put, List.setIfInBounds_toArray, List.set_cons_zero, List.set_cons_succ]
        refine wpAnyH_take (i := 6) (oi := ?oir10_6) (v := ?vr10_6) ?hir10_6 (by kernel_rfl) (by kernel_rfl) (by kernel_rfl) ?hqr10_6 ?hyr10_6 (by assumption) ?restr10_6
        case hir10_6 => simp only [List.getElem?_toArray, List.getElem?_cons_succ, List.getElem?_cons_zero]; rfl
        case hqr10_6 => exact fun _ _ _ h => h
        case hyr10_6 => (refine Or.inl ⟨by rfl, ?_⟩; intro w hSw; (try dsimp only at hSw); go_simp; all_goals with_reducible rfl)
        try simp only [Act.put, List.setIfInBounds_toArray, List.set_cons_zero, List.set_cons_succ]
        refine wpAnyH_ready (rs := [7]) (by kernel_rfl) (by simp) ?_
        refine (AllReadyH.cons (o := ?ob13_7) ?hob13_7 (fun K hK => ?kb13_7) AllReadyH.nil)
        case hob13_7 => simp only [List.getElem?_toArray, List.getElem?_cons_succ, List.getElem?_cons_zero]; rfl
        case kb13_7 =>
          go_simp
          have hSZ := hHeld.1.size
          refine hK.out _ _ ?_ (fun hHeld => ?_)
          · exact keep_one hHeld (below_al _ _) kl
          clear hK K
          try simp only [Act.put, List.setIfInBounds_toArray, List.set_cons_zero, List.set_cons_succ]
          have RA := (PRow.new 27 wb #[.bool false, .slice none 0 0, .slice none 0 0]).rebase hHeld.1 (by first | exact Nat.le_refl _ | exact hSZ)
          have z1 := z1.below (below_al wb (.cells #[.bool false, .slice none 0 0, .slice none 0 0] 27))
          have z2 := z2.below (below_al wb (.cells #[.bool false, .slice none 0 0, .slice none 0 0] 27))
          refine wpAnyH_ready (rs := [8]) (by kernel_rfl) (by simp) ?_
          refine (AllReadyH.cons (o := ?ob12_8) ?hob12_8 (fun K hK => ?kb12_8) AllReadyH.nil)
          case hob12_8 => simp only [List.getElem?_toArray, List.getElem?_cons_succ, List.getElem?_cons_zero]; rfl
          case kb12_8 =>
            rw [if_pos (by rfl)]
            refine op_store_whole 27 _ _ rfl atRat _ _ _ RA.row rfl rfl rfl rfl (rat_one _ _ _ _ _ _ _) ?_
            refine hK.out _ _ ?_ (fun hHeld => ?_)
            · exact keep_one_row hHeld RA.lo kl
            clear hK K
            try simp only [Act.put, List.setIfInBounds_toArray, List.set_cons_zero, List.set_cons_succ]
            refine wpAnyH_take (i := 9) (oi := ?oir11_9) (v := ?vr11_9) ?hir11_9 (by kernel_rfl) (by kernel_rfl) (by kernel_rfl) ?hqr11_9 ?hyr11_9 (by assumption) ?restr11_9
            case hir11_9 => simp only [List.getElem?_toArray, List.getElem?_cons_succ, List.getElem?_cons_zero]; rfl
            case hqr11_9 => exact fun _ _ _ h => h
            case hyr11_9 => (refine Or.inl ⟨by rfl, ?_⟩; intro w hSw; (try dsimp only at hSw); go_simp; all_goals with_reducible rfl)
            try simp only [Act.put, List.setIfInBounds_toArray, List.set_cons_zero, List.set_cons_succ]
            refine wpAnyH_done (by kernel_rfl) ?_ _
            go_wp2_with fail
            go_meet
            exact ⟨a_y, n_y, c_y, b_y, m_y, d_y, _, rfl, rfl, RA.put _, rd_rowset z1 RA.row (rat_noint _ _ _ _ _ _ _) _, rd_rowset z2 RA.row (rat_noint _ _ _ _ _ _ _) _⟩
      case kb18_7 =>
        go_simp
        have hSZ := hHeld.1.size
        refine hK.out _ _ ?_ (fun hHeld => ?_)
        · exact keep_one hHeld (below_al _ _) kl
        clear hK K
        try simp only [Act.put, List.setIfInBounds_toArray, List.set_cons_zero, List.set_cons_succ]
        have RA := (PRow.new 27 wa #[.bool false, .slice none 0 0, .slice none 0 0]).rebase hHeld.1 (by first | exact Nat.le_refl _ | exact hSZ)
        have y1 := y1.below (below_al wa (.cells #[.bool false, .slice none 0 0, .slice none 0 0] 27))
        have y2 := y2.below (below_al wa (.cells #[.bool false, .slice none 0 0, .slice none 0 0] 27))
        have BW := BW.trans ((below_al wa (.cells #[.bool false, .slice none 0 0, .slice none 0 0] 27)).mono BW.size)
        refine wpAnyH_ready (rs := [3]) (by kernel_rfl) (by simp) ?_
        refine (AllReadyH.cons (o := ?ob17_3) ?hob17_3 (fun K hK => ?kb17_3) AllReadyH.nil)
        case hob17_3 => simp only [List.getElem?_toArray, List.getElem?_cons_succ, List.getElem?_cons_zero]; rfl
        case kb17_3 =>
          go_simp
          have cc := ratMul_any _ (g1 := (fr V S).neg) (g2 := (ofC s 1).1.neg) (h_hn_13.below BW) (h_hd_13.below BW) y1 y2
          rw [show (⟨(fr V S).neg, (fr V S).num, (fr V S).den⟩ : QV) = fr V S from rfl, show (⟨(ofC s 1).1.neg, (ofC s 1).1.num, (ofC s 1).1.den⟩ : QV) = (ofC s 1).1 from rfl, M1.out] at cc
          refine cc.mono ?_
          rintro e2 wb ⟨a_y, n_y, c_y, b_y, m_y, d_y, rfl, z1, z2, hb3⟩
          clear cc
          have BW := BW.trans (hb3.mono BW.size)
          go_wp2_with fail
          refine hK.out _ _ ?_ (fun hHeld => ?_)
          · exact keep_one hHeld hb3 kl
          clear hK K
          try simp only [Act.put, List.setIfInBounds_toArray, List.set_cons_zero, List.set_cons_succ]
          have RA := RA.later hb3
          refine wpAnyH_take (i := 4) (oi := ?oir14_4) (v := ?vr14_4) ?hir14_4 (by kernel_rfl) (by kernel_rfl) (by kernel_rfl) ?hqr14_4 ?hyr14_4 (by assumption) ?restr14_4
          case hir14_4 => simp only [List.getElem?_toArray, List.getElem?_cons_succ, List.getElem?_cons_zero]; rfl
          case hqr14_4 => exact fun _ _ _ h => h
          case hyr14_4 => (refine Or.inl ⟨by rfl, ?_⟩; intro w hSw; (try dsimp only at hSw); go_simp; all_goals with_reducible rfl)
          try simp only [Act.put, List.setIfInBounds_toArray, List.set_cons_zero, List.set_cons_succ]
          refine wpAnyH_take (i := 5) (oi := ?oir14_5) (v := ?vr14_5) ?hir14_5 (by kernel_rfl) (by kernel_rfl) (by kernel_rfl) ?hqr14_5 ?hyr14_5 (by assumption) ?restr14_5
          case hir14_5 => simp only [List.getElem?_toArray, List.getElem?_cons_succ, List.getElem?_cons_zero]; rfl
          case hqr14_5 => exact fun _ _ _ h => h
          case hyr14_5 => (refine Or.inl ⟨by rfl, ?_⟩; intro w hSw; (try dsimp only at hSw); go_simp; all_goals with_reducible rfl)
          try simp only [Act.put, List.setIfInBounds_toArray, List.set_cons_zero, List.set_cons_succ]
          refine wpAnyH_take (i := 6) (oi := ?oir14_6) (v := ?vr14_6) ?hir14_6 (by kernel_rfl) (by kernel_rfl) (by kernel_rfl) ?hqr14_6 ?hyr14_6 (by assumption) ?restr14_6
          case hir14_6 => simp only [List.getElem?_toArray, List.getElem?_cons_succ, List.getElem?_cons_zero]; rfl
          case hqr14_6 => exact fun _ _ _ h => h
          case hyr14_6 => (refine Or.inl ⟨by rfl, ?_⟩; intro w hSw; (try dsimp only at hSw); go_simp; all_goals with_reducible rfl)
          try simp only [Act.put, List.setIfInBounds_toArray, List.set_cons_zero, List.set_cons_succ]
          refine wpAnyH_ready (rs := [8]) (by kernel_rfl) (by simp) ?_
          refine (AllReadyH.cons (o := ?ob16_8) ?hob16_8 (fun K hK => ?kb16_8) AllReadyH.nil)
          case hob16_8 => simp only [List.getElem?_toArray, List.getElem?_cons_succ, List.getElem?_cons_zero]; rfl
          case kb16_8 =>
            rw [if_pos (by rfl)]
            refine op_store_whole 27 _ _ rfl atRat _ _ _ RA.row rfl rfl rfl rfl (rat_one _ _ _ _ _ _ _) ?_
            refine hK.out _ _ ?_ (fun hHeld => ?_)
            · exact keep_one_row hHeld RA.lo kl
            clear hK K
            try simp only [Act.put, List.setIfInBounds_toArray, List.set_cons_zero, List.set_cons_succ]
            refine wpAnyH_take (i := 9) (oi := ?oir15_9) (v := ?vr15_9) ?hir15_9 (by kernel_rfl) (by kernel_rfl) (by kernel_rfl) ?hqr15_9 ?hyr15_9 (by assumption) ?restr15_9
            case hir15_9 => simp only [List.getElem?_toArray, List.getElem?_cons_succ, List.getElem?_cons_zero]; rfl
            case hqr15_9 => exact fun _ _ _ h => h
            case hyr15_9 => (refine Or.inl ⟨by rfl, ?_⟩; intro w hSw; (try dsimp only at hSw); go_simp; all_goals with_reducible rfl)
            try simp only [Act.put, List.setIfInBounds_toArray, List.set_cons_zero, List.set_cons_succ]
            refine wpAnyH_done (by kernel_rfl) ?_ _
            go_wp2_with fail
            go_meet
            exact ⟨a_y, n_y, c_y, b_y, m_y, d_y, _, rfl, rfl, RA.put _, rd_rowset z1 RA.row (rat_noint _ _ _ _ _ _ _) _, rd_rowset z2 RA.row (rat_noint _ _ _ _ _ _ _) _⟩
    case kb24_7 =>
      go_simp
      have hSZ := hHeld.1.size
      refine hK.out _ _ ?_ (fun hHeld => ?_)
      · exact keep_one hHeld (below_al _ _) kl
      clear hK K
      try simp only [Act.put, List.setIfInBounds_toArray, List.set_cons_zero, List.set_cons_succ]
      have RA := (PRow.new 27 w13.drew #[.bool false, .slice none 0 0, .slice none 0 0]).rebase hHeld.1 (by first | exact Nat.le_refl _ | exact hSZ)
      refine wpAnyH_ready (rs := [2]) (by kernel_rfl) (by simp) ?_
      refine (AllReadyH.cons (o := ?ob23_2) ?hob23_2 (fun K hK => ?kb23_2) AllReadyH.nil)
      case hob23_2 => simp only [List.getElem?_toArray, List.getElem?_cons_succ, List.getElem?_cons_zero]; rfl
      case kb23_2 =>
        go_simp
        refine (whole_any _ s h_s1 l_s).mono ?_
        rintro e2 wa ⟨a2, n2, c2', b2, m2, d2, rfl, y1, y2, hb2⟩
        have BW := hHeld.1.trans (hb2.mono hHeld.1.size)
        go_wp2_with fail
        refine hK.out _ _ ?_ (fun hHeld => ?_)
        · exact keep_one hHeld hb2 kl
        clear hK K
        try simp only [Act.put, List.setIfInBounds_toArray, List.set_cons_zero, List.set_cons_succ]
        have RA := RA.later hb2
        refine wpAnyH_ready (rs := [3]) (by kernel_rfl) (by simp) ?_
        refine (AllReadyH.cons (o := ?ob22_3) ?hob22_3 (fun K hK => ?kb22_3) AllReadyH.nil)
        case hob22_3 => simp only [List.getElem?_toArray, List.getElem?_cons_succ, List.getElem?_cons_zero]; rfl
        case kb22_3 =>
          go_simp
          have cc := ratMul_any wa (g1 := (fr V S).neg) (g2 := (ofC s 1).1.neg) (h_hn_13.below BW) (h_hd_13.below BW) y1 y2
          rw [show (⟨(fr V S).neg, (fr V S).num, (fr V S).den⟩ : QV) = fr V S from rfl, show (⟨(ofC s 1).1.neg, (ofC s 1).1.num, (ofC s 1).1.den⟩ : QV) = (ofC s 1).1 from rfl, M1.out] at cc
          refine cc.mono ?_
          rintro e2 wb ⟨a_y, n_y, c_y, b_y, m_y, d_y, rfl, z1, z2, hb3⟩
          clear cc
          have BW := BW.trans (hb3.mono BW.size)
          go_wp2_with fail
          refine hK.out _ _ ?_ (fun hHeld => ?_)
          · exact keep_one hHeld hb3 kl
          clear hK K
          try simp only [Act.put, List.setIfInBounds_toArray, List.set_cons_zero, List.set_cons_succ]
          have RA := RA.later hb3
          refine wpAnyH_take (i := 4) (oi := ?oir19_4) (v := ?vr19_4) ?hir19_4 (by kernel_rfl) (by kernel_rfl) (by kernel_rfl) ?hqr19_4 ?hyr19_4 (by assumption) ?restr19_4
          case hir19_4 => simp only [List.getElem?_toArray, List.getElem?_cons_succ, List.getElem?_cons_zero]; rfl
          case hqr19_4 => exact fun _ _ _ h => h
          case hyr19_4 => (refine Or.inl ⟨by rfl, ?_⟩; intro w hSw; (try dsimp only at hSw); go_simp; all_goals with_reducible rfl)
          try simp only [Act.put, List.setIfInBounds_toArray, List.set_cons_zero, List.set_cons_succ]
          refine wpAnyH_take (i := 5) (oi := ?oir19_5) (v := ?vr19_5) ?hir19_5 (by kernel_rfl) (by kernel_rfl) (by kernel_rfl) ?hqr19_5 ?hyr19_5 (by assumption) ?restr19_5
          case hir19_5 => simp only [List.getElem?_toArray, List.getElem?_cons_succ, List.getElem?_cons_zero]; rfl
          case hqr19_5 => exact fun _ _ _ h => h
          case hyr19_5 => (refine Or.inl ⟨by rfl, ?_⟩; intro w hSw; (try dsimp only at hSw); go_simp; all_goals with_reducible rfl)
          try simp only [Act.put, List.setIfInBounds_toArray, List.set_cons_zero, List.set_cons_succ]
          refine wpAnyH_take (i := 6) (oi := ?oir19_6) (v := ?vr19_6) ?hir19_6 (by kernel_rfl) (by kernel_rfl) (by kernel_rfl) ?hqr19_6 ?hyr19_6 (by assumption) ?restr19_6
          case hir19_6 => simp only [List.getElem?_toArray, List.getElem?_cons_succ, List.getElem?_cons_zero]; rfl
          case hqr19_6 => exact fun _ _ _ h => h
          case hyr19_6 => (refine Or.inl ⟨by rfl, ?_⟩; intro w hSw; (try dsimp only at hSw); go_simp; all_goals with_reducible rfl)
          try simp only [Act.put, List.setIfInBounds_toArray, List.set_cons_zero, List.set_cons_succ]
          refine wpAnyH_ready (rs := [8]) (by kernel_rfl) (by simp) ?_
          refine (AllReadyH.cons (o := ?ob21_8) ?hob21_8 (fun K hK => ?kb21_8) AllReadyH.nil)
          case hob21_8 => simp only [List.getElem?_toArray, List.getElem?_cons_succ, List.getElem?_cons_zero]; rfl
          case kb21_8 =>
            rw [if_pos (by rfl)]
            refine op_store_whole 27 _ _ rfl atRat _ _ _ RA.row rfl rfl rfl rfl (rat_one _ _ _ _ _ _ _) ?_
            refine hK.out _ _ ?_ (fun hHeld => ?_)
            · exact keep_one_row hHeld RA.lo kl
            clear hK K
            try simp only [Act.put, List.setIfInBounds_toArray, List.set_cons_zero, List.set_cons_succ]
            refine wpAnyH_take (i := 9) (oi := ?oir20_9) (v := ?vr20_9) ?hir20_9 (by kernel_rfl) (by kernel_rfl) (by kernel_rfl) ?hqr20_9 ?hyr20_9 (by assumption) ?restr20_9
            case hir20_9 => simp only [List.getElem?_toArray, List.getElem?_cons_succ, List.getElem?_cons_zero]; rfl
            case hqr20_9 => exact fun _ _ _ h => h
            case hyr20_9 => (refine Or.inl ⟨by rfl, ?_⟩; intro w hSw; (try dsimp only at hSw); go_simp; all_goals with_reducible rfl)
            try simp only [Act.put, List.setIfInBounds_toArray, List.set_cons_zero, List.set_cons_succ]
            refine wpAnyH_done (by kernel_rfl) ?_ _
            go_wp2_with fail
            go_meet
            exact ⟨a_y, n_y, c_y, b_y, m_y, d_y, _, rfl, rfl, RA.put _, rd_rowset z1 RA.row (rat_noint _ _ _ _ _ _ _) _, rd_rowset z2 RA.row (rat_noint _ _ _ _ _ _ _) _⟩
  case rest =>
  obtain ⟨a_y, n_y, c_y, b_y, m_y, d_y, g_y, rfl, rfl, R_y, h_yn_14, h_yd_14⟩ := hcut
  have hb := R_y.below
  have h_y_14 : Has w13 wc g_y #[.bool (fr V 1).neg, .slice a_y n_y c_y, .slice b_y m_y d_y] := ⟨R_y.below, fun i v h => R_y.cell i v h, R_y.lt⟩
  clear R_y
  have B14 := B13.trans (hb.mono B13.size)
  have h_hn_14 := h_hn_13.below hb
  have h_hd_14 := h_hd_13.below hb
  have h_h_14 := h_h_13.later hb
  have h_bn_14 := h_bn_13.below hb
  have h_bd_14 := h_bd_13.below hb
  have h_b_14 := h_b_13.later hb
  clear hb B13 h_hn_13 h_hd_13 h_h_13 h_bn_13 h_bd_13 h_b_13
  obtain ⟨w14, hw⟩ : ∃ w, w = wc := ⟨_, rfl⟩
  subst hw
  go_upto_region 10 with fail
  go_cut [19, 20] from 72 to 79 (fun s1 s2 wx => ∃ a_z n_z c_z b_z m_z d_z g_z, s1 = Value.pointer (some ⟨g_z, 0, none⟩) ∧ s2 = Value.int .i64 0 ∧ PRow 27 w14 wx g_z #[.bool (fr V 1).neg, .slice a_z n_z c_z, .slice b_z m_z d_z] ∧ Rd .u32 wx a_z n_z c_z (fr V 1).num ∧ Rd .u32 wx b_z m_z d_z (fr V 1).den)
  case first =>
    have k0 := h_b_14.cell 0 _ rfl
    have k1 := h_b_14.cell 1 _ rfl
    have k2 := h_b_14.cell 2 _ rfl
    have kl := h_b_14.lt
    have D0 := (Below.refl w14.heap.size w14).drew
    refine wp_region_held_drew (S := (fun w' => Below w14.heap.size w14 w' ∧ w'.cell? ⟨w5.heap.size, 0, none⟩ = some (.bool ((fr V (S + 1))).neg) ∧ w'.cell? ⟨w5.heap.size, 1, none⟩ = some (.slice a_b n_b c_b) ∧ w'.cell? ⟨w5.heap.size, 2, none⟩ = some (.slice b_b m_b d_b))) (by kernel_rfl) ?_ (fun hHeld => ?_)
    · exact ⟨D0, cell_later D0 k0 kl, cell_later D0 k1 kl, cell_later D0 k2 kl⟩
    clear D0
    refine wpAnyH_take (i := 0) (oi := ?oir25_0) (v := ?vr25_0) ?hir25_0 (by kernel_rfl) (by kernel_rfl) (by kernel_rfl) ?hqr25_0 ?hyr25_0 (by assumption) ?restr25_0
    case hir25_0 => simp only [List.getElem?_toArray, List.getElem?_cons_succ, List.getElem?_cons_zero]; rfl
    case hqr25_0 => exact fun _ _ _ h => h
    case hyr25_0 => (refine Or.inl ⟨by rfl, ?_⟩; intro w hSw; (try dsimp only at hSw); go_simp; all_goals with_reducible rfl)
    try simp only [Act.put, List.setIfInBounds_toArray, List.set_cons_zero, List.set_cons_succ]
    refine wpAnyH_take (i := 1) (oi := ?oir25_1) (v := ?vr25_1) ?hir25_1 (by kernel_rfl) (by kernel_rfl) (by kernel_rfl) ?hqr25_1 ?hyr25_1 (by assumption) ?restr25_1
    case hir25_1 => simp only [List.getElem?_toArray, List.getElem?_cons_succ, List.getElem?_cons_zero]; rfl
    case hqr25_1 => exact fun _ _ _ h => h
    case hyr25_1 => (refine Or.inl ⟨by rfl, ?_⟩; intro w hSw; (try dsimp only at hSw); go_simp; all_goals with_reducible rfl)
    try simp only [Act.put, List.setIfInBounds_toArray, List.set_cons_zero, List.set_cons_succ]
    refine wpAnyH_take (i := 2) (oi := ?oir25_2) (v := ?vr25_2) ?hir25_2 (by kernel_rfl) (by kernel_rfl) (by kernel_rfl) ?hqr25_2 ?hyr25_2 (by assumption) ?restr25_2
    case hir25_2 => simp only [List.getElem?_toArray, List.getElem?_cons_succ, List.getElem?_cons_zero]; rfl
    case hqr25_2 => exact fun _ _ _ h => h
    case hyr25_2 => (refine Or.inl ⟨by rfl, ?_⟩; intro w hSw; (try dsimp only at hSw); go_simp; all_goals with_reducible rfl)
    try simp only [Act.put, List.setIfInBounds_toArray, List.set_cons_zero, List.set_cons_succ]
    refine wpAnyH_ready (rs := [3, 8]) (by kernel_rfl) (by simp) ?_
    refine (AllReadyH.cons (o := ?ob40_3) ?hob40_3 (fun K hK => ?kb40_3) (AllReadyH.cons (o := ?ob40_8) ?hob40_8 (fun K hK => ?kb40_8) AllReadyH.nil))
    case hob40_3 => simp only [List.getElem?_toArray, List.getElem?_cons_succ, List.getElem?_cons_zero]; rfl
    case hob40_8 => simp only [List.getElem?_toArray, List.getElem?_cons_succ, List.getElem?_cons_zero]; rfl
    case kb40_3 =>
      go_simp
      refine (whole_any w14.drew n n1 n2).mono ?_
      rintro e2 wa ⟨a2, n2, c2', b2, m2, d2, rfl, y1, y2, hb2⟩
      have BW := hHeld.1.trans (hb2.mono hHeld.1.size)
      go_wp2_with fail
      refine hK.out _ _ ?_ (fun hHeld => ?_)
      · exact keep_one hHeld hb2 kl
      clear hK K
      try simp only [Act.put, List.setIfInBounds_toArray, List.set_cons_zero, List.set_cons_succ]
      refine wpAnyH_ready (rs := [4, 8]) (by kernel_rfl) (by simp) ?_
      refine (AllReadyH.cons (o := ?ob34_4) ?hob34_4 (fun K hK => ?kb34_4) (AllReadyH.cons (o := ?ob34_8) ?hob34_8 (fun K hK => ?kb34_8) AllReadyH.nil))
      case hob34_4 => simp only [List.getElem?_toArray, List.getElem?_cons_succ, List.getElem?_cons_zero]; rfl
      case hob34_8 => simp only [List.getElem?_toArray, List.getElem?_cons_succ, List.getElem?_cons_zero]; rfl
      case kb34_4 =>
        go_simp
        have cc := ratMul_any wa (g1 := (fr V (S + 1)).neg) (g2 := (ofC n 1).1.neg) (h_bn_14.below BW) (h_bd_14.below BW) y1 y2
        rw [show (⟨(fr V (S + 1)).neg, (fr V (S + 1)).num, (fr V (S + 1)).den⟩ : QV) = fr V (S + 1) from rfl, show (⟨(ofC n 1).1.neg, (ofC n 1).1.num, (ofC n 1).1.den⟩ : QV) = (ofC n 1).1 from rfl, M2.out] at cc
        refine cc.mono ?_
        rintro e2 wb ⟨a_z, n_z, c_z, b_z, m_z, d_z, rfl, z1, z2, hb3⟩
        clear cc
        have BW := BW.trans (hb3.mono BW.size)
        go_wp2_with fail
        refine hK.out _ _ ?_ (fun hHeld => ?_)
        · exact keep_one hHeld hb3 kl
        clear hK K
        try simp only [Act.put, List.setIfInBounds_toArray, List.set_cons_zero, List.set_cons_succ]
        refine wpAnyH_take (i := 5) (oi := ?oir26_5) (v := ?vr26_5) ?hir26_5 (by kernel_rfl) (by kernel_rfl) (by kernel_rfl) ?hqr26_5 ?hyr26_5 (by assumption) ?restr26_5
        case hir26_5 => simp only [List.getElem?_toArray, List.getElem?_cons_succ, List.getElem?_cons_zero]; rfl
        case hqr26_5 => exact fun _ _ _ h => h
        case hyr26_5 => (refine Or.inl ⟨by rfl, ?_⟩; intro w hSw; (try dsimp only at hSw); go_simp; all_goals with_reducible rfl)
        try simp only [Act.put, List.setIfInBounds_toArray, List.set_cons_zero, List.set_cons_succ]
        refine wpAnyH_take (i := 6) (oi := ?oir26_6) (v := ?vr26_6) ?hir26_6 (by kernel_rfl) (by kernel_rfl) (by kernel_rfl) ?hqr26_6 ?hyr26_6 (by assumption) ?restr26_6
        case hir26_6 => simp only [List.getElem?_toArray, List.getElem?_cons_succ, List.getElem?_cons_zero]; rfl
        case hqr26_6 => exact fun _ _ _ h => h
        case hyr26_6 => (refine Or.inl ⟨by rfl, ?_⟩; intro w hSw; (try dsimp only at hSw); go_simp; all_goals with_reducible rfl)
        try simp only [Act.put, List.setIfInBounds_toArray, List.set_cons_zero, List.set_cons_succ]
        refine wpAnyH_take (i := 7) (oi := ?oir26_7) (v := ?vr26_7) ?hir26_7 (by kernel_rfl) (by kernel_rfl) (by kernel_rfl) ?hqr26_7 ?hyr26_7 (by assumption) ?restr26_7
        case hir26_7 => simp only [List.getElem?_toArray, List.getElem?_cons_succ, List.getElem?_cons_zero]; rfl
        case hqr26_7 => exact fun _ _ _ h => h
        case hyr26_7 => (refine Or.inl ⟨by rfl, ?_⟩; intro w hSw; (try dsimp only at hSw); go_simp; all_goals with_reducible rfl)
        try simp only [Act.put, List.setIfInBounds_toArray, List.set_cons_zero, List.set_cons_succ]
        refine wpAnyH_ready (rs := [8]) (by kernel_rfl) (by simp) ?_
        refine (AllReadyH.cons (o := ?ob29_8) ?hob29_8 (fun K hK => ?kb29_8) AllReadyH.nil)
        case hob29_8 => simp only [List.getElem?_toArray, List.getElem?_cons_succ, List.getElem?_cons_zero]; rfl
        case kb29_8 =>
          go_simp
          have hSZ := hHeld.1.size
          refine hK.out _ _ ?_ (fun hHeld => ?_)
          · exact keep_one hHeld (below_al _ _) kl
          clear hK K
          try simp only [Act.put, List.setIfInBounds_toArray, List.set_cons_zero, List.set_cons_succ]
          have RA := (PRow.new 27 wb #[.bool false, .slice none 0 0, .slice none 0 0]).rebase hHeld.1 (by first | exact Nat.le_refl _ | exact hSZ)
          have z1 := z1.below (below_al wb (.cells #[.bool false, .slice none 0 0, .slice none 0 0] 27))
          have z2 := z2.below (below_al wb (.cells #[.bool false, .slice none 0 0, .slice none 0 0] 27))
          refine wpAnyH_ready (rs := [9]) (by kernel_rfl) (by simp) ?_
          refine (AllReadyH.cons (o := ?ob28_9) ?hob28_9 (fun K hK => ?kb28_9) AllReadyH.nil)
          case hob28_9 => simp only [List.getElem?_toArray, List.getElem?_cons_succ, List.getElem?_cons_zero]; rfl
          case kb28_9 =>
            rw [if_pos (by rfl)]
            refine op_store_whole 27 _ _ rfl atRat _ _ _ RA.row rfl rfl rfl rfl (rat_one _ _ _ _ _ _ _) ?_
            refine hK.out _ _ ?_ (fun hHeld => ?_)
            · exact keep_one_row hHeld RA.lo kl
            clear hK K
            try simp only [Act.put, List.setIfInBounds_toArray, List.set_cons_zero, List.set_cons_succ]
            refine wpAnyH_take (i := 10) (oi := ?oir27_10) (v := ?vr27_10) ?hir27_10 (by kernel_rfl) (by kernel_rfl) (by kernel_rfl) ?hqr27_10 ?hyr27_10 (by assumption) ?restr27_10
            case hir27_10 => simp only [List.getElem?_toArray, List.getElem?_cons_succ, List.getElem?_cons_zero]; rfl
            case hqr27_10 => exact fun _ _ _ h => h
            case hyr27_10 => (refine Or.inl ⟨by rfl, ?_⟩; intro w hSw; (try dsimp only at hSw); go_simp; all_goals with_reducible rfl)
            try simp only [Act.put, List.setIfInBounds_toArray, List.set_cons_zero, List.set_cons_succ]
            refine wpAnyH_done (by kernel_rfl) ?_ _
            go_wp2_with fail
            go_meet
            exact ⟨a_z, n_z, c_z, b_z, m_z, d_z, _, rfl, rfl, RA.put _, rd_rowset z1 RA.row (rat_noint _ _ _ _ _ _ _) _, rd_rowset z2 RA.row (rat_noint _ _ _ _ _ _ _) _⟩
      case kb34_8 =>
        go_simp
        have hSZ := hHeld.1.size
        refine hK.out _ _ ?_ (fun hHeld => ?_)
        · exact keep_one hHeld (below_al _ _) kl
        clear hK K
        try simp only [Act.put, List.setIfInBounds_toArray, List.set_cons_zero, List.set_cons_succ]
        have RA := (PRow.new 27 wa #[.bool false, .slice none 0 0, .slice none 0 0]).rebase hHeld.1 (by first | exact Nat.le_refl _ | exact hSZ)
        have y1 := y1.below (below_al wa (.cells #[.bool false, .slice none 0 0, .slice none 0 0] 27))
        have y2 := y2.below (below_al wa (.cells #[.bool false, .slice none 0 0, .slice none 0 0] 27))
        have BW := BW.trans ((below_al wa (.cells #[.bool false, .slice none 0 0, .slice none 0 0] 27)).mono BW.size)
        refine wpAnyH_ready (rs := [4]) (by kernel_rfl) (by simp) ?_
        refine (AllReadyH.cons (o := ?ob33_4) ?hob33_4 (fun K hK => ?kb33_4) AllReadyH.nil)
        case hob33_4 => simp only [List.getElem?_toArray, List.getElem?_cons_succ, List.getElem?_cons_zero]; rfl
        case kb33_4 =>
          go_simp
          have cc := ratMul_any _ (g1 := (fr V (S + 1)).neg) (g2 := (ofC n 1).1.neg) (h_bn_14.below BW) (h_bd_14.below BW) y1 y2
          rw [show (⟨(fr V (S + 1)).neg, (fr V (S + 1)).num, (fr V (S + 1)).den⟩ : QV) = fr V (S + 1) from rfl, show (⟨(ofC n 1).1.neg, (ofC n 1).1.num, (ofC n 1).1.den⟩ : QV) = (ofC n 1).1 from rfl, M2.out] at cc
          refine cc.mono ?_
          rintro e2 wb ⟨a_z, n_z, c_z, b_z, m_z, d_z, rfl, z1, z2, hb3⟩
          clear cc
          have BW := BW.trans (hb3.mono BW.size)
          go_wp2_with fail
          refine hK.out _ _ ?_ (fun hHeld => ?_)
          · exact keep_one hHeld hb3 kl
          clear hK K
          try simp only [Act.put, List.setIfInBounds_toArray, List.set_cons_zero, List.set_cons_succ]
          have RA := RA.later hb3
          refine wpAnyH_take (i := 5) (oi := ?oir30_5) (v := ?vr30_5) ?hir30_5 (by kernel_rfl) (by kernel_rfl) (by kernel_rfl) ?hqr30_5 ?hyr30_5 (by assumption) ?restr30_5
          case hir30_5 => simp only [List.getElem?_toArray, List.getElem?_cons_succ, List.getElem?_cons_zero]; rfl
          case hqr30_5 => exact fun _ _ _ h => h
          case hyr30_5 => (refine Or.inl ⟨by rfl, ?_⟩; intro w hSw; (try dsimp only at hSw); go_simp; all_goals with_reducible rfl)
          try simp only [Act.put, List.setIfInBounds_toArray, List.set_cons_zero, List.set_cons_succ]
          refine wpAnyH_take (i := 6) (oi := ?oir30_6) (v := ?vr30_6) ?hir30_6 (by kernel_rfl) (by kernel_rfl) (by kernel_rfl) ?hqr30_6 ?hyr30_6 (by assumption) ?restr30_6
          case hir30_6 => simp only [List.getElem?_toArray, List.getElem?_cons_succ, List.getElem?_cons_zero]; rfl
          case hqr30_6 => exact fun _ _ _ h => h
          case hyr30_6 => (refine Or.inl ⟨by rfl, ?_⟩; intro w hSw; (try dsimp only at hSw); go_simp; all_goals with_reducible rfl)
          try simp only [Act.put, List.setIfInBounds_toArray, List.set_cons_zero, List.set_cons_succ]
          refine wpAnyH_take (i := 7) (oi := ?oir30_7) (v := ?vr30_7) ?hir30_7 (by kernel_rfl) (by kernel_rfl) (by kernel_rfl) ?hqr30_7 ?hyr30_7 (by assumption) ?restr30_7
          case hir30_7 => simp only [List.getElem?_toArray, List.getElem?_cons_succ, List.getElem?_cons_zero]; rfl
          case hqr30_7 => exact fun _ _ _ h => h
          case hyr30_7 => (refine Or.inl ⟨by rfl, ?_⟩; intro w hSw; (try dsimp only at hSw); go_simp; all_goals with_reducible rfl)
          try simp only [Act.put, List.setIfInBounds_toArray, List.set_cons_zero, List.set_cons_succ]
          refine wpAnyH_ready (rs := [9]) (by kernel_rfl) (by simp) ?_
          refine (AllReadyH.cons (o := ?ob32_9) ?hob32_9 (fun K hK => ?kb32_9) AllReadyH.nil)
          case hob32_9 => simp only [List.getElem?_toArray, List.getElem?_cons_succ, List.getElem?_cons_zero]; rfl
          case kb32_9 =>
            rw [if_pos (by rfl)]
            refine op_store_whole 27 _ _ rfl atRat _ _ _ RA.row rfl rfl rfl rfl (rat_one _ _ _ _ _ _ _) ?_
            refine hK.out _ _ ?_ (fun hHeld => ?_)
            · exact keep_one_row hHeld RA.lo kl
            clear hK K
            try simp only [Act.put, List.setIfInBounds_toArray, List.set_cons_zero, List.set_cons_succ]
            refine wpAnyH_take (i := 10) (oi := ?oir31_10) (v := ?vr31_10) ?hir31_10 (by kernel_rfl) (by kernel_rfl) (by kernel_rfl) ?hqr31_10 ?hyr31_10 (by assumption) ?restr31_10
            case hir31_10 => simp only [List.getElem?_toArray, List.getElem?_cons_succ, List.getElem?_cons_zero]; rfl
            case hqr31_10 => exact fun _ _ _ h => h
            case hyr31_10 => (refine Or.inl ⟨by rfl, ?_⟩; intro w hSw; (try dsimp only at hSw); go_simp; all_goals with_reducible rfl)
            try simp only [Act.put, List.setIfInBounds_toArray, List.set_cons_zero, List.set_cons_succ]
            refine wpAnyH_done (by kernel_rfl) ?_ _
            go_wp2_with fail
            go_meet
            exact ⟨a_z, n_z, c_z, b_z, m_z, d_z, _, rfl, rfl, RA.put _, rd_rowset z1 RA.row (rat_noint _ _ _ _ _ _ _) _, rd_rowset z2 RA.row (rat_noint _ _ _ _ _ _ _) _⟩
    case kb40_8 =>
      go_simp
      have hSZ := hHeld.1.size
      refine hK.out _ _ ?_ (fun hHeld => ?_)
      · exact keep_one hHeld (below_al _ _) kl
      clear hK K
      try simp only [Act.put, List.setIfInBounds_toArray, List.set_cons_zero, List.set_cons_succ]
      have RA := (PRow.new 27 w14.drew #[.bool false, .slice none 0 0, .slice none 0 0]).rebase hHeld.1 (by first | exact Nat.le_refl _ | exact hSZ)
      refine wpAnyH_ready (rs := [3]) (by kernel_rfl) (by simp) ?_
      refine (AllReadyH.cons (o := ?ob39_3) ?hob39_3 (fun K hK => ?kb39_3) AllReadyH.nil)
      case hob39_3 => simp only [List.getElem?_toArray, List.getElem?_cons_succ, List.getElem?_cons_zero]; rfl
      case kb39_3 =>
        go_simp
        refine (whole_any _ n n1 n2).mono ?_
        rintro e2 wa ⟨a2, n2, c2', b2, m2, d2, rfl, y1, y2, hb2⟩
        have BW := hHeld.1.trans (hb2.mono hHeld.1.size)
        go_wp2_with fail
        refine hK.out _ _ ?_ (fun hHeld => ?_)
        · exact keep_one hHeld hb2 kl
        clear hK K
        try simp only [Act.put, List.setIfInBounds_toArray, List.set_cons_zero, List.set_cons_succ]
        have RA := RA.later hb2
        refine wpAnyH_ready (rs := [4]) (by kernel_rfl) (by simp) ?_
        refine (AllReadyH.cons (o := ?ob38_4) ?hob38_4 (fun K hK => ?kb38_4) AllReadyH.nil)
        case hob38_4 => simp only [List.getElem?_toArray, List.getElem?_cons_succ, List.getElem?_cons_zero]; rfl
        case kb38_4 =>
          go_simp
          have cc := ratMul_any wa (g1 := (fr V (S + 1)).neg) (g2 := (ofC n 1).1.neg) (h_bn_14.below BW) (h_bd_14.below BW) y1 y2
          rw [show (⟨(fr V (S + 1)).neg, (fr V (S + 1)).num, (fr V (S + 1)).den⟩ : QV) = fr V (S + 1) from rfl, show (⟨(ofC n 1).1.neg, (ofC n 1).1.num, (ofC n 1).1.den⟩ : QV) = (ofC n 1).1 from rfl, M2.out] at cc
          refine cc.mono ?_
          rintro e2 wb ⟨a_z, n_z, c_z, b_z, m_z, d_z, rfl, z1, z2, hb3⟩
          clear cc
          have BW := BW.trans (hb3.mono BW.size)
          go_wp2_with fail
          refine hK.out _ _ ?_ (fun hHeld => ?_)
          · exact keep_one hHeld hb3 kl
          clear hK K
          try simp only [Act.put, List.setIfInBounds_toArray, List.set_cons_zero, List.set_cons_succ]
          have RA := RA.later hb3
          refine wpAnyH_take (i := 5) (oi := ?oir35_5) (v := ?vr35_5) ?hir35_5 (by kernel_rfl) (by kernel_rfl) (by kernel_rfl) ?hqr35_5 ?hyr35_5 (by assumption) ?restr35_5
          case hir35_5 => simp only [List.getElem?_toArray, List.getElem?_cons_succ, List.getElem?_cons_zero]; rfl
          case hqr35_5 => exact fun _ _ _ h => h
          case hyr35_5 => (refine Or.inl ⟨by rfl, ?_⟩; intro w hSw; (try dsimp only at hSw); go_simp; all_goals with_reducible rfl)
          try simp only [Act.put, List.setIfInBounds_toArray, List.set_cons_zero, List.set_cons_succ]
          refine wpAnyH_take (i := 6) (oi := ?oir35_6) (v := ?vr35_6) ?hir35_6 (by kernel_rfl) (by kernel_rfl) (by kernel_rfl) ?hqr35_6 ?hyr35_6 (by assumption) ?restr35_6
          case hir35_6 => simp only [List.getElem?_toArray, List.getElem?_cons_succ, List.getElem?_cons_zero]; rfl
          case hqr35_6 => exact fun _ _ _ h => h
          case hyr35_6 => (refine Or.inl ⟨by rfl, ?_⟩; intro w hSw; (try dsimp only at hSw); go_simp; all_goals with_reducible rfl)
          try simp only [Act.put, List.setIfInBounds_toArray, List.set_cons_zero, List.set_cons_succ]
          refine wpAnyH_take (i := 7) (oi := ?oir35_7) (v := ?vr35_7) ?hir35_7 (by kernel_rfl) (by kernel_rfl) (by kernel_rfl) ?hqr35_7 ?hyr35_7 (by assumption) ?restr35_7
          case hir35_7 => simp only [List.getElem?_toArray, List.getElem?_cons_succ, List.getElem?_cons_zero]; rfl
          case hqr35_7 => exact fun _ _ _ h => h
          case hyr35_7 => (refine Or.inl ⟨by rfl, ?_⟩; intro w hSw; (try dsimp only at hSw); go_simp; all_goals with_reducible rfl)
          try simp only [Act.put, List.setIfInBounds_toArray, List.set_cons_zero, List.set_cons_succ]
          refine wpAnyH_ready (rs := [9]) (by kernel_rfl) (by simp) ?_
          refine (AllReadyH.cons (o := ?ob37_9) ?hob37_9 (fun K hK => ?kb37_9) AllReadyH.nil)
          case hob37_9 => simp only [List.getElem?_toArray, List.getElem?_cons_succ, List.getElem?_cons_zero]; rfl
          case kb37_9 =>
            rw [if_pos (by rfl)]
            refine op_store_whole 27 _ _ rfl atRat _ _ _ RA.row rfl rfl rfl rfl (rat_one _ _ _ _ _ _ _) ?_
            refine hK.out _ _ ?_ (fun hHeld => ?_)
            · exact keep_one_row hHeld RA.lo kl
            clear hK K
            try simp only [Act.put, List.setIfInBounds_toArray, List.set_cons_zero, List.set_cons_succ]
            refine wpAnyH_take (i := 10) (oi := ?oir36_10) (v := ?vr36_10) ?hir36_10 (by kernel_rfl) (by kernel_rfl) (by kernel_rfl) ?hqr36_10 ?hyr36_10 (by assumption) ?restr36_10
            case hir36_10 => simp only [List.getElem?_toArray, List.getElem?_cons_succ, List.getElem?_cons_zero]; rfl
            case hqr36_10 => exact fun _ _ _ h => h
            case hyr36_10 => (refine Or.inl ⟨by rfl, ?_⟩; intro w hSw; (try dsimp only at hSw); go_simp; all_goals with_reducible rfl)
            try simp only [Act.put, List.setIfInBounds_toArray, List.set_cons_zero, List.set_cons_succ]
            refine wpAnyH_done (by kernel_rfl) ?_ _
            go_wp2_with fail
            go_meet
            exact ⟨a_z, n_z, c_z, b_z, m_z, d_z, _, rfl, rfl, RA.put _, rd_rowset z1 RA.row (rat_noint _ _ _ _ _ _ _) _, rd_rowset z2 RA.row (rat_noint _ _ _ _ _ _ _) _⟩
  case rest =>
  obtain ⟨a_z, n_z, c_z, b_z, m_z, d_z, g_z, rfl, rfl, R_z, h_zn_15, h_zd_15⟩ := hcut
  have hb := R_z.below
  have h_z_15 : Has w14 wc g_z #[.bool (fr V 1).neg, .slice a_z n_z c_z, .slice b_z m_z d_z] := ⟨R_z.below, fun i v h => R_z.cell i v h, R_z.lt⟩
  clear R_z
  have B15 := B14.trans (hb.mono B14.size)
  have h_hn_15 := h_hn_14.below hb
  have h_hd_15 := h_hd_14.below hb
  have h_h_15 := h_h_14.later hb
  have h_bn_15 := h_bn_14.below hb
  have h_bd_15 := h_bd_14.below hb
  have h_b_15 := h_b_14.later hb
  have h_y_15 := h_y_14.later hb
  have h_yn_15 := h_yn_14.below hb
  have h_yd_15 := h_yd_14.below hb
  clear hb B14 h_hn_14 h_hd_14 h_h_14 h_bn_14 h_bd_14 h_b_14 h_y_14 h_yn_14 h_yd_14
  obtain ⟨w15, hw⟩ : ∃ w, w = wc := ⟨_, rfl⟩
  subst hw
  go_wp2_with fail
  have hb := (Below.refl w15.heap.size w15).drew
  have B16 := B15.trans (hb.mono B15.size)
  have h_hn_16 := h_hn_15.below hb
  have h_hd_16 := h_hd_15.below hb
  have h_h_16 := h_h_15.later hb
  have h_bn_16 := h_bn_15.below hb
  have h_bd_16 := h_bd_15.below hb
  have h_b_16 := h_b_15.later hb
  have h_y_16 := h_y_15.later hb
  have h_yn_16 := h_yn_15.below hb
  have h_yd_16 := h_yd_15.below hb
  have h_z_16 := h_z_15.later hb
  have h_zn_16 := h_zn_15.below hb
  have h_zd_16 := h_zd_15.below hb
  clear hb B15 h_hn_15 h_hd_15 h_h_15 h_bn_15 h_bd_15 h_b_15 h_y_15 h_yn_15 h_yd_15 h_z_15 h_zn_15 h_zd_15
  refine wp_region_held_drew (S := (fun w' => w'.cell? ⟨g_y, 0, none⟩ = some (.bool (fr V 1).neg) ∧ w'.cell? ⟨g_y, 1, none⟩ = some (.slice a_y n_y c_y) ∧ w'.cell? ⟨g_y, 2, none⟩ = some (.slice b_y m_y d_y) ∧ w'.cell? ⟨g_z, 0, none⟩ = some (.bool (fr V 1).neg) ∧ w'.cell? ⟨g_z, 1, none⟩ = some (.slice a_z n_z c_z) ∧ w'.cell? ⟨g_z, 2, none⟩ = some (.slice b_z m_z d_z) ∧ True)) (by kernel_rfl) ?_ (fun hHeld => ?_)
  · exact ⟨h_y_16.cell 0 _ rfl, h_y_16.cell 1 _ rfl, h_y_16.cell 2 _ rfl, h_z_16.cell 0 _ rfl, h_z_16.cell 1 _ rfl, h_z_16.cell 2 _ rfl, trivial⟩
  generalize w15.drew = w16 at *
  refine wpAnyH_take (i := 0) (oi := ?oir41_0) (v := ?vr41_0) ?hir41_0 (by kernel_rfl) (by kernel_rfl) (by kernel_rfl) ?hqr41_0 ?hyr41_0 (by assumption) ?restr41_0
  case hir41_0 => simp only [List.getElem?_toArray, List.getElem?_cons_succ, List.getElem?_cons_zero]; rfl
  case hqr41_0 => exact fun _ _ _ h => h
  case hyr41_0 => (refine Or.inl ⟨by rfl, ?_⟩; intro w hSw; (try dsimp only at hSw); go_simp; all_goals with_reducible rfl)
  try simp only [Act.put, List.setIfInBounds_toArray, List.set_cons_zero, List.set_cons_succ]
  refine wpAnyH_take (i := 1) (oi := ?oir41_1) (v := ?vr41_1) ?hir41_1 (by kernel_rfl) (by kernel_rfl) (by kernel_rfl) ?hqr41_1 ?hyr41_1 (by assumption) ?restr41_1
  case hir41_1 => simp only [List.getElem?_toArray, List.getElem?_cons_succ, List.getElem?_cons_zero]; rfl
  case hqr41_1 => exact fun _ _ _ h => h
  case hyr41_1 => (refine Or.inl ⟨by rfl, ?_⟩; intro w hSw; (try dsimp only at hSw); go_simp; all_goals with_reducible rfl)
  try simp only [Act.put, List.setIfInBounds_toArray, List.set_cons_zero, List.set_cons_succ]
  refine wpAnyH_take (i := 2) (oi := ?oir41_2) (v := ?vr41_2) ?hir41_2 (by kernel_rfl) (by kernel_rfl) (by kernel_rfl) ?hqr41_2 ?hyr41_2 (by assumption) ?restr41_2
  case hir41_2 => simp only [List.getElem?_toArray, List.getElem?_cons_succ, List.getElem?_cons_zero]; rfl
  case hqr41_2 => exact fun _ _ _ h => h
  case hyr41_2 => (refine Or.inl ⟨by rfl, ?_⟩; intro w hSw; (try dsimp only at hSw); go_simp; all_goals with_reducible rfl)
  try simp only [Act.put, List.setIfInBounds_toArray, List.set_cons_zero, List.set_cons_succ]
  refine wpAnyH_take (i := 3) (oi := ?oir41_3) (v := ?vr41_3) ?hir41_3 (by kernel_rfl) (by kernel_rfl) (by kernel_rfl) ?hqr41_3 ?hyr41_3 (by assumption) ?restr41_3
  case hir41_3 => simp only [List.getElem?_toArray, List.getElem?_cons_succ, List.getElem?_cons_zero]; rfl
  case hqr41_3 => exact fun _ _ _ h => h
  case hyr41_3 => (refine Or.inl ⟨by rfl, ?_⟩; intro w hSw; (try dsimp only at hSw); go_simp; all_goals with_reducible rfl)
  try simp only [Act.put, List.setIfInBounds_toArray, List.set_cons_zero, List.set_cons_succ]
  refine wpAnyH_take (i := 4) (oi := ?oir41_4) (v := ?vr41_4) ?hir41_4 (by kernel_rfl) (by kernel_rfl) (by kernel_rfl) ?hqr41_4 ?hyr41_4 (by assumption) ?restr41_4
  case hir41_4 => simp only [List.getElem?_toArray, List.getElem?_cons_succ, List.getElem?_cons_zero]; rfl
  case hqr41_4 => exact fun _ _ _ h => h
  case hyr41_4 => (refine Or.inl ⟨by rfl, ?_⟩; intro w hSw; (try dsimp only at hSw); go_simp; all_goals with_reducible rfl)
  try simp only [Act.put, List.setIfInBounds_toArray, List.set_cons_zero, List.set_cons_succ]
  refine wpAnyH_take (i := 5) (oi := ?oir41_5) (v := ?vr41_5) ?hir41_5 (by kernel_rfl) (by kernel_rfl) (by kernel_rfl) ?hqr41_5 ?hyr41_5 (by assumption) ?restr41_5
  case hir41_5 => simp only [List.getElem?_toArray, List.getElem?_cons_succ, List.getElem?_cons_zero]; rfl
  case hqr41_5 => exact fun _ _ _ h => h
  case hyr41_5 => (refine Or.inl ⟨by rfl, ?_⟩; intro w hSw; (try dsimp only at hSw); go_simp; all_goals with_reducible rfl)
  try simp only [Act.put, List.setIfInBounds_toArray, List.set_cons_zero, List.set_cons_succ]
  refine wpAnyH_take (i := 6) (oi := ?oir41_6) (v := ?vr41_6) ?hir41_6 (by kernel_rfl) (by kernel_rfl) (by kernel_rfl) ?hqr41_6 ?hyr41_6 (by assumption) ?restr41_6
  case hir41_6 => simp only [List.getElem?_toArray, List.getElem?_cons_succ, List.getElem?_cons_zero]; rfl
  case hqr41_6 => exact fun _ _ _ h => h
  case hyr41_6 => (refine Or.inl ⟨by rfl, ?_⟩; intro w hSw; (try dsimp only at hSw); go_simp; all_goals with_reducible rfl)
  try simp only [Act.put, List.setIfInBounds_toArray, List.set_cons_zero, List.set_cons_succ]
  as_aux_lemma =>
    refine wpAnyH_take (i := 7) (oi := ?oir43_7) (v := ?vr43_7) ?hir43_7 (by kernel_rfl) (by kernel_rfl) (by kernel_rfl) ?hqr43_7 ?hyr43_7 (by assumption) ?restr43_7
    case hir43_7 => simp only [List.getElem?_toArray, List.getElem?_cons_succ, List.getElem?_cons_zero]; rfl
    case hqr43_7 => exact fun _ _ _ h => h
    case hyr43_7 => (refine Or.inl ⟨by rfl, ?_⟩; intro w hSw; (try dsimp only at hSw); go_simp; all_goals with_reducible rfl)
    try simp only [Act.put, List.setIfInBounds_toArray, List.set_cons_zero, List.set_cons_succ]
    refine wpAnyH_take (i := 8) (oi := ?oir43_8) (v := ?vr43_8) ?hir43_8 (by kernel_rfl) (by kernel_rfl) (by kernel_rfl) ?hqr43_8 ?hyr43_8 (by assumption) ?restr43_8
    case hir43_8 => simp only [List.getElem?_toArray, List.getElem?_cons_succ, List.getElem?_cons_zero]; rfl
    case hqr43_8 => exact fun _ _ _ h => h
    case hyr43_8 => (refine Or.inl ⟨by rfl, ?_⟩; intro w hSw; (try dsimp only at hSw); go_simp; all_goals with_reducible rfl)
    try simp only [Act.put, List.setIfInBounds_toArray, List.set_cons_zero, List.set_cons_succ]
    refine wpAnyH_take (i := 9) (oi := ?oir43_9) (v := ?vr43_9) ?hir43_9 (by kernel_rfl) (by kernel_rfl) (by kernel_rfl) ?hqr43_9 ?hyr43_9 (by assumption) ?restr43_9
    case hir43_9 => simp only [List.getElem?_toArray, List.getElem?_cons_succ, List.getElem?_cons_zero]; rfl
    case hqr43_9 => exact fun _ _ _ h => h
    case hyr43_9 => (refine Or.inl ⟨by rfl, ?_⟩; intro w hSw; (try dsimp only at hSw); go_simp; all_goals with_reducible rfl)
    try simp only [Act.put, List.setIfInBounds_toArray, List.set_cons_zero, List.set_cons_succ]
    refine wpAnyH_take (i := 10) (oi := ?oir43_10) (v := ?vr43_10) ?hir43_10 (by kernel_rfl) (by kernel_rfl) (by kernel_rfl) ?hqr43_10 ?hyr43_10 (by assumption) ?restr43_10
    case hir43_10 => simp only [List.getElem?_toArray, List.getElem?_cons_succ, List.getElem?_cons_zero]; rfl
    case hqr43_10 => exact fun _ _ _ h => h
    case hyr43_10 => (refine Or.inl ⟨by rfl, ?_⟩; intro w hSw; (try dsimp only at hSw); go_simp; all_goals with_reducible rfl)
    try simp only [Act.put, List.setIfInBounds_toArray, List.set_cons_zero, List.set_cons_succ]
    refine wpAnyH_take (i := 11) (oi := ?oir43_11) (v := ?vr43_11) ?hir43_11 (by kernel_rfl) (by kernel_rfl) (by kernel_rfl) ?hqr43_11 ?hyr43_11 (by assumption) ?restr43_11
    case hir43_11 => simp only [List.getElem?_toArray, List.getElem?_cons_succ, List.getElem?_cons_zero]; rfl
    case hqr43_11 => exact fun _ _ _ h => h
    case hyr43_11 => (refine Or.inl ⟨by rfl, ?_⟩; intro w hSw; (try dsimp only at hSw); go_simp; all_goals with_reducible rfl)
    try simp only [Act.put, List.setIfInBounds_toArray, List.set_cons_zero, List.set_cons_succ]
    refine wpAnyH_take (i := 12) (oi := ?oir43_12) (v := ?vr43_12) ?hir43_12 (by kernel_rfl) (by kernel_rfl) (by kernel_rfl) ?hqr43_12 ?hyr43_12 (by assumption) ?restr43_12
    case hir43_12 => simp only [List.getElem?_toArray, List.getElem?_cons_succ, List.getElem?_cons_zero]; rfl
    case hqr43_12 => exact fun _ _ _ h => h
    case hyr43_12 => (refine Or.inl ⟨by rfl, ?_⟩; intro w hSw; (try dsimp only at hSw); go_simp; all_goals with_reducible rfl)
    try simp only [Act.put, List.setIfInBounds_toArray, List.set_cons_zero, List.set_cons_succ]
    refine wpAnyH_take (i := 13) (oi := ?oir43_13) (v := ?vr43_13) ?hir43_13 (by kernel_rfl) (by kernel_rfl) (by kernel_rfl) ?hqr43_13 ?hyr43_13 (by assumption) ?restr43_13
    case hir43_13 => simp only [List.getElem?_toArray, List.getElem?_cons_succ, List.getElem?_cons_zero]; rfl
    case hqr43_13 => exact fun _ _ _ h => h
    case hyr43_13 => (refine Or.inl ⟨by rfl, ?_⟩; intro w hSw; (try dsimp only at hSw); go_simp; all_goals with_reducible rfl)
    try simp only [Act.put, List.setIfInBounds_toArray, List.set_cons_zero, List.set_cons_succ]
    as_aux_lemma =>
      refine wpAnyH_take (i := 14) (oi := ?oir45_14) (v := ?vr45_14) ?hir45_14 (by kernel_rfl) (by kernel_rfl) (by kernel_rfl) ?hqr45_14 ?hyr45_14 (by assumption) ?restr45_14
      case hir45_14 => simp only [List.getElem?_toArray, List.getElem?_cons_succ, List.getElem?_cons_zero]; rfl
      case hqr45_14 => exact fun _ _ _ h => h
      case hyr45_14 => (refine Or.inl ⟨by rfl, ?_⟩; intro w hSw; (try dsimp only at hSw); go_simp; all_goals with_reducible rfl)
      try simp only [Act.put, List.setIfInBounds_toArray, List.set_cons_zero, List.set_cons_succ]
      refine wpAnyH_take (i := 15) (oi := ?oir45_15) (v := ?vr45_15) ?hir45_15 (by kernel_rfl) (by kernel_rfl) (by kernel_rfl) ?hqr45_15 ?hyr45_15 (by assumption) ?restr45_15
      case hir45_15 => simp only [List.getElem?_toArray, List.getElem?_cons_succ, List.getElem?_cons_zero]; rfl
      case hqr45_15 => exact fun _ _ _ h => h
      case hyr45_15 => (refine Or.inl ⟨by rfl, ?_⟩; intro w hSw; (try dsimp only at hSw); go_simp; all_goals with_reducible rfl)
      try simp only [Act.put, List.setIfInBounds_toArray, List.set_cons_zero, List.set_cons_succ]
      refine wpAnyH_take (i := 16) (oi := ?oir45_16) (v := ?vr45_16) ?hir45_16 (by kernel_rfl) (by kernel_rfl) (by kernel_rfl) ?hqr45_16 ?hyr45_16 (by assumption) ?restr45_16
      case hir45_16 => simp only [List.getElem?_toArray, List.getElem?_cons_succ, List.getElem?_cons_zero]; rfl
      case hqr45_16 => exact fun _ _ _ h => h
      case hyr45_16 => (refine Or.inl ⟨by rfl, ?_⟩; intro w hSw; (try dsimp only at hSw); go_simp; all_goals with_reducible rfl)
      try simp only [Act.put, List.setIfInBounds_toArray, List.set_cons_zero, List.set_cons_succ]
      refine wpAnyH_take (i := 17) (oi := ?oir45_17) (v := ?vr45_17) ?hir45_17 (by kernel_rfl) (by kernel_rfl) (by kernel_rfl) ?hqr45_17 ?hyr45_17 (by assumption) ?restr45_17
      case hir45_17 => simp only [List.getElem?_toArray, List.getElem?_cons_succ, List.getElem?_cons_zero]; rfl
      case hqr45_17 => exact fun _ _ _ h => h
      case hyr45_17 => (refine Or.inl ⟨by rfl, ?_⟩; intro w hSw; (try dsimp only at hSw); go_simp; all_goals with_reducible rfl)
      try simp only [Act.put, List.setIfInBounds_toArray, List.set_cons_zero, List.set_cons_succ]
      refine wpAnyH_take (i := 18) (oi := ?oir45_18) (v := ?vr45_18) ?hir45_18 (by kernel_rfl) (by kernel_rfl) (by kernel_rfl) ?hqr45_18 ?hyr45_18 (by assumption) ?restr45_18
      case hir45_18 => simp only [List.getElem?_toArray, List.getElem?_cons_succ, List.getElem?_cons_zero]; rfl
      case hqr45_18 => exact fun _ _ _ h => h
      case hyr45_18 => (refine Or.inl ⟨by rfl, ?_⟩; intro w hSw; (try dsimp only at hSw); go_simp; all_goals with_reducible rfl)
      try simp only [Act.put, List.setIfInBounds_toArray, List.set_cons_zero, List.set_cons_succ]
      refine wpAnyH_take (i := 19) (oi := ?oir45_19) (v := ?vr45_19) ?hir45_19 (by kernel_rfl) (by kernel_rfl) (by kernel_rfl) ?hqr45_19 ?hyr45_19 (by assumption) ?restr45_19
      case hir45_19 => simp only [List.getElem?_toArray, List.getElem?_cons_succ, List.getElem?_cons_zero]; rfl
      case hqr45_19 => exact fun _ _ _ h => h
      case hyr45_19 => (refine Or.inl ⟨by rfl, ?_⟩; intro w hSw; (try dsimp only at hSw); go_simp; all_goals with_reducible rfl)
      try simp only [Act.put, List.setIfInBounds_toArray, List.set_cons_zero, List.set_cons_succ]
      refine wpAnyH_ready (rs := [20]) (by kernel_rfl) (by simp) ?_
      refine AllReadyH.cons (o := ?or46_20) ?hor46_20 (fun K hK => ?kr46_20) AllReadyH.nil
      case hor46_20 => simp only [List.getElem?_toArray, List.getElem?_cons_succ, List.getElem?_cons_zero]; rfl
      go_simp
      have c := whole_any w16 v h_v1 l_v
      rw [WV.out] at c
      refine c.mono ?_
      rintro e w17 ⟨a_x, n_x, c_x, b_x, m_x, d_x, rfl, h_xn_17, h_xd_17, hb⟩
      clear c
      have B17 := B16.trans (hb.mono B16.size)
      have h_hn_17 := h_hn_16.below hb
      have h_hd_17 := h_hd_16.below hb
      have h_h_17 := h_h_16.later hb
      have h_bn_17 := h_bn_16.below hb
      have h_bd_17 := h_bd_16.below hb
      have h_b_17 := h_b_16.later hb
      have h_y_17 := h_y_16.later hb
      have h_yn_17 := h_yn_16.below hb
      have h_yd_17 := h_yd_16.below hb
      have h_z_17 := h_z_16.later hb
      have h_zn_17 := h_zn_16.below hb
      have h_zd_17 := h_zd_16.below hb
      clear hb B16 h_hn_16 h_hd_16 h_h_16 h_bn_16 h_bd_16 h_b_16 h_y_16 h_yn_16 h_yd_16 h_z_16 h_zn_16 h_zd_16
      go_wp2_with fail
      clear hHeld
      refine hK.out _ _ ?_ (fun hHeld => ?_)
      · exact ⟨h_y_17.cell 0 _ rfl, h_y_17.cell 1 _ rfl, h_y_17.cell 2 _ rfl, h_z_17.cell 0 _ rfl, h_z_17.cell 1 _ rfl, h_z_17.cell 2 _ rfl, trivial⟩
      clear hK K
      try simp only [Act.put, List.setIfInBounds_toArray, List.set_cons_zero, List.set_cons_succ]
      refine wpAnyH_ready (rs := [21]) (by kernel_rfl) (by simp) ?_
      refine AllReadyH.cons (o := ?or47_21) ?hor47_21 (fun K hK => ?kr47_21) AllReadyH.nil
      case hor47_21 => simp only [List.getElem?_toArray, List.getElem?_cons_succ, List.getElem?_cons_zero]; rfl
      go_simp
      have c := refRatSame_any w17 (g1 := (fr V 1).neg) (g2 := (fr V 1).neg) h_yn_17 h_yd_17 h_xn_17 h_xd_17
      rw [show (⟨(fr V 1).neg, (fr V 1).num, (fr V 1).den⟩ : QV) = fr V 1 from rfl] at c
      rw [ex_sameq] at c
      refine c.mono ?_
      rintro e w18 ⟨rfl, hb⟩
      clear c
      have B18 := B17.trans (hb.mono B17.size)
      have h_hn_18 := h_hn_17.below hb
      have h_hd_18 := h_hd_17.below hb
      have h_h_18 := h_h_17.later hb
      have h_bn_18 := h_bn_17.below hb
      have h_bd_18 := h_bd_17.below hb
      have h_b_18 := h_b_17.later hb
      have h_y_18 := h_y_17.later hb
      have h_yn_18 := h_yn_17.below hb
      have h_yd_18 := h_yd_17.below hb
      have h_z_18 := h_z_17.later hb
      have h_zn_18 := h_zn_17.below hb
      have h_zd_18 := h_zd_17.below hb
      clear hb B17 h_hn_17 h_hd_17 h_h_17 h_bn_17 h_bd_17 h_b_17 h_y_17 h_yn_17 h_yd_17 h_z_17 h_zn_17 h_zd_17 h_xn_17 h_xd_17
      go_wp2_with fail
      clear hHeld
      refine hK.out _ _ ?_ (fun hHeld => ?_)
      · exact ⟨h_y_18.cell 0 _ rfl, h_y_18.cell 1 _ rfl, h_y_18.cell 2 _ rfl, h_z_18.cell 0 _ rfl, h_z_18.cell 1 _ rfl, h_z_18.cell 2 _ rfl, trivial⟩
      clear hK K
      try simp only [Act.put, List.setIfInBounds_toArray, List.set_cons_zero, List.set_cons_succ]
      as_aux_lemma =>
        refine wpAnyH_take (i := 22) (oi := ?oir49_22) (v := ?vr49_22) ?hir49_22 (by kernel_rfl) (by kernel_rfl) (by kernel_rfl) ?hqr49_22 ?hyr49_22 (by assumption) ?restr49_22
        case hir49_22 => simp only [List.getElem?_toArray, List.getElem?_cons_succ, List.getElem?_cons_zero]; rfl
        case hqr49_22 => exact fun _ _ _ h => h
        case hyr49_22 => (refine Or.inl ⟨by rfl, ?_⟩; intro w hSw; (try dsimp only at hSw); go_simp; all_goals with_reducible rfl)
        try simp only [Act.put, List.setIfInBounds_toArray, List.set_cons_zero, List.set_cons_succ]
        refine wpAnyH_take (i := 23) (oi := ?oir49_23) (v := ?vr49_23) ?hir49_23 (by kernel_rfl) (by kernel_rfl) (by kernel_rfl) ?hqr49_23 ?hyr49_23 (by assumption) ?restr49_23
        case hir49_23 => simp only [List.getElem?_toArray, List.getElem?_cons_succ, List.getElem?_cons_zero]; rfl
        case hqr49_23 => exact fun _ _ _ h => h
        case hyr49_23 => (refine Or.inl ⟨by rfl, ?_⟩; intro w hSw; (try dsimp only at hSw); go_simp; all_goals with_reducible rfl)
        try simp only [Act.put, List.setIfInBounds_toArray, List.set_cons_zero, List.set_cons_succ]
        refine wpAnyH_take (i := 24) (oi := ?oir49_24) (v := ?vr49_24) ?hir49_24 (by kernel_rfl) (by kernel_rfl) (by kernel_rfl) ?hqr49_24 ?hyr49_24 (by assumption) ?restr49_24
        case hir49_24 => simp only [List.getElem?_toArray, List.getElem?_cons_succ, List.getElem?_cons_zero]; rfl
        case hqr49_24 => exact fun _ _ _ h => h
        case hyr49_24 => (refine Or.inl ⟨by rfl, ?_⟩; intro w hSw; (try dsimp only at hSw); go_simp; all_goals with_reducible rfl)
        try simp only [Act.put, List.setIfInBounds_toArray, List.set_cons_zero, List.set_cons_succ]
        refine wpAnyH_take (i := 25) (oi := ?oir49_25) (v := ?vr49_25) ?hir49_25 (by kernel_rfl) (by kernel_rfl) (by kernel_rfl) ?hqr49_25 ?hyr49_25 (by assumption) ?restr49_25
        case hir49_25 => simp only [List.getElem?_toArray, List.getElem?_cons_succ, List.getElem?_cons_zero]; rfl
        case hqr49_25 => exact fun _ _ _ h => h
        case hyr49_25 => (refine Or.inl ⟨by rfl, ?_⟩; intro w hSw; (try dsimp only at hSw); go_simp; all_goals with_reducible rfl)
        try simp only [Act.put, List.setIfInBounds_toArray, List.set_cons_zero, List.set_cons_succ]
        refine wpAnyH_ready (rs := [26]) (by kernel_rfl) (by simp) ?_
        refine AllReadyH.cons (o := ?or50_26) ?hor50_26 (fun K hK => ?kr50_26) AllReadyH.nil
        case hor50_26 => simp only [List.getElem?_toArray, List.getElem?_cons_succ, List.getElem?_cons_zero]; rfl
        go_simp
        have c := whole_any w18 v h_v1 l_v
        rw [WV.out] at c
        refine c.mono ?_
        rintro e w19 ⟨a_x, n_x, c_x, b_x, m_x, d_x, rfl, h_xn_19, h_xd_19, hb⟩
        clear c
        have B19 := B18.trans (hb.mono B18.size)
        have h_hn_19 := h_hn_18.below hb
        have h_hd_19 := h_hd_18.below hb
        have h_h_19 := h_h_18.later hb
        have h_bn_19 := h_bn_18.below hb
        have h_bd_19 := h_bd_18.below hb
        have h_b_19 := h_b_18.later hb
        have h_y_19 := h_y_18.later hb
        have h_yn_19 := h_yn_18.below hb
        have h_yd_19 := h_yd_18.below hb
        have h_z_19 := h_z_18.later hb
        have h_zn_19 := h_zn_18.below hb
        have h_zd_19 := h_zd_18.below hb
        clear hb B18 h_hn_18 h_hd_18 h_h_18 h_bn_18 h_bd_18 h_b_18 h_y_18 h_yn_18 h_yd_18 h_z_18 h_zn_18 h_zd_18
        go_wp2_with fail
        clear hHeld
        refine hK.out _ _ ?_ (fun hHeld => ?_)
        · exact ⟨h_y_19.cell 0 _ rfl, h_y_19.cell 1 _ rfl, h_y_19.cell 2 _ rfl, h_z_19.cell 0 _ rfl, h_z_19.cell 1 _ rfl, h_z_19.cell 2 _ rfl, trivial⟩
        clear hK K
        try simp only [Act.put, List.setIfInBounds_toArray, List.set_cons_zero, List.set_cons_succ]
        refine wpAnyH_ready (rs := [27]) (by kernel_rfl) (by simp) ?_
        refine AllReadyH.cons (o := ?or51_27) ?hor51_27 (fun K hK => ?kr51_27) AllReadyH.nil
        case hor51_27 => simp only [List.getElem?_toArray, List.getElem?_cons_succ, List.getElem?_cons_zero]; rfl
        go_simp
        have c := refRatSame_any w19 (g1 := (fr V 1).neg) (g2 := (fr V 1).neg) h_zn_19 h_zd_19 h_xn_19 h_xd_19
        rw [show (⟨(fr V 1).neg, (fr V 1).num, (fr V 1).den⟩ : QV) = fr V 1 from rfl] at c
        rw [ex_sameq] at c
        refine c.mono ?_
        rintro e w20 ⟨rfl, hb⟩
        clear c
        have B20 := B19.trans (hb.mono B19.size)
        have h_hn_20 := h_hn_19.below hb
        have h_hd_20 := h_hd_19.below hb
        have h_h_20 := h_h_19.later hb
        have h_bn_20 := h_bn_19.below hb
        have h_bd_20 := h_bd_19.below hb
        have h_b_20 := h_b_19.later hb
        have h_y_20 := h_y_19.later hb
        have h_yn_20 := h_yn_19.below hb
        have h_yd_20 := h_yd_19.below hb
        have h_z_20 := h_z_19.later hb
        have h_zn_20 := h_zn_19.below hb
        have h_zd_20 := h_zd_19.below hb
        clear hb B19 h_hn_19 h_hd_19 h_h_19 h_bn_19 h_bd_19 h_b_19 h_y_19 h_yn_19 h_yd_19 h_z_19 h_zn_19 h_zd_19 h_xn_19 h_xd_19
        go_wp2_with fail
        clear hHeld
        refine hK.out _ _ ?_ (fun hHeld => ?_)
        · exact ⟨h_y_20.cell 0 _ rfl, h_y_20.cell 1 _ rfl, h_y_20.cell 2 _ rfl, h_z_20.cell 0 _ rfl, h_z_20.cell 1 _ rfl, h_z_20.cell 2 _ rfl, trivial⟩
        clear hK K
        try simp only [Act.put, List.setIfInBounds_toArray, List.set_cons_zero, List.set_cons_succ]
        refine wpAnyH_take (i := 28) (oi := ?oir52_28) (v := ?vr52_28) ?hir52_28 (by kernel_rfl) (by kernel_rfl) (by kernel_rfl) ?hqr52_28 ?hyr52_28 (by assumption) ?restr52_28
        case hir52_28 => simp only [List.getElem?_toArray, List.getElem?_cons_succ, List.getElem?_cons_zero]; rfl
        case hqr52_28 => exact fun _ _ _ h => h
        case hyr52_28 => (refine Or.inl ⟨by rfl, ?_⟩; intro w hSw; (try dsimp only at hSw); go_simp; all_goals with_reducible rfl)
        try simp only [Act.put, List.setIfInBounds_toArray, List.set_cons_zero, List.set_cons_succ]
        refine wpAnyH_take (i := 29) (oi := ?oir52_29) (v := ?vr52_29) ?hir52_29 (by kernel_rfl) (by kernel_rfl) (by kernel_rfl) ?hqr52_29 ?hyr52_29 (by assumption) ?restr52_29
        case hir52_29 => simp only [List.getElem?_toArray, List.getElem?_cons_succ, List.getElem?_cons_zero]; rfl
        case hqr52_29 => exact fun _ _ _ h => h
        case hyr52_29 => (refine Or.inl ⟨by rfl, ?_⟩; intro w hSw; (try dsimp only at hSw); go_simp; all_goals with_reducible rfl)
        try simp only [Act.put, List.setIfInBounds_toArray, List.set_cons_zero, List.set_cons_succ]
        refine wpAnyH_ready (rs := [30]) (by kernel_rfl) (by simp) ?_
        refine AllReadyH.cons (o := ?or53_30) ?hor53_30 (fun K hK => ?kr53_30) AllReadyH.nil
        case hor53_30 => simp only [List.getElem?_toArray, List.getElem?_cons_succ, List.getElem?_cons_zero]; rfl
        go_simp
        have c := wakes_any w20
        refine c.mono ?_
        rintro e w21 ⟨rfl, hb⟩
        clear c
        have B21 := B20.trans (hb.mono B20.size)
        have h_hn_21 := h_hn_20.below hb
        have h_hd_21 := h_hd_20.below hb
        have h_h_21 := h_h_20.later hb
        have h_bn_21 := h_bn_20.below hb
        have h_bd_21 := h_bd_20.below hb
        have h_b_21 := h_b_20.later hb
        have h_y_21 := h_y_20.later hb
        have h_yn_21 := h_yn_20.below hb
        have h_yd_21 := h_yd_20.below hb
        have h_z_21 := h_z_20.later hb
        have h_zn_21 := h_zn_20.below hb
        have h_zd_21 := h_zd_20.below hb
        clear hb B20 h_hn_20 h_hd_20 h_h_20 h_bn_20 h_bd_20 h_b_20 h_y_20 h_yn_20 h_yd_20 h_z_20 h_zn_20 h_zd_20
        go_wp2_with fail
        clear hHeld
        refine hK.out _ _ ?_ (fun hHeld => ?_)
        · exact ⟨h_y_21.cell 0 _ rfl, h_y_21.cell 1 _ rfl, h_y_21.cell 2 _ rfl, h_z_21.cell 0 _ rfl, h_z_21.cell 1 _ rfl, h_z_21.cell 2 _ rfl, trivial⟩
        clear hK K
        try simp only [Act.put, List.setIfInBounds_toArray, List.set_cons_zero, List.set_cons_succ]
        refine wpAnyH_take (i := 31) (oi := ?oir54_31) (v := ?vr54_31) ?hir54_31 (by kernel_rfl) (by kernel_rfl) (by kernel_rfl) ?hqr54_31 ?hyr54_31 (by assumption) ?restr54_31
        case hir54_31 => simp only [List.getElem?_toArray, List.getElem?_cons_succ, List.getElem?_cons_zero]; rfl
        case hqr54_31 => exact fun _ _ _ h => h
        case hyr54_31 => (refine Or.inl ⟨by rfl, ?_⟩; intro w hSw; (try dsimp only at hSw); go_simp; all_goals with_reducible rfl)
        try simp only [Act.put, List.setIfInBounds_toArray, List.set_cons_zero, List.set_cons_succ]
        refine wpAnyH_take (i := 32) (oi := ?oir54_32) (v := ?vr54_32) ?hir54_32 (by kernel_rfl) (by kernel_rfl) (by kernel_rfl) ?hqr54_32 ?hyr54_32 (by assumption) ?restr54_32
        case hir54_32 => simp only [List.getElem?_toArray, List.getElem?_cons_succ, List.getElem?_cons_zero]; rfl
        case hqr54_32 => exact fun _ _ _ h => h
        case hyr54_32 => (refine Or.inl ⟨by rfl, ?_⟩; intro w hSw; (try dsimp only at hSw); go_simp; all_goals with_reducible rfl)
        try simp only [Act.put, List.setIfInBounds_toArray, List.set_cons_zero, List.set_cons_succ]
        refine wpAnyH_done (by kernel_rfl) ?_ _
        clear hHeld
        go_wp2_with fail
        go_ret
        exact ⟨rfl, B21⟩

end Go.Proofs.Ytfcejgeckcoefaa
