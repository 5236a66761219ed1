/- The walk of the law CompareSampleSize: it returns true and turns nothing that was there. No condition. Printed by gen_cmplaws.py. -/
import Derived.Test.YtmkcdlhhbnakiaaCmpT
import Derived.Test.YtmkcdlhhbnakiaaFrame
import Derived.BigQuiet
import Derived.Deep.CutRange
namespace Go.Proofs.Ytmkcdlhhbnakiaa
open Go.RowKit Go.Suf
set_option linter.unusedVariables false
set_option linter.unusedSimpArgs false

/-- The states of the search and what becomes of them, opaque. -/
theorem law_parts {bet ballots margin : Int} (hb : mayC bet ballots margin) : ∃ (st : Nat → CV) (lv : Nat → Nat), newCC bet ballots margin = (st 0, 0) ∧ (∀ k, k ≤ 5000 → CW (st k)) ∧ (∀ m, m ≤ 5000 → obsCC (st 0) (List.replicate m 0) = (st m, 0)) ∧ (∀ m, m ≤ 5000 → obsCC (st m) [0] = (st (m + 1), 0)) ∧
    (∀ k (x : QV) n d, k ≤ 5000 → limC x = 0 → Lim x n d → confCC (st k) x = (sureN (lv k) n d, 0)) ∧ (∀ x n d, limC x = 0 → Lim x n d → (sizeCC bet ballots margin x = (0, 6) ∨ ∃ J : Nat, J < 4097 ∧ sizeCC bet ballots margin x = ((J : Int), 0) ∧ sureN (lv J) n d = true ∧ ∀ i, i < J → ¬ sureN (lv i) n d = true)) ∧
    (∀ greater x n d, margin ≤ greater → greater ≤ ballots → limC x = 0 → Lim x n d → ∀ J : Nat, J < 4097 → sureN (lv J) n d = true → ∃ I : Nat, I ≤ J ∧ sizeCC bet ballots greater x = ((I : Int), 0)) := by
  refine ⟨cN bet ballots margin, levC (c0 bet ballots margin), newCC_yes hb, fun k hk => (cN_vld hb (by omega)).cw, fun m hm => ?_, fun m hm => ?_, fun k x n d hk hl hx => ?_, fun x n d hl hx => ?_, fun greater x n d h1 h2 hl hx J hJ hs => ?_⟩
  · refine obsCC_some (cN_vld hb (by omega)).chk ?_
    rw [cN_many hb m 0 (by omega), Nat.zero_add]
  · refine obsCC_some (cN_vld hb (by omega)).chk ?_
    exact cN_many hb 1 m (by omega)
  · rw [confCC_ok (cN_vld hb (by omega)).chk hl]
    show (sureC (limbs (levC (c0 bet ballots margin) k)) x.num x.den, (0 : Int)) = _
    rw [hx.sure (levC_le _ _)]
  · rw [sizeCC_ok hb hl, hx.num, hx.den, val_limbs, val_limbs]
    rcases seekC_spec (c := c0 bet ballots margin) (N := n) (D := d) 4097 0 with ⟨e, -⟩ | ⟨j, -, h2, e, hs, ha⟩
    · exact .inl e
    · exact .inr ⟨j, by omega, e, hs, fun i hi => ha i (Nat.zero_le _) hi⟩
  · have hb' : mayC bet ballots greater := ⟨hb.1, hb.2.1, by have := hb.2.2.1; omega, h2⟩
    have up := sure_more (levC_margin hb hb' h1 J) hs
    rw [sizeCC_ok hb' hl, hx.num, hx.den, val_limbs, val_limbs]
    rcases seekC_spec (c := c0 bet ballots greater) (N := n) (D := d) 4097 0 with ⟨_, ha⟩ | ⟨j, -, h3, e, hs', ha⟩
    · exact absurd up (ha J (Nat.zero_le _) (by omega))
    · refine ⟨j, ?_, e⟩
      by_cases hj : j ≤ J
      · exact hj
      · exact absurd up (ha J (Nat.zero_le _) (by omega))

theorem rdI_zeros {w : World} {a : Option Addr} {m cap base : Nat} {e : TypeId} (h : w.ownsRow base e 1 (.slice a m cap) m (List.replicate m (.int .i64 0))) : RdI w a m cap (List.replicate m 0) := by
  have e1 : intsV (List.replicate m 0) = List.replicate m (.int .i64 0) := by simp [intsV]
  refine ⟨by simp, by rw [e1]; exact sl_of_own h (by rw [← e1]; exact intsV_one _), fun x hx => ?_⟩
  obtain rfl : x = 0 := (List.mem_replicate.1 hx).2
  decide

set_option maxRecDepth 100000 in
set_option maxHeartbeats 8000000 in
theorem compareSampleSize_walk (w : World) (bet : Int) (h_bet1 : -9223372036854775808 ≤ bet) (h_bet2 : bet ≤ 9223372036854775807) (bal : Int) (h_bal1 : -9223372036854775808 ≤ bal) (h_bal2 : bal ≤ 9223372036854775807) (mar : Int) (h_mar1 : -9223372036854775808 ≤ mar) (h_mar2 : mar ≤ 9223372036854775807) (grt : Int) (h_grt1 : -9223372036854775808 ≤ grt) (h_grt2 : grt ≤ 9223372036854775807) {g_x : Bool} {a_x b_x : Option Addr} {n_x c_x m_x d_x : Nat} {xn xd : List Nat} (h_xn : Rd .u32 w a_x n_x c_x xn) (h_xd : Rd .u32 w b_x m_x d_x xd) :
    Calls Try.prog 9 #[.int .i64 bet, .int .i64 bal, .int .i64 mar, .int .i64 grt, ratV g_x a_x n_x c_x b_x m_x d_x] w fun e w' => e = .returned (.bool true) ∧ Below w.heap.size w w' := by
  have B0 : Below w.heap.size w w := Below.refl _ _
  have h_xn_0 := h_xn
  have h_xd_0 := h_xd
  by_cases e4 : limC ⟨g_x, xn, xd⟩ = 0
  case neg =>
    obtain ⟨z, hz⟩ : ∃ z, z = limC ⟨g_x, xn, xd⟩ := ⟨_, rfl⟩
    rw [← hz] at e4
    have HZ := Lib.hid hz.symm
    have dz : (z != 0) = true := by rw [bne_iff_ne]; exact e4
    clear hz e4
    go_enter Try.func9, Try.ntmps9
    have hb := below_al w (.cells #[.bool g_x, .slice a_x n_x c_x, .slice b_x m_x d_x] 34)
    have B1 := B0.trans (hb.mono B0.size)
    have h_xn_1 := h_xn_0.below hb
    have h_xd_1 := h_xd_0.below hb
    clear hb B0 h_xn_0 h_xd_0
    have h_x_1 := Has.new w #[.bool g_x, .slice a_x n_x c_x, .slice b_x m_x d_x] 34
    have k_x_0 := h_x_1.cell 0 _ rfl
    have k_x_1 := h_x_1.cell 1 _ rfl
    have k_x_2 := h_x_1.cell 2 _ rfl
    go_wp2_with fail
    clear k_x_0 k_x_1 k_x_2
    generalize (w.alloc (.cells #[.bool g_x, .slice a_x n_x c_x, .slice b_x m_x d_x] 34)) = w1 at *
    have c := refCheckLimit_any w1 (g := g_x) h_xn_1 h_xd_1
    rw [HZ.out] at c
    refine c.mono ?_
    rintro e w2 ⟨rfl, hb⟩
    clear c
    have B2 := B1.trans (hb.mono B1.size)
    have h_xn_2 := h_xn_1.below hb
    have h_xd_2 := h_xd_1.below hb
    have h_x_2 := h_x_1.later hb
    clear hb B1 h_xn_1 h_xd_1 h_x_1
    go_wp2_with fail
    have c := examples_any w2
    refine c.mono ?_
    rintro e w3 ⟨rfl, hb⟩
    clear c
    have B3 := B2.trans (hb.mono B2.size)
    have h_xn_3 := h_xn_2.below hb
    have h_xd_3 := h_xd_2.below hb
    have h_x_3 := h_x_2.later hb
    clear hb B2 h_xn_2 h_xd_2 h_x_2
    go_wp2_with fail
    go_ret
    exact ⟨rfl, B3⟩
  have E4 := Lib.hid e4
  clear e4
  by_cases e5 : grt < mar
  case pos =>
    have d1 : decide (grt < mar) = true := decide_eq_true e5
    clear e5
    go_enter Try.func9, Try.ntmps9
    have hb := below_al w (.cells #[.bool g_x, .slice a_x n_x c_x, .slice b_x m_x d_x] 34)
    have B1 := B0.trans (hb.mono B0.size)
    have h_xn_1 := h_xn_0.below hb
    have h_xd_1 := h_xd_0.below hb
    clear hb B0 h_xn_0 h_xd_0
    have h_x_1 := Has.new w #[.bool g_x, .slice a_x n_x c_x, .slice b_x m_x d_x] 34
    have k_x_0 := h_x_1.cell 0 _ rfl
    have k_x_1 := h_x_1.cell 1 _ rfl
    have k_x_2 := h_x_1.cell 2 _ rfl
    go_wp2_with fail
    clear k_x_0 k_x_1 k_x_2
    generalize (w.alloc (.cells #[.bool g_x, .slice a_x n_x c_x, .slice b_x m_x d_x] 34)) = w1 at *
    have c := refCheckLimit_any w1 (g := g_x) h_xn_1 h_xd_1
    rw [E4.out] at c
    refine c.mono ?_
    rintro e w2 ⟨rfl, hb⟩
    clear c
    have B2 := B1.trans (hb.mono B1.size)
    have h_xn_2 := h_xn_1.below hb
    have h_xd_2 := h_xd_1.below hb
    have h_x_2 := h_x_1.later hb
    clear hb B1 h_xn_1 h_xd_1 h_x_1
    go_wp2_with fail
    have c := examples_any w2
    refine c.mono ?_
    rintro e w3 ⟨rfl, hb⟩
    clear c
    have B3 := B2.trans (hb.mono B2.size)
    have h_xn_3 := h_xn_2.below hb
    have h_xd_3 := h_xd_2.below hb
    have h_x_3 := h_x_2.later hb
    clear hb B2 h_xn_2 h_xd_2 h_x_2
    go_wp2_with fail
    go_ret
    exact ⟨rfl, B3⟩
  have d1 : decide (grt < mar) = false := decide_eq_false e5
  have HG := Lib.hid (show mar ≤ grt by omega)
  clear e5
  obtain ⟨n1, d1', lx'⟩ := limC_get (x := ⟨g_x, xn, xd⟩) h_xn.bd h_xd.bd E4.out
  have LX := Lib.hid lx'
  obtain ⟨sx, hsx⟩ : ∃ t, t = sizeCC bet bal mar ⟨g_x, xn, xd⟩ := ⟨_, rfl⟩
  obtain ⟨sy, hsy⟩ : ∃ t, t = sizeCC bet bal grt ⟨g_x, xn, xd⟩ := ⟨_, rfl⟩
  have SX := Lib.hid hsx.symm
  have SY := Lib.hid hsy.symm
  clear hsx hsy lx'
  by_cases e6 : mayC bet bal mar
  case neg =>
    have N := Lib.hid (newCC_no e6)
    obtain rfl : sx = (0, 2) := SX.out.symm.trans (sizeCC_bet e6)
    clear e6
    go_enter Try.func9, Try.ntmps9
    have hb := below_al w (.cells #[.bool g_x, .slice a_x n_x c_x, .slice b_x m_x d_x] 34)
    have B1 := B0.trans (hb.mono B0.size)
    have h_xn_1 := h_xn_0.below hb
    have h_xd_1 := h_xd_0.below hb
    clear hb B0 h_xn_0 h_xd_0
    have h_x_1 := Has.new w #[.bool g_x, .slice a_x n_x c_x, .slice b_x m_x d_x] 34
    have k_x_0 := h_x_1.cell 0 _ rfl
    have k_x_1 := h_x_1.cell 1 _ rfl
    have k_x_2 := h_x_1.cell 2 _ rfl
    go_wp2_with fail
    clear k_x_0 k_x_1 k_x_2
    generalize (w.alloc (.cells #[.bool g_x, .slice a_x n_x c_x, .slice b_x m_x d_x] 34)) = w1 at *
    have c := refCheckLimit_any w1 (g := g_x) h_xn_1 h_xd_1
    rw [E4.out] at c
    refine c.mono ?_
    rintro e w2 ⟨rfl, hb⟩
    clear c
    have B2 := B1.trans (hb.mono B1.size)
    have h_xn_2 := h_xn_1.below hb
    have h_xd_2 := h_xd_1.below hb
    have h_x_2 := h_x_1.later hb
    clear hb B1 h_xn_1 h_xd_1 h_x_1
    have k_x_0 := h_x_2.cell 0 _ rfl
    have k_x_1 := h_x_2.cell 1 _ rfl
    have k_x_2 := h_x_2.cell 2 _ rfl
    go_wp2_with fail
    clear k_x_0 k_x_1 k_x_2
    have c := cmSampleSize_any w2 bet bal mar (g := g_x) h_xn_2 h_xd_2
    rw [SX.out] at c
    refine c.mono ?_
    rintro e w3 ⟨rfl, hb⟩
    clear c
    have B3 := B2.trans (hb.mono B2.size)
    have h_xn_3 := h_xn_2.below hb
    have h_xd_3 := h_xd_2.below hb
    have h_x_3 := h_x_2.later hb
    clear hb B2 h_xn_2 h_xd_2 h_x_2
    have k_x_0 := h_x_3.cell 0 _ rfl
    have k_x_1 := h_x_3.cell 1 _ rfl
    have k_x_2 := h_x_3.cell 2 _ rfl
    go_wp2_with fail
    clear k_x_0 k_x_1 k_x_2
    have c := cmSampleSize_any w3 bet bal grt (g := g_x) h_xn_3 h_xd_3
    rw [SY.out] at c
    refine c.mono ?_
    rintro e w4 ⟨rfl, hb⟩
    clear c
    have B4 := B3.trans (hb.mono B3.size)
    have h_xn_4 := h_xn_3.below hb
    have h_xd_4 := h_xd_3.below hb
    have h_x_4 := h_x_3.later hb
    clear hb B3 h_xn_3 h_xd_3 h_x_3
    go_wp2_with fail
    have c := cmNew_any w4 bet bal mar
    rw [N.out] at c
    refine c.mono ?_
    rintro e w5 ⟨a_a, n_a, c_a, b_a, m_a, d_a, rfl, h_al_5, h_ab_5, hb⟩
    clear c
    have B5 := B4.trans (hb.mono B4.size)
    have h_xn_5 := h_xn_4.below hb
    have h_xd_5 := h_xd_4.below hb
    have h_x_5 := h_x_4.later hb
    clear hb B4 h_xn_4 h_xd_4 h_x_4
    have hb := below_al w5 (.cells (cmC zeroCV a_a n_a c_a b_a m_a d_a) 25)
    have B6 := B5.trans (hb.mono B5.size)
    have h_xn_6 := h_xn_5.below hb
    have h_xd_6 := h_xd_5.below hb
    have h_x_6 := h_x_5.later hb
    have h_al_6 := h_al_5.below hb
    have h_ab_6 := h_ab_5.below hb
    clear hb B5 h_xn_5 h_xd_5 h_x_5 h_al_5 h_ab_5
    have h_a_6 := Has.new w5 (cmC zeroCV a_a n_a c_a b_a m_a d_a) 25
    go_wp2_with first | refine wpList_store_new rfl 25 _ _ rfl atCmp _ _ _ rfl rfl rfl rfl (cm_one zeroCV _ _ _ _ _ _) ?_
    generalize (w5.alloc (.cells (cmC zeroCV a_a n_a c_a b_a m_a d_a) 25)) = w6 at *
    have c := examples_any w6
    refine c.mono ?_
    rintro e w7 ⟨rfl, hb⟩
    clear c
    have B7 := B6.trans (hb.mono B6.size)
    have h_xn_7 := h_xn_6.below hb
    have h_xd_7 := h_xd_6.below hb
    have h_x_7 := h_x_6.later hb
    have h_al_7 := h_al_6.below hb
    have h_ab_7 := h_ab_6.below hb
    have h_a_7 := h_a_6.later hb
    clear hb B6 h_xn_6 h_xd_6 h_x_6 h_al_6 h_ab_6 h_a_6
    go_wp2_with fail
    go_ret
    exact ⟨rfl, B7⟩
  case pos =>
  obtain ⟨st, lv, pN, pW, pM, p1, pC, pS, pG⟩ := law_parts e6
  have N := Lib.hid pN
  have CWs := Lib.hid pW
  have OM := Lib.hid pM
  have O1 := Lib.hid p1
  have CF := Lib.hid (fun k hk => pC k ⟨g_x, xn, xd⟩ n1 d1' hk E4.out LX.out)
  have PS := Lib.hid (pS ⟨g_x, xn, xd⟩ n1 d1' E4.out LX.out)
  have PG := Lib.hid (fun hg => pG grt ⟨g_x, xn, xd⟩ n1 d1' HG.out hg E4.out LX.out)
  obtain ⟨q0, hq0⟩ : ∃ q, q = st 0 := ⟨_, rfl⟩
  have HQ := Lib.hid hq0
  clear e6 pN pW pM p1 pC pS pG hq0
  rcases PS.out with hx | ⟨J, hJ, hx, hsure, hfirst⟩
  case inl =>
    obtain rfl : sx = (0, 6) := SX.out.symm.trans hx
    clear hx
    go_enter Try.func9, Try.ntmps9
    have hb := below_al w (.cells #[.bool g_x, .slice a_x n_x c_x, .slice b_x m_x d_x] 34)
    have B1 := B0.trans (hb.mono B0.size)
    have h_xn_1 := h_xn_0.below hb
    have h_xd_1 := h_xd_0.below hb
    clear hb B0 h_xn_0 h_xd_0
    have h_x_1 := Has.new w #[.bool g_x, .slice a_x n_x c_x, .slice b_x m_x d_x] 34
    have k_x_0 := h_x_1.cell 0 _ rfl
    have k_x_1 := h_x_1.cell 1 _ rfl
    have k_x_2 := h_x_1.cell 2 _ rfl
    go_wp2_with fail
    clear k_x_0 k_x_1 k_x_2
    generalize (w.alloc (.cells #[.bool g_x, .slice a_x n_x c_x, .slice b_x m_x d_x] 34)) = w1 at *
    have c := refCheckLimit_any w1 (g := g_x) h_xn_1 h_xd_1
    rw [E4.out] at c
    refine c.mono ?_
    rintro e w2 ⟨rfl, hb⟩
    clear c
    have B2 := B1.trans (hb.mono B1.size)
    have h_xn_2 := h_xn_1.below hb
    have h_xd_2 := h_xd_1.below hb
    have h_x_2 := h_x_1.later hb
    clear hb B1 h_xn_1 h_xd_1 h_x_1
    have k_x_0 := h_x_2.cell 0 _ rfl
    have k_x_1 := h_x_2.cell 1 _ rfl
    have k_x_2 := h_x_2.cell 2 _ rfl
    go_wp2_with fail
    clear k_x_0 k_x_1 k_x_2
    have c := cmSampleSize_any w2 bet bal mar (g := g_x) h_xn_2 h_xd_2
    rw [SX.out] at c
    refine c.mono ?_
    rintro e w3 ⟨rfl, hb⟩
    clear c
    have B3 := B2.trans (hb.mono B2.size)
    have h_xn_3 := h_xn_2.below hb
    have h_xd_3 := h_xd_2.below hb
    have h_x_3 := h_x_2.later hb
    clear hb B2 h_xn_2 h_xd_2 h_x_2
    have k_x_0 := h_x_3.cell 0 _ rfl
    have k_x_1 := h_x_3.cell 1 _ rfl
    have k_x_2 := h_x_3.cell 2 _ rfl
    go_wp2_with fail
    clear k_x_0 k_x_1 k_x_2
    have c := cmSampleSize_any w3 bet bal grt (g := g_x) h_xn_3 h_xd_3
    rw [SY.out] at c
    refine c.mono ?_
    rintro e w4 ⟨rfl, hb⟩
    clear c
    have B4 := B3.trans (hb.mono B3.size)
    have h_xn_4 := h_xn_3.below hb
    have h_xd_4 := h_xd_3.below hb
    have h_x_4 := h_x_3.later hb
    clear hb B3 h_xn_3 h_xd_3 h_x_3
    go_wp2_with fail
    have c := cmNew_any w4 bet bal mar
    rw [N.out] at c
    rw [← HQ.out] at c
    refine c.mono ?_
    rintro e w5 ⟨a_a, n_a, c_a, b_a, m_a, d_a, rfl, h_al_5, h_ab_5, hb⟩
    clear c
    have B5 := B4.trans (hb.mono B4.size)
    have h_xn_5 := h_xn_4.below hb
    have h_xd_5 := h_xd_4.below hb
    have h_x_5 := h_x_4.later hb
    clear hb B4 h_xn_4 h_xd_4 h_x_4
    have hb := below_al w5 (.cells (cmC q0 a_a n_a c_a b_a m_a d_a) 25)
    have B6 := B5.trans (hb.mono B5.size)
    have h_xn_6 := h_xn_5.below hb
    have h_xd_6 := h_xd_5.below hb
    have h_x_6 := h_x_5.later hb
    have h_al_6 := h_al_5.below hb
    have h_ab_6 := h_ab_5.below hb
    clear hb B5 h_xn_5 h_xd_5 h_x_5 h_al_5 h_ab_5
    have h_a_6 := Has.new w5 (cmC q0 a_a n_a c_a b_a m_a d_a) 25
    go_wp2_with first | refine wpList_store_new rfl 25 _ _ rfl atCmp _ _ _ rfl rfl rfl rfl (cm_one q0 _ _ _ _ _ _) ?_
    generalize (w5.alloc (.cells (cmC q0 a_a n_a c_a b_a m_a d_a) 25)) = w6 at *
    have c := examples_any w6
    refine c.mono ?_
    rintro e w7 ⟨rfl, hb⟩
    clear c
    have B7 := B6.trans (hb.mono B6.size)
    have h_xn_7 := h_xn_6.below hb
    have h_xd_7 := h_xd_6.below hb
    have h_x_7 := h_x_6.later hb
    have h_al_7 := h_al_6.below hb
    have h_ab_7 := h_ab_6.below hb
    have h_a_7 := h_a_6.later hb
    clear hb B6 h_xn_6 h_xd_6 h_x_6 h_al_6 h_ab_6 h_a_6
    go_wp2_with fail
    go_ret
    exact ⟨rfl, B7⟩
  case inr =>
  obtain rfl : sx = ((J : Int), 0) := SX.out.symm.trans hx
  have HS := Lib.hid hsure
  have HF := Lib.hid hfirst
  have HJ := Lib.hid hJ
  have dn1 : decide ((J : Int) < 0) = false := decide_eq_false (by omega)
  have dn2 : decide (4096 < (J : Int)) = false := decide_eq_false (by omega)
  clear hx hsure hfirst hJ
  go_enter Try.func9, Try.ntmps9
  have hb := below_al w (.cells #[.bool g_x, .slice a_x n_x c_x, .slice b_x m_x d_x] 34)
  have B1 := B0.trans (hb.mono B0.size)
  have h_xn_1 := h_xn_0.below hb
  have h_xd_1 := h_xd_0.below hb
  clear hb B0 h_xn_0 h_xd_0
  have h_x_1 := Has.new w #[.bool g_x, .slice a_x n_x c_x, .slice b_x m_x d_x] 34
  have k_x_0 := h_x_1.cell 0 _ rfl
  have k_x_1 := h_x_1.cell 1 _ rfl
  have k_x_2 := h_x_1.cell 2 _ rfl
  go_wp2_with fail
  clear k_x_0 k_x_1 k_x_2
  generalize (w.alloc (.cells #[.bool g_x, .slice a_x n_x c_x, .slice b_x m_x d_x] 34)) = w1 at *
  have c := refCheckLimit_any w1 (g := g_x) h_xn_1 h_xd_1
  rw [E4.out] at c
  refine c.mono ?_
  rintro e w2 ⟨rfl, hb⟩
  clear c
  have B2 := B1.trans (hb.mono B1.size)
  have h_xn_2 := h_xn_1.below hb
  have h_xd_2 := h_xd_1.below hb
  have h_x_2 := h_x_1.later hb
  clear hb B1 h_xn_1 h_xd_1 h_x_1
  have k_x_0 := h_x_2.cell 0 _ rfl
  have k_x_1 := h_x_2.cell 1 _ rfl
  have k_x_2 := h_x_2.cell 2 _ rfl
  go_wp2_with fail
  clear k_x_0 k_x_1 k_x_2
  have c := cmSampleSize_any w2 bet bal mar (g := g_x) h_xn_2 h_xd_2
  rw [SX.out] at c
  refine c.mono ?_
  rintro e w3 ⟨rfl, hb⟩
  clear c
  have B3 := B2.trans (hb.mono B2.size)
  have h_xn_3 := h_xn_2.below hb
  have h_xd_3 := h_xd_2.below hb
  have h_x_3 := h_x_2.later hb
  clear hb B2 h_xn_2 h_xd_2 h_x_2
  have k_x_0 := h_x_3.cell 0 _ rfl
  have k_x_1 := h_x_3.cell 1 _ rfl
  have k_x_2 := h_x_3.cell 2 _ rfl
  go_wp2_with fail
  clear k_x_0 k_x_1 k_x_2
  have c := cmSampleSize_any w3 bet bal grt (g := g_x) h_xn_3 h_xd_3
  rw [SY.out] at c
  refine c.mono ?_
  rintro e w4 ⟨rfl, hb⟩
  clear c
  have B4 := B3.trans (hb.mono B3.size)
  have h_xn_4 := h_xn_3.below hb
  have h_xd_4 := h_xd_3.below hb
  have h_x_4 := h_x_3.later hb
  clear hb B3 h_xn_3 h_xd_3 h_x_3
  go_wp2_with fail
  have c := cmNew_any w4 bet bal mar
  rw [N.out] at c
  rw [← HQ.out] at c
  refine c.mono ?_
  rintro e w5 ⟨a_a, n_a, c_a, b_a, m_a, d_a, rfl, h_al_5, h_ab_5, hb⟩
  clear c
  have B5 := B4.trans (hb.mono B4.size)
  have h_xn_5 := h_xn_4.below hb
  have h_xd_5 := h_xd_4.below hb
  have h_x_5 := h_x_4.later hb
  clear hb B4 h_xn_4 h_xd_4 h_x_4
  have hb := below_al w5 (.cells (cmC q0 a_a n_a c_a b_a m_a d_a) 25)
  have B6 := B5.trans (hb.mono B5.size)
  have h_xn_6 := h_xn_5.below hb
  have h_xd_6 := h_xd_5.below hb
  have h_x_6 := h_x_5.later hb
  have h_al_6 := h_al_5.below hb
  have h_ab_6 := h_ab_5.below hb
  clear hb B5 h_xn_5 h_xd_5 h_x_5 h_al_5 h_ab_5
  have h_a_6 := Has.new w5 (cmC q0 a_a n_a c_a b_a m_a d_a) 25
  go_upto_region 10 with (first | refine wpList_store_new rfl 25 _ _ rfl atCmp _ _ _ rfl rfl rfl rfl (cm_one q0 _ _ _ _ _ _) ?_)
  generalize (w5.alloc (.cells (cmC q0 a_a n_a c_a b_a m_a d_a) 25)) = w6 at *
  go_cut [97] from 78 to 97 (fun t wx => t = Value.bool false ∧ wx = w6)
  case first =>
    by_cases hl : grt ≤ bal
    · have dl : decide (grt ≤ bal) = true := decide_eq_true hl
      obtain ⟨I, hI, hy⟩ := PG.out hl J HJ.out HS.out
      obtain rfl : sy = ((I : Int), 0) := SY.out.symm.trans hy
      have dij : decide ((J : Int) < (I : Int)) = false := decide_eq_false (by omega)
      have dijN : decide (J < I) = false := decide_eq_false (by omega)
      clear hl hy hI
      go_wp2_with fail
      go_meet
      exact ⟨by first | rfl | (rw [dijN]), rfl⟩
    · have dl : decide (grt ≤ bal) = false := decide_eq_false hl
      clear hl
      go_wp2_with fail
      go_meet
      exact ⟨rfl, rfl⟩
  case rest =>
  obtain ⟨rfl, hw⟩ := hcut
  have hw := hw.symm
  subst hw
  clear dn1 dn2
  have BASE := B6
  have etI' : ET Try.prog 53 3 (.int .i64 0) 8 := etI
  go_wp2_with fail
  go_loopw [17, 18] (fun s i wr => ∃ (m : Nat) (a : Option Addr) (cap : Nat), s = .slice a m cap ∧ i = .int .i64 ((m : Int) + 1) ∧ wr.ownsRow w6.heap.size 3 1 (.slice a m cap) m (List.replicate m (.int .i64 0)) ∧ Below w6.heap.size w6 wr ∧ (m + 1 ≤ J ∨ m = 0)) (fun _ i _ => J - (intOf i).toNat)
  case atStart => exact ⟨0, none, 0, rfl, rfl, World.ownsRow_nil _ _ _ _, Below.refl _ _, .inr rfl⟩
  case round =>
    obtain ⟨m, az, cz, rfl, rfl, own, BW, hm⟩ := hrel
    have HM := Lib.hid hm
    by_cases hlt : m + 1 < J
    · have dlt : decide ((m : Int) + 1 < (J : Int)) = true := decide_eq_true (by omega)
      have HLT := Lib.hid hlt
      have jb := HJ.out
      have hA := below_al wr (.cells #[.int .i64 0] 3)
      have own1 := own_below own hA
      clear hm
      go_wp2_with (at_builtin; refine wpList_app rfl _ _ 53 rfl etI w6.heap.size rfl own1 rfl rfl (sl_new wr _ 3 rfl) (by unfold maxLen; omega) (by omega) (by have := BW.size; simp [World.size_alloc]; omega) ?_; intro a5 c5 w5 hown5 hg5 hb5)
      go_roundw
      case rel =>
        refine ⟨m + 1, a5, c5, rfl, by go_num, by rw [show List.replicate (m + 1) (Value.int .i64 0) = List.replicate m (Value.int .i64 0) ++ [Value.int .i64 0] from List.replicate_succ']; exact hown5, BW.trans ((hA.mono BW.size).trans hb5), .inl (by omega)⟩
      case measure => simp [intOf]; omega
    · have dlt : decide ((m : Int) + 1 < (J : Int)) = false := decide_eq_false (by omega)
      have HJM := Lib.hid (show (J = 0 ∧ m = 0) ∨ J = m + 1 by omega)
      clear hm hlt
      have B100 := BASE.trans (BW.mono BASE.size)
      have h_xn_100 := h_xn_6.below BW
      have h_xd_100 := h_xd_6.below BW
      have h_x_100 := h_x_6.later BW
      have h_al_100 := h_al_6.below BW
      have h_ab_100 := h_ab_6.below BW
      have h_a_100 := h_a_6.later BW
      have h_z_100 := rdI_zeros own
      clear own
      have mb : m ≤ 4999 := by have := HJM.out; have := HJ.out; omega
      have W0 := CWs.out 0 (by decide)
      rw [← HQ.out] at W0
      have k_a_0 := h_a_100.cell 0 _ rfl
      have k_a_1 := h_a_100.cell 1 _ rfl
      have k_a_2 := h_a_100.cell 2 _ rfl
      have k_a_3 := h_a_100.cell 3 _ rfl
      have k_a_4 := h_a_100.cell 4 _ rfl
      have k_a_5 := h_a_100.cell 5 _ rfl
      have k_a_6 := h_a_100.cell 6 _ rfl
      have k_a_7 := h_a_100.cell 7 _ rfl
      have k_a_8 := h_a_100.cell 8 _ rfl
      have k_a_9 := h_a_100.cell 9 _ rfl
      go_wp2_with fail
      clear k_a_0 k_a_1 k_a_2 k_a_3 k_a_4 k_a_5 k_a_6 k_a_7 k_a_8 k_a_9
      have c := cmObserve_any wr h_al_100 h_ab_100 W0 h_z_100
      rw [show obsCC q0 (List.replicate m 0) = (st m, 0) from (by rw [HQ.out]; exact OM.out m (by omega))] at c
      refine c.mono ?_
      rintro e w101 ⟨a_o, n_o, c_o, b_o, m_o, d_o, rfl, h_ol_101, h_ob_101, hb⟩
      clear c
      have B101 := B100.trans (hb.mono B100.size)
      have h_xn_101 := h_xn_100.below hb
      have h_xd_101 := h_xd_100.below hb
      have h_x_101 := h_x_100.later hb
      have h_al_101 := h_al_100.below hb
      have h_ab_101 := h_ab_100.below hb
      have h_a_101 := h_a_100.later hb
      clear hb B100 h_xn_100 h_xd_100 h_x_100 h_al_100 h_ab_100 h_a_100 h_z_100
      have hb := below_al w101 (.cells (cmC (st m) a_o n_o c_o b_o m_o d_o) 25)
      have B102 := B101.trans (hb.mono B101.size)
      have h_xn_102 := h_xn_101.below hb
      have h_xd_102 := h_xd_101.below hb
      have h_x_102 := h_x_101.later hb
      have h_al_102 := h_al_101.below hb
      have h_ab_102 := h_ab_101.below hb
      have h_a_102 := h_a_101.later hb
      have h_ol_102 := h_ol_101.below hb
      have h_ob_102 := h_ob_101.below hb
      clear hb B101 h_xn_101 h_xd_101 h_x_101 h_al_101 h_ab_101 h_a_101 h_ol_101 h_ob_101
      have h_o_102 := Has.new w101 (cmC (st m) a_o n_o c_o b_o m_o d_o) 25
      have k_o_0 := h_o_102.cell 0 _ rfl
      have k_o_1 := h_o_102.cell 1 _ rfl
      have k_o_2 := h_o_102.cell 2 _ rfl
      have k_o_3 := h_o_102.cell 3 _ rfl
      have k_o_4 := h_o_102.cell 4 _ rfl
      have k_o_5 := h_o_102.cell 5 _ rfl
      have k_o_6 := h_o_102.cell 6 _ rfl
      have k_o_7 := h_o_102.cell 7 _ rfl
      have k_o_8 := h_o_102.cell 8 _ rfl
      have k_o_9 := h_o_102.cell 9 _ rfl
      have hb := below_al (w101.alloc (.cells (cmC (st m) a_o n_o c_o b_o m_o d_o) 25)) (.cells #[.int .i64 0] 3)
      have B103 := B102.trans (hb.mono B102.size)
      have h_xn_103 := h_xn_102.below hb
      have h_xd_103 := h_xd_102.below hb
      have h_x_103 := h_x_102.later hb
      have h_al_103 := h_al_102.below hb
      have h_ab_103 := h_ab_102.below hb
      have h_a_103 := h_a_102.later hb
      have h_ol_103 := h_ol_102.below hb
      have h_ob_103 := h_ob_102.below hb
      have h_o_103 := h_o_102.later hb
      clear hb B102 h_xn_102 h_xd_102 h_x_102 h_al_102 h_ab_102 h_a_102 h_ol_102 h_ob_102 h_o_102
      have h_li_103 := rdI_lone (w101.alloc (.cells (cmC (st m) a_o n_o c_o b_o m_o d_o) 25)) 0 (by unfold wide64; decide)
      simp only [World.size_alloc] at h_li_103
      go_wp2_with first | refine wpList_store_new rfl 25 _ _ rfl atCmp _ _ _ rfl rfl rfl rfl (cm_one (st m) _ _ _ _ _ _) ?_
      clear k_o_0 k_o_1 k_o_2 k_o_3 k_o_4 k_o_5 k_o_6 k_o_7 k_o_8 k_o_9
      generalize ((w101.alloc (.cells (cmC (st m) a_o n_o c_o b_o m_o d_o) 25)).alloc (.cells #[.int .i64 0] 3)) = w103 at *
      have c := cmObserve_any w103 h_ol_103 h_ob_103 (CWs.out m (by omega)) h_li_103
      rw [O1.out m (by omega)] at c
      refine c.mono ?_
      rintro e w104 ⟨a_b, n_b, c_b, b_b, m_b, d_b, rfl, h_bl_104, h_bb_104, hb⟩
      clear c
      have B104 := B103.trans (hb.mono B103.size)
      have h_xn_104 := h_xn_103.below hb
      have h_xd_104 := h_xd_103.below hb
      have h_x_104 := h_x_103.later hb
      have h_al_104 := h_al_103.below hb
      have h_ab_104 := h_ab_103.below hb
      have h_a_104 := h_a_103.later hb
      have h_ol_104 := h_ol_103.below hb
      have h_ob_104 := h_ob_103.below hb
      have h_o_104 := h_o_103.later hb
      clear hb B103 h_xn_103 h_xd_103 h_x_103 h_al_103 h_ab_103 h_a_103 h_ol_103 h_ob_103 h_o_103 h_li_103
      have hb := below_al w104 (.cells (cmC (st (m + 1)) a_b n_b c_b b_b m_b d_b) 25)
      have B105 := B104.trans (hb.mono B104.size)
      have h_xn_105 := h_xn_104.below hb
      have h_xd_105 := h_xd_104.below hb
      have h_x_105 := h_x_104.later hb
      have h_al_105 := h_al_104.below hb
      have h_ab_105 := h_ab_104.below hb
      have h_a_105 := h_a_104.later hb
      have h_ol_105 := h_ol_104.below hb
      have h_ob_105 := h_ob_104.below hb
      have h_o_105 := h_o_104.later hb
      have h_bl_105 := h_bl_104.below hb
      have h_bb_105 := h_bb_104.below hb
      clear hb B104 h_xn_104 h_xd_104 h_x_104 h_al_104 h_ab_104 h_a_104 h_ol_104 h_ob_104 h_o_104 h_bl_104 h_bb_104
      have h_b_105 := Has.new w104 (cmC (st (m + 1)) a_b n_b c_b b_b m_b d_b) 25
      have k_o_0 := h_o_105.cell 0 _ rfl
      have k_o_1 := h_o_105.cell 1 _ rfl
      have k_o_2 := h_o_105.cell 2 _ rfl
      have k_o_3 := h_o_105.cell 3 _ rfl
      have k_o_4 := h_o_105.cell 4 _ rfl
      have k_o_5 := h_o_105.cell 5 _ rfl
      have k_o_6 := h_o_105.cell 6 _ rfl
      have k_o_7 := h_o_105.cell 7 _ rfl
      have k_o_8 := h_o_105.cell 8 _ rfl
      have k_o_9 := h_o_105.cell 9 _ rfl
      have k_x_0 := h_x_105.cell 0 _ rfl
      have k_x_1 := h_x_105.cell 1 _ rfl
      have k_x_2 := h_x_105.cell 2 _ rfl
      go_wp2_with first | refine wpList_store_new rfl 25 _ _ rfl atCmp _ _ _ rfl rfl rfl rfl (cm_one (st (m + 1)) _ _ _ _ _ _) ?_
      clear k_o_0 k_o_1 k_o_2 k_o_3 k_o_4 k_o_5 k_o_6 k_o_7 k_o_8 k_o_9 k_x_0 k_x_1 k_x_2
      generalize (w104.alloc (.cells (cmC (st (m + 1)) a_b n_b c_b b_b m_b d_b) 25)) = w105 at *
      have c := cmConfirmed_any w105 h_ol_105 h_ob_105 (CWs.out m (by omega)) (g := g_x) h_xn_105 h_xd_105
      rw [CF.out m (by omega)] at c
      refine c.mono ?_
      rintro e w106 ⟨rfl, hb⟩
      clear c
      have B106 := B105.trans (hb.mono B105.size)
      have h_xn_106 := h_xn_105.below hb
      have h_xd_106 := h_xd_105.below hb
      have h_x_106 := h_x_105.later hb
      have h_al_106 := h_al_105.below hb
      have h_ab_106 := h_ab_105.below hb
      have h_a_106 := h_a_105.later hb
      have h_ol_106 := h_ol_105.below hb
      have h_ob_106 := h_ob_105.below hb
      have h_o_106 := h_o_105.later hb
      have h_bl_106 := h_bl_105.below hb
      have h_bb_106 := h_bb_105.below hb
      have h_b_106 := h_b_105.later hb
      clear hb B105 h_xn_105 h_xd_105 h_x_105 h_al_105 h_ab_105 h_a_105 h_ol_105 h_ob_105 h_o_105 h_bl_105 h_bb_105 h_b_105
      have k_b_0 := h_b_106.cell 0 _ rfl
      have k_b_1 := h_b_106.cell 1 _ rfl
      have k_b_2 := h_b_106.cell 2 _ rfl
      have k_b_3 := h_b_106.cell 3 _ rfl
      have k_b_4 := h_b_106.cell 4 _ rfl
      have k_b_5 := h_b_106.cell 5 _ rfl
      have k_b_6 := h_b_106.cell 6 _ rfl
      have k_b_7 := h_b_106.cell 7 _ rfl
      have k_b_8 := h_b_106.cell 8 _ rfl
      have k_b_9 := h_b_106.cell 9 _ rfl
      have k_x_0 := h_x_106.cell 0 _ rfl
      have k_x_1 := h_x_106.cell 1 _ rfl
      have k_x_2 := h_x_106.cell 2 _ rfl
      go_wp2_with fail
      clear k_b_0 k_b_1 k_b_2 k_b_3 k_b_4 k_b_5 k_b_6 k_b_7 k_b_8 k_b_9 k_x_0 k_x_1 k_x_2
      have c := cmConfirmed_any w106 h_bl_106 h_bb_106 (CWs.out (m + 1) (by omega)) (g := g_x) h_xn_106 h_xd_106
      rw [CF.out (m + 1) (by omega)] at c
      refine c.mono ?_
      rintro e w107 ⟨rfl, hb⟩
      clear c
      have B107 := B106.trans (hb.mono B106.size)
      have h_xn_107 := h_xn_106.below hb
      have h_xd_107 := h_xd_106.below hb
      have h_x_107 := h_x_106.later hb
      have h_al_107 := h_al_106.below hb
      have h_ab_107 := h_ab_106.below hb
      have h_a_107 := h_a_106.later hb
      have h_ol_107 := h_ol_106.below hb
      have h_ob_107 := h_ob_106.below hb
      have h_o_107 := h_o_106.later hb
      have h_bl_107 := h_bl_106.below hb
      have h_bb_107 := h_bb_106.below hb
      have h_b_107 := h_b_106.later hb
      clear hb B106 h_xn_106 h_xd_106 h_x_106 h_al_106 h_ab_106 h_a_106 h_ol_106 h_ob_106 h_o_106 h_bl_106 h_bb_106 h_b_106
      rcases HJM.out with ⟨hj, rfl⟩ | rfl
      · skip
        subst hj
        have sj : sureN (lv 0) n1 d1' = true := HS.out
        go_wp2_with fail
        have c := examples_any w107
        refine c.mono ?_
        rintro e w108 ⟨rfl, hb⟩
        clear c
        have B108 := B107.trans (hb.mono B107.size)
        have h_xn_108 := h_xn_107.below hb
        have h_xd_108 := h_xd_107.below hb
        have h_x_108 := h_x_107.later hb
        have h_al_108 := h_al_107.below hb
        have h_ab_108 := h_ab_107.below hb
        have h_a_108 := h_a_107.later hb
        have h_ol_108 := h_ol_107.below hb
        have h_ob_108 := h_ob_107.below hb
        have h_o_108 := h_o_107.later hb
        have h_bl_108 := h_bl_107.below hb
        have h_bb_108 := h_bb_107.below hb
        have h_b_108 := h_b_107.later hb
        clear hb B107 h_xn_107 h_xd_107 h_x_107 h_al_107 h_ab_107 h_a_107 h_ol_107 h_ob_107 h_o_107 h_bl_107 h_bb_107 h_b_107
        go_wp2_with fail
        go_ret
        exact ⟨rfl, B108⟩
      · skip
        have sj : sureN (lv (m + 1)) n1 d1' = true := HS.out
        have sf : sureN (lv m) n1 d1' = false := by simpa using HF.out m (by omega)
        have dz : (((m + 1 : Nat) : Int) == 0) = false := beq_eq_false_iff_ne.2 (by omega)
        go_wp2_with fail
        have c := examples_any w107
        refine c.mono ?_
        rintro e w108 ⟨rfl, hb⟩
        clear c
        have B108 := B107.trans (hb.mono B107.size)
        have h_xn_108 := h_xn_107.below hb
        have h_xd_108 := h_xd_107.below hb
        have h_x_108 := h_x_107.later hb
        have h_al_108 := h_al_107.below hb
        have h_ab_108 := h_ab_107.below hb
        have h_a_108 := h_a_107.later hb
        have h_ol_108 := h_ol_107.below hb
        have h_ob_108 := h_ob_107.below hb
        have h_o_108 := h_o_107.later hb
        have h_bl_108 := h_bl_107.below hb
        have h_bb_108 := h_bb_107.below hb
        have h_b_108 := h_b_107.later hb
        clear hb B107 h_xn_107 h_xd_107 h_x_107 h_al_107 h_ab_107 h_a_107 h_ol_107 h_ob_107 h_o_107 h_bl_107 h_bb_107 h_b_107
        go_wp2_with fail
        go_ret
        exact ⟨rfl, B108⟩

end Go.Proofs.Ytmkcdlhhbnakiaa
