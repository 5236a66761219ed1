/- The walk of the law QuotaBack: it returns true and turns nothing that was there. No condition. Printed by gen_quolaws.py. -/
import Derived.Test.YtfcejgeckcoefaaQuoG
import Derived.Test.YtfcejgeckcoefaaQuoH
import Derived.BigQuiet
import Derived.Deep.CutRange
namespace Go.Proofs.Ytfcejgeckcoefaa
open Go.RowKit Go.Suf
set_option linter.unusedVariables false
set_option linter.unusedSimpArgs false

theorem w64_small {x : Int} (h : -9223372036854775808 ≤ x) (h2 : x < 9223372036854775808) : wrap64 x = x := by
  simp only [wrap64]
  omega

theorem whole_fr {n : Int} {N : Nat} (h : n = (N : Int)) : (ofC n 1).1 = fr N 1 := by
  subst h
  exact congrArg Prod.fst (ofC_fr (n := N) (d := 1) (by decide))

/-- A number that is right, not negative and short, as a fraction of naturals. -/
theorem back_law {g : Bool} {xs ys : List Nat} (hn : small32 xs) (hd : small32 ys) (hc : chkV ⟨g, xs, ys⟩ = 0) (hg : g = false) (l1 : xs.length ≤ 6) (l2 : ys.length ≤ 6) :
    ∃ A B : Nat, g = (fr A B).neg ∧ xs = (fr A B).num ∧ ys = (fr A B).den ∧ B ≠ 0 ∧ A < pw 6 ∧ B < pw 6 := by
  obtain ⟨q, e1, f1⟩ := chkV_get (x := ⟨g, xs, ys⟩) hn hd hc
  have ex : g = decide (q.num < 0) ∧ xs = limbs q.num.natAbs ∧ ys = limbs q.den := by
    unfold ofQ at e1
    injection e1 with e1 e3 e4
    exact ⟨e1, e3, e4⟩
  have co : q.num.natAbs.gcd q.den = 1 := q.reduced
  have short : ∀ {N : Nat}, (limbs N).length ≤ 6 → N < pw 6 := by
    intro N h
    have h2 := val_lt' (limbs_small N)
    rw [val_limbs] at h2
    exact Nat.lt_of_lt_of_le h2 (pw_le h)
  refine ⟨q.num.natAbs, q.den, ?_, ?_, ?_, q.den_nz, short (by rw [← ex.2.1]; exact l1), short (by rw [← ex.2.2]; exact l2)⟩
  · rw [hg]; rfl
  · rw [ex.2.1]
    show _ = limbs (q.num.natAbs / q.num.natAbs.gcd q.den)
    rw [co, Nat.div_one]
  · rw [ex.2.2]
    show _ = limbs (q.den / q.num.natAbs.gcd q.den)
    rw [co, Nat.div_one]

theorem bill_back {N : Nat} (h : N ≤ 1000000000000000) : billC (fr N 1000000000) = ((N : Int), 0) := by
  rw [fr_bill (by decide) (small48 (by omega)) (small48 (by decide)), Nat.mul_div_cancel _ (by decide), tellN, if_pos h]

set_option maxRecDepth 100000 in
set_option maxHeartbeats 8000000 in
theorem quotaBack_walk (w : World) (n : Int) (h_n1 : -9223372036854775808 ≤ n) (h_n2 : n ≤ 9223372036854775807) {g_x : Bool} {a_x b_x : Option Addr} {n_x c_x m_x d_x : Nat} {xn xd : List Nat} (h_xn : Rd .u32 w a_x n_x c_x xn) (h_xd : Rd .u32 w b_x m_x d_x xd) :
    Calls Try.prog 9 #[.int .i64 n, ratV g_x a_x n_x c_x b_x m_x d_x] w fun e w' => e = .returned (.bool true) ∧ Below w.heap.size w w' := by
  have i_n : i64 n := ⟨h_n1, h_n2⟩
  have l_n : n < 9223372036854775808 := by omega
  have B0 : Below w.heap.size w w := Below.refl _ _
  have h_xn_0 := h_xn
  have h_xd_0 := h_xd
  by_cases q_n : inQ n
  case neg =>
    by_cases e_n : n < 0
    case pos =>
      have RN := Lib.hid (show ratQ n = (zeroV, 2) by rw [ratQ, if_neg q_n])
      have dn : decide (n < 0) = true := decide_eq_true e_n
      clear q_n e_n
      go_enter Try.func9, Try.ntmps9
      have hb := below_al w (.cells #[.bool g_x, .slice a_x n_x c_x, .slice b_x m_x d_x] 27)
      have B1 := B0.trans (hb.mono B0.size)
      have h_xn_1 := h_xn_0.below hb
      have h_xd_1 := h_xd_0.below hb
      clear hb B0 h_xn_0 h_xd_0
      have h_x_1 := Has.new w #[.bool g_x, .slice a_x n_x c_x, .slice b_x m_x d_x] 27
      go_wp2_with fail
      generalize (w.alloc (.cells #[.bool g_x, .slice a_x n_x c_x, .slice b_x m_x d_x] 27)) = w1 at *
      have c := qratio_any w1 n i_n
      rw [RN.out] at c
      refine c.mono ?_
      rintro e w2 ⟨a_r, n_r, c_r, b_r, m_r, d_r, rfl, h_rn_2, h_rd_2, hb⟩
      clear c
      have B2 := B1.trans (hb.mono B1.size)
      have h_xn_2 := h_xn_1.below hb
      have h_xd_2 := h_xd_1.below hb
      have h_x_2 := h_x_1.later hb
      clear hb B1 h_xn_1 h_xd_1 h_x_1
      have hb := below_al w2 (.cells #[.bool (zeroV).neg, .slice a_r n_r c_r, .slice b_r m_r d_r] 27)
      have B3 := B2.trans (hb.mono B2.size)
      have h_xn_3 := h_xn_2.below hb
      have h_xd_3 := h_xd_2.below hb
      have h_x_3 := h_x_2.later hb
      have h_rn_3 := h_rn_2.below hb
      have h_rd_3 := h_rd_2.below hb
      clear hb B2 h_xn_2 h_xd_2 h_x_2 h_rn_2 h_rd_2
      have h_r_3 := Has.new w2 #[.bool (zeroV).neg, .slice a_r n_r c_r, .slice b_r m_r d_r] 27
      have mz : m_r = 0 := by have := h_rd_3.len; exact this.symm
      have mz1 : ((m_r : Int) == 0) = true := by rw [mz]; rfl
      have mz2 : (m_r == 0) = true := by rw [mz]; rfl
      clear mz
      have k_r_0 := h_r_3.cell 0 _ rfl
      have k_r_1 := h_r_3.cell 1 _ rfl
      have k_r_2 := h_r_3.cell 2 _ rfl
      go_wp2_with first | refine wpList_store_new rfl 27 _ _ rfl atRat _ _ _ rfl rfl rfl rfl (rat_one _ _ _ _ _ _ _) ?_
      clear k_r_0 k_r_1 k_r_2
      generalize (w2.alloc (.cells #[.bool (zeroV).neg, .slice a_r n_r c_r, .slice b_r m_r d_r] 27)) = w3 at *
      have c := wakes_any w3
      refine c.mono ?_
      rintro e w4 ⟨rfl, hb⟩
      clear c
      have B4 := B3.trans (hb.mono B3.size)
      have h_xn_4 := h_xn_3.below hb
      have h_xd_4 := h_xd_3.below hb
      have h_x_4 := h_x_3.later hb
      have h_rn_4 := h_rn_3.below hb
      have h_rd_4 := h_rd_3.below hb
      have h_r_4 := h_r_3.later hb
      clear hb B3 h_xn_3 h_xd_3 h_x_3 h_rn_3 h_rd_3 h_r_3
      go_wp2_with fail
      go_ret
      exact ⟨rfl, B4⟩
    have RN := Lib.hid (show ratQ n = (zeroV, 2) by rw [ratQ, if_neg q_n])
    have dn : decide (n < 0) = false := decide_eq_false e_n
    have dx : decide (1000000000000000 < n) = true := decide_eq_true (by unfold inQ at q_n; omega)
    clear q_n e_n
    go_enter Try.func9, Try.ntmps9
    have hb := below_al w (.cells #[.bool g_x, .slice a_x n_x c_x, .slice b_x m_x d_x] 27)
    have B1 := B0.trans (hb.mono B0.size)
    have h_xn_1 := h_xn_0.below hb
    have h_xd_1 := h_xd_0.below hb
    clear hb B0 h_xn_0 h_xd_0
    have h_x_1 := Has.new w #[.bool g_x, .slice a_x n_x c_x, .slice b_x m_x d_x] 27
    go_wp2_with fail
    generalize (w.alloc (.cells #[.bool g_x, .slice a_x n_x c_x, .slice b_x m_x d_x] 27)) = w1 at *
    have c := qratio_any w1 n i_n
    rw [RN.out] at c
    refine c.mono ?_
    rintro e w2 ⟨a_r, n_r, c_r, b_r, m_r, d_r, rfl, h_rn_2, h_rd_2, hb⟩
    clear c
    have B2 := B1.trans (hb.mono B1.size)
    have h_xn_2 := h_xn_1.below hb
    have h_xd_2 := h_xd_1.below hb
    have h_x_2 := h_x_1.later hb
    clear hb B1 h_xn_1 h_xd_1 h_x_1
    have hb := below_al w2 (.cells #[.bool (zeroV).neg, .slice a_r n_r c_r, .slice b_r m_r d_r] 27)
    have B3 := B2.trans (hb.mono B2.size)
    have h_xn_3 := h_xn_2.below hb
    have h_xd_3 := h_xd_2.below hb
    have h_x_3 := h_x_2.later hb
    have h_rn_3 := h_rn_2.below hb
    have h_rd_3 := h_rd_2.below hb
    clear hb B2 h_xn_2 h_xd_2 h_x_2 h_rn_2 h_rd_2
    have h_r_3 := Has.new w2 #[.bool (zeroV).neg, .slice a_r n_r c_r, .slice b_r m_r d_r] 27
    have mz : m_r = 0 := by have := h_rd_3.len; exact this.symm
    have mz1 : ((m_r : Int) == 0) = true := by rw [mz]; rfl
    have mz2 : (m_r == 0) = true := by rw [mz]; rfl
    clear mz
    have k_r_0 := h_r_3.cell 0 _ rfl
    have k_r_1 := h_r_3.cell 1 _ rfl
    have k_r_2 := h_r_3.cell 2 _ rfl
    go_wp2_with first | refine wpList_store_new rfl 27 _ _ rfl atRat _ _ _ rfl rfl rfl rfl (rat_one _ _ _ _ _ _ _) ?_
    clear k_r_0 k_r_1 k_r_2
    generalize (w2.alloc (.cells #[.bool (zeroV).neg, .slice a_r n_r c_r, .slice b_r m_r d_r] 27)) = w3 at *
    have c := wakes_any w3
    refine c.mono ?_
    rintro e w4 ⟨rfl, hb⟩
    clear c
    have B4 := B3.trans (hb.mono B3.size)
    have h_xn_4 := h_xn_3.below hb
    have h_xd_4 := h_xd_3.below hb
    have h_x_4 := h_x_3.later hb
    have h_rn_4 := h_rn_3.below hb
    have h_rd_4 := h_rd_3.below hb
    have h_r_4 := h_r_3.later hb
    clear hb B3 h_xn_3 h_xd_3 h_x_3 h_rn_3 h_rd_3 h_r_3
    go_wp2_with fail
    go_ret
    exact ⟨rfl, B4⟩
  obtain ⟨N, hN, b_N, -⟩ := inQ_nat q_n
  have RN := Lib.hid (show ratQ n = (fr N 1000000000, 0) by rw [hN]; exact ratQ_fr b_N)
  have BN := Lib.hid (show billC (fr N 1000000000) = (n, 0) by rw [hN]; exact bill_back b_N)
  have dn : decide (n < 0) = false := decide_eq_false (by omega)
  have dx : decide (1000000000000000 < n) = false := decide_eq_false (by omega)
  clear q_n hN b_N
  by_cases e1 : 6 < n_x
  case pos =>
    have d1 : decide ((6 : Int) < (n_x : Int)) = true := decide_eq_true (by omega)
    clear e1
    go_enter Try.func9, Try.ntmps9
    have hb := below_al w (.cells #[.bool g_x, .slice a_x n_x c_x, .slice b_x m_x d_x] 27)
    have B1 := B0.trans (hb.mono B0.size)
    have h_xn_1 := h_xn_0.below hb
    have h_xd_1 := h_xd_0.below hb
    clear hb B0 h_xn_0 h_xd_0
    have h_x_1 := Has.new w #[.bool g_x, .slice a_x n_x c_x, .slice b_x m_x d_x] 27
    go_wp2_with fail
    generalize (w.alloc (.cells #[.bool g_x, .slice a_x n_x c_x, .slice b_x m_x d_x] 27)) = w1 at *
    have c := qratio_any w1 n i_n
    rw [RN.out] at c
    refine c.mono ?_
    rintro e w2 ⟨a_r, n_r, c_r, b_r, m_r, d_r, rfl, h_rn_2, h_rd_2, hb⟩
    clear c
    have B2 := B1.trans (hb.mono B1.size)
    have h_xn_2 := h_xn_1.below hb
    have h_xd_2 := h_xd_1.below hb
    have h_x_2 := h_x_1.later hb
    clear hb B1 h_xn_1 h_xd_1 h_x_1
    have hb := below_al w2 (.cells #[.bool ((fr N 1000000000)).neg, .slice a_r n_r c_r, .slice b_r m_r d_r] 27)
    have B3 := B2.trans (hb.mono B2.size)
    have h_xn_3 := h_xn_2.below hb
    have h_xd_3 := h_xd_2.below hb
    have h_x_3 := h_x_2.later hb
    have h_rn_3 := h_rn_2.below hb
    have h_rd_3 := h_rd_2.below hb
    clear hb B2 h_xn_2 h_xd_2 h_x_2 h_rn_2 h_rd_2
    have h_r_3 := Has.new w2 #[.bool ((fr N 1000000000)).neg, .slice a_r n_r c_r, .slice b_r m_r d_r] 27
    have k_r_0 := h_r_3.cell 0 _ rfl
    have k_r_1 := h_r_3.cell 1 _ rfl
    have k_r_2 := h_r_3.cell 2 _ rfl
    go_wp2_with first | refine wpList_store_new rfl 27 _ _ rfl atRat _ _ _ rfl rfl rfl rfl (rat_one _ _ _ _ _ _ _) ?_
    clear k_r_0 k_r_1 k_r_2
    generalize (w2.alloc (.cells #[.bool ((fr N 1000000000)).neg, .slice a_r n_r c_r, .slice b_r m_r d_r] 27)) = w3 at *
    have c := bill_any w3 (g := (fr N 1000000000).neg) h_rn_3 h_rd_3
    rw [show (⟨(fr N 1000000000).neg, (fr N 1000000000).num, (fr N 1000000000).den⟩ : QV) = fr N 1000000000 from rfl] at c
    rw [BN.out] at c
    refine c.mono ?_
    rintro e w4 ⟨rfl, hb⟩
    clear c
    have B4 := B3.trans (hb.mono B3.size)
    have h_xn_4 := h_xn_3.below hb
    have h_xd_4 := h_xd_3.below hb
    have h_x_4 := h_x_3.later hb
    have h_rn_4 := h_rn_3.below hb
    have h_rd_4 := h_rd_3.below hb
    have h_r_4 := h_r_3.later hb
    clear hb B3 h_xn_3 h_xd_3 h_x_3 h_rn_3 h_rd_3 h_r_3
    have k_x_0 := h_x_4.cell 0 _ rfl
    have k_x_1 := h_x_4.cell 1 _ rfl
    have k_x_2 := h_x_4.cell 2 _ rfl
    go_wp2_with fail
    clear k_x_0 k_x_1 k_x_2
    have c := wakes_any w4
    refine c.mono ?_
    rintro e w5 ⟨rfl, hb⟩
    clear c
    have B5 := B4.trans (hb.mono B4.size)
    have h_xn_5 := h_xn_4.below hb
    have h_xd_5 := h_xd_4.below hb
    have h_x_5 := h_x_4.later hb
    have h_rn_5 := h_rn_4.below hb
    have h_rd_5 := h_rd_4.below hb
    have h_r_5 := h_r_4.later hb
    clear hb B4 h_xn_4 h_xd_4 h_x_4 h_rn_4 h_rd_4 h_r_4
    go_wp2_with fail
    go_ret
    exact ⟨rfl, B5⟩
  have d1 : decide ((6 : Int) < (n_x : Int)) = false := decide_eq_false (by omega)
  by_cases e2 : 6 < m_x
  case pos =>
    have d2 : decide ((6 : Int) < (m_x : Int)) = true := decide_eq_true (by omega)
    clear e1 e2
    go_enter Try.func9, Try.ntmps9
    have hb := below_al w (.cells #[.bool g_x, .slice a_x n_x c_x, .slice b_x m_x d_x] 27)
    have B1 := B0.trans (hb.mono B0.size)
    have h_xn_1 := h_xn_0.below hb
    have h_xd_1 := h_xd_0.below hb
    clear hb B0 h_xn_0 h_xd_0
    have h_x_1 := Has.new w #[.bool g_x, .slice a_x n_x c_x, .slice b_x m_x d_x] 27
    go_wp2_with fail
    generalize (w.alloc (.cells #[.bool g_x, .slice a_x n_x c_x, .slice b_x m_x d_x] 27)) = w1 at *
    have c := qratio_any w1 n i_n
    rw [RN.out] at c
    refine c.mono ?_
    rintro e w2 ⟨a_r, n_r, c_r, b_r, m_r, d_r, rfl, h_rn_2, h_rd_2, hb⟩
    clear c
    have B2 := B1.trans (hb.mono B1.size)
    have h_xn_2 := h_xn_1.below hb
    have h_xd_2 := h_xd_1.below hb
    have h_x_2 := h_x_1.later hb
    clear hb B1 h_xn_1 h_xd_1 h_x_1
    have hb := below_al w2 (.cells #[.bool ((fr N 1000000000)).neg, .slice a_r n_r c_r, .slice b_r m_r d_r] 27)
    have B3 := B2.trans (hb.mono B2.size)
    have h_xn_3 := h_xn_2.below hb
    have h_xd_3 := h_xd_2.below hb
    have h_x_3 := h_x_2.later hb
    have h_rn_3 := h_rn_2.below hb
    have h_rd_3 := h_rd_2.below hb
    clear hb B2 h_xn_2 h_xd_2 h_x_2 h_rn_2 h_rd_2
    have h_r_3 := Has.new w2 #[.bool ((fr N 1000000000)).neg, .slice a_r n_r c_r, .slice b_r m_r d_r] 27
    have k_r_0 := h_r_3.cell 0 _ rfl
    have k_r_1 := h_r_3.cell 1 _ rfl
    have k_r_2 := h_r_3.cell 2 _ rfl
    go_wp2_with first | refine wpList_store_new rfl 27 _ _ rfl atRat _ _ _ rfl rfl rfl rfl (rat_one _ _ _ _ _ _ _) ?_
    clear k_r_0 k_r_1 k_r_2
    generalize (w2.alloc (.cells #[.bool ((fr N 1000000000)).neg, .slice a_r n_r c_r, .slice b_r m_r d_r] 27)) = w3 at *
    have c := bill_any w3 (g := (fr N 1000000000).neg) h_rn_3 h_rd_3
    rw [show (⟨(fr N 1000000000).neg, (fr N 1000000000).num, (fr N 1000000000).den⟩ : QV) = fr N 1000000000 from rfl] at c
    rw [BN.out] at c
    refine c.mono ?_
    rintro e w4 ⟨rfl, hb⟩
    clear c
    have B4 := B3.trans (hb.mono B3.size)
    have h_xn_4 := h_xn_3.below hb
    have h_xd_4 := h_xd_3.below hb
    have h_x_4 := h_x_3.later hb
    have h_rn_4 := h_rn_3.below hb
    have h_rd_4 := h_rd_3.below hb
    have h_r_4 := h_r_3.later hb
    clear hb B3 h_xn_3 h_xd_3 h_x_3 h_rn_3 h_rd_3 h_r_3
    have k_x_0 := h_x_4.cell 0 _ rfl
    have k_x_1 := h_x_4.cell 1 _ rfl
    have k_x_2 := h_x_4.cell 2 _ rfl
    go_wp2_with fail
    clear k_x_0 k_x_1 k_x_2
    have c := wakes_any w4
    refine c.mono ?_
    rintro e w5 ⟨rfl, hb⟩
    clear c
    have B5 := B4.trans (hb.mono B4.size)
    have h_xn_5 := h_xn_4.below hb
    have h_xd_5 := h_xd_4.below hb
    have h_x_5 := h_x_4.later hb
    have h_rn_5 := h_rn_4.below hb
    have h_rd_5 := h_rd_4.below hb
    have h_r_5 := h_r_4.later hb
    clear hb B4 h_xn_4 h_xd_4 h_x_4 h_rn_4 h_rd_4 h_r_4
    go_wp2_with fail
    go_ret
    exact ⟨rfl, B5⟩
  have d2 : decide ((6 : Int) < (m_x : Int)) = false := decide_eq_false (by omega)
  by_cases hc : chkV ⟨g_x, xn, xd⟩ = 0
  case neg =>
    have C8 := Lib.hid ((chkV_two _).resolve_left hc)
    clear e1 e2 hc
    go_enter Try.func9, Try.ntmps9
    have hb := below_al w (.cells #[.bool g_x, .slice a_x n_x c_x, .slice b_x m_x d_x] 27)
    have B1 := B0.trans (hb.mono B0.size)
    have h_xn_1 := h_xn_0.below hb
    have h_xd_1 := h_xd_0.below hb
    clear hb B0 h_xn_0 h_xd_0
    have h_x_1 := Has.new w #[.bool g_x, .slice a_x n_x c_x, .slice b_x m_x d_x] 27
    go_wp2_with fail
    generalize (w.alloc (.cells #[.bool g_x, .slice a_x n_x c_x, .slice b_x m_x d_x] 27)) = w1 at *
    have c := qratio_any w1 n i_n
    rw [RN.out] at c
    refine c.mono ?_
    rintro e w2 ⟨a_r, n_r, c_r, b_r, m_r, d_r, rfl, h_rn_2, h_rd_2, hb⟩
    clear c
    have B2 := B1.trans (hb.mono B1.size)
    have h_xn_2 := h_xn_1.below hb
    have h_xd_2 := h_xd_1.below hb
    have h_x_2 := h_x_1.later hb
    clear hb B1 h_xn_1 h_xd_1 h_x_1
    have hb := below_al w2 (.cells #[.bool ((fr N 1000000000)).neg, .slice a_r n_r c_r, .slice b_r m_r d_r] 27)
    have B3 := B2.trans (hb.mono B2.size)
    have h_xn_3 := h_xn_2.below hb
    have h_xd_3 := h_xd_2.below hb
    have h_x_3 := h_x_2.later hb
    have h_rn_3 := h_rn_2.below hb
    have h_rd_3 := h_rd_2.below hb
    clear hb B2 h_xn_2 h_xd_2 h_x_2 h_rn_2 h_rd_2
    have h_r_3 := Has.new w2 #[.bool ((fr N 1000000000)).neg, .slice a_r n_r c_r, .slice b_r m_r d_r] 27
    have k_r_0 := h_r_3.cell 0 _ rfl
    have k_r_1 := h_r_3.cell 1 _ rfl
    have k_r_2 := h_r_3.cell 2 _ rfl
    go_wp2_with first | refine wpList_store_new rfl 27 _ _ rfl atRat _ _ _ rfl rfl rfl rfl (rat_one _ _ _ _ _ _ _) ?_
    clear k_r_0 k_r_1 k_r_2
    generalize (w2.alloc (.cells #[.bool ((fr N 1000000000)).neg, .slice a_r n_r c_r, .slice b_r m_r d_r] 27)) = w3 at *
    have c := bill_any w3 (g := (fr N 1000000000).neg) h_rn_3 h_rd_3
    rw [show (⟨(fr N 1000000000).neg, (fr N 1000000000).num, (fr N 1000000000).den⟩ : QV) = fr N 1000000000 from rfl] at c
    rw [BN.out] at c
    refine c.mono ?_
    rintro e w4 ⟨rfl, hb⟩
    clear c
    have B4 := B3.trans (hb.mono B3.size)
    have h_xn_4 := h_xn_3.below hb
    have h_xd_4 := h_xd_3.below hb
    have h_x_4 := h_x_3.later hb
    have h_rn_4 := h_rn_3.below hb
    have h_rd_4 := h_rd_3.below hb
    have h_r_4 := h_r_3.later hb
    clear hb B3 h_xn_3 h_xd_3 h_x_3 h_rn_3 h_rd_3 h_r_3
    have k_x_0 := h_x_4.cell 0 _ rfl
    have k_x_1 := h_x_4.cell 1 _ rfl
    have k_x_2 := h_x_4.cell 2 _ rfl
    go_wp2_with fail
    clear k_x_0 k_x_1 k_x_2
    have c := refRatCheck_any w4 (neg := g_x) h_xn_4 h_xd_4
    rw [C8.out] at c
    refine c.mono ?_
    rintro e w5 ⟨rfl, hb⟩
    clear c
    have B5 := B4.trans (hb.mono B4.size)
    have h_xn_5 := h_xn_4.below hb
    have h_xd_5 := h_xd_4.below hb
    have h_x_5 := h_x_4.later hb
    have h_rn_5 := h_rn_4.below hb
    have h_rd_5 := h_rd_4.below hb
    have h_r_5 := h_r_4.later hb
    clear hb B4 h_xn_4 h_xd_4 h_x_4 h_rn_4 h_rd_4 h_r_4
    go_wp2_with fail
    have c := wakes_any w5
    refine c.mono ?_
    rintro e w6 ⟨rfl, hb⟩
    clear c
    have B6 := B5.trans (hb.mono B5.size)
    have h_xn_6 := h_xn_5.below hb
    have h_xd_6 := h_xd_5.below hb
    have h_x_6 := h_x_5.later hb
    have h_rn_6 := h_rn_5.below hb
    have h_rd_6 := h_rd_5.below hb
    have h_r_6 := h_r_5.later hb
    clear hb B5 h_xn_5 h_xd_5 h_x_5 h_rn_5 h_rd_5 h_r_5
    go_wp2_with fail
    go_ret
    exact ⟨rfl, B6⟩
  rcases Bool.eq_false_or_eq_true g_x with hg | hg
  ·
    subst hg
    have C0 := Lib.hid hc
    have BX := Lib.hid (show billC ⟨true, xn, xd⟩ = (0, 2) by rw [billC, if_neg (fun h => Bool.noConfusion h.2)])
    clear e1 e2 hc
    go_enter Try.func9, Try.ntmps9
    have hb := below_al w (.cells #[.bool true, .slice a_x n_x c_x, .slice b_x m_x d_x] 27)
    have B1 := B0.trans (hb.mono B0.size)
    have h_xn_1 := h_xn_0.below hb
    have h_xd_1 := h_xd_0.below hb
    clear hb B0 h_xn_0 h_xd_0
    have h_x_1 := Has.new w #[.bool true, .slice a_x n_x c_x, .slice b_x m_x d_x] 27
    go_wp2_with fail
    generalize (w.alloc (.cells #[.bool true, .slice a_x n_x c_x, .slice b_x m_x d_x] 27)) = w1 at *
    have c := qratio_any w1 n i_n
    rw [RN.out] at c
    refine c.mono ?_
    rintro e w2 ⟨a_r, n_r, c_r, b_r, m_r, d_r, rfl, h_rn_2, h_rd_2, hb⟩
    clear c
    have B2 := B1.trans (hb.mono B1.size)
    have h_xn_2 := h_xn_1.below hb
    have h_xd_2 := h_xd_1.below hb
    have h_x_2 := h_x_1.later hb
    clear hb B1 h_xn_1 h_xd_1 h_x_1
    have hb := below_al w2 (.cells #[.bool ((fr N 1000000000)).neg, .slice a_r n_r c_r, .slice b_r m_r d_r] 27)
    have B3 := B2.trans (hb.mono B2.size)
    have h_xn_3 := h_xn_2.below hb
    have h_xd_3 := h_xd_2.below hb
    have h_x_3 := h_x_2.later hb
    have h_rn_3 := h_rn_2.below hb
    have h_rd_3 := h_rd_2.below hb
    clear hb B2 h_xn_2 h_xd_2 h_x_2 h_rn_2 h_rd_2
    have h_r_3 := Has.new w2 #[.bool ((fr N 1000000000)).neg, .slice a_r n_r c_r, .slice b_r m_r d_r] 27
    have k_r_0 := h_r_3.cell 0 _ rfl
    have k_r_1 := h_r_3.cell 1 _ rfl
    have k_r_2 := h_r_3.cell 2 _ rfl
    go_wp2_with first | refine wpList_store_new rfl 27 _ _ rfl atRat _ _ _ rfl rfl rfl rfl (rat_one _ _ _ _ _ _ _) ?_
    clear k_r_0 k_r_1 k_r_2
    generalize (w2.alloc (.cells #[.bool ((fr N 1000000000)).neg, .slice a_r n_r c_r, .slice b_r m_r d_r] 27)) = w3 at *
    have c := bill_any w3 (g := (fr N 1000000000).neg) h_rn_3 h_rd_3
    rw [show (⟨(fr N 1000000000).neg, (fr N 1000000000).num, (fr N 1000000000).den⟩ : QV) = fr N 1000000000 from rfl] at c
    rw [BN.out] at c
    refine c.mono ?_
    rintro e w4 ⟨rfl, hb⟩
    clear c
    have B4 := B3.trans (hb.mono B3.size)
    have h_xn_4 := h_xn_3.below hb
    have h_xd_4 := h_xd_3.below hb
    have h_x_4 := h_x_3.later hb
    have h_rn_4 := h_rn_3.below hb
    have h_rd_4 := h_rd_3.below hb
    have h_r_4 := h_r_3.later hb
    clear hb B3 h_xn_3 h_xd_3 h_x_3 h_rn_3 h_rd_3 h_r_3
    have k_x_0 := h_x_4.cell 0 _ rfl
    have k_x_1 := h_x_4.cell 1 _ rfl
    have k_x_2 := h_x_4.cell 2 _ rfl
    go_wp2_with fail
    clear k_x_0 k_x_1 k_x_2
    have c := refRatCheck_any w4 (neg := true) h_xn_4 h_xd_4
    rw [C0.out] at c
    refine c.mono ?_
    rintro e w5 ⟨rfl, hb⟩
    clear c
    have B5 := B4.trans (hb.mono B4.size)
    have h_xn_5 := h_xn_4.below hb
    have h_xd_5 := h_xd_4.below hb
    have h_x_5 := h_x_4.later hb
    have h_rn_5 := h_rn_4.below hb
    have h_rd_5 := h_rd_4.below hb
    have h_r_5 := h_r_4.later hb
    clear hb B4 h_xn_4 h_xd_4 h_x_4 h_rn_4 h_rd_4 h_r_4
    have k_x_0 := h_x_5.cell 0 _ rfl
    have k_x_1 := h_x_5.cell 1 _ rfl
    have k_x_2 := h_x_5.cell 2 _ rfl
    go_wp2_with fail
    clear k_x_0 k_x_1 k_x_2
    have c := bill_any w5 (g := true) h_xn_5 h_xd_5
    rw [BX.out] at c
    refine c.mono ?_
    rintro e w6 ⟨rfl, hb⟩
    clear c
    have B6 := B5.trans (hb.mono B5.size)
    have h_xn_6 := h_xn_5.below hb
    have h_xd_6 := h_xd_5.below hb
    have h_x_6 := h_x_5.later hb
    have h_rn_6 := h_rn_5.below hb
    have h_rd_6 := h_rd_5.below hb
    have h_r_6 := h_r_5.later hb
    clear hb B5 h_xn_5 h_xd_5 h_x_5 h_rn_5 h_rd_5 h_r_5
    have k_x_0 := h_x_6.cell 0 _ rfl
    have k_x_1 := h_x_6.cell 1 _ rfl
    have k_x_2 := h_x_6.cell 2 _ rfl
    go_wp2_with fail
    clear k_x_0 k_x_1 k_x_2
    have c := wakes_any w6
    refine c.mono ?_
    rintro e w7 ⟨rfl, hb⟩
    clear c
    have B7 := B6.trans (hb.mono B6.size)
    have h_xn_7 := h_xn_6.below hb
    have h_xd_7 := h_xd_6.below hb
    have h_x_7 := h_x_6.later hb
    have h_rn_7 := h_rn_6.below hb
    have h_rd_7 := h_rd_6.below hb
    have h_r_7 := h_r_6.later hb
    clear hb B6 h_xn_6 h_xd_6 h_x_6 h_rn_6 h_rd_6 h_r_6
    go_wp2_with fail
    go_ret
    exact ⟨rfl, B7⟩
  have L1 := h_xn_0.len
  have L2 := h_xd_0.len
  obtain ⟨A, B, rfl, rfl, rfl, hB, bA, bB⟩ := back_law h_xn_0.bd h_xd_0.bd hc hg (by omega) (by omega)
  have C0 := Lib.hid (show chkV (fr A B) = 0 from hc)
  have A48 : A < pw 48 := Nat.lt_of_lt_of_le bA (pw_le (by decide))
  have B48 : B < pw 48 := Nat.lt_of_lt_of_le bB (pw_le (by decide))
  have AU : A * 1000000000 < pw 48 := Nat.lt_of_lt_of_le (mul_lt_pw bA (show 1000000000 < pw 1 by decide)) (pw_le (by decide))
  obtain ⟨t, ht⟩ : ∃ t, t = A * 1000000000 / B := ⟨_, rfl⟩
  have BI := fr_bill hB A48 B48
  rw [← ht] at BI
  have M1 := Lib.hid (show mulV (fr A B) (ofC 1000000000 1).1 = (fr (A * 1000000000) B, 0) by
    rw [whole_fr (n := 1000000000) (N := 1000000000) rfl, fr_mul hB (by decide) A48 B48 (small48 (by decide)) (small48 (by decide)), Nat.mul_one])
  have dm := Nat.div_add_mod (A * 1000000000) B
  have ml := Nat.mod_lt (A * 1000000000) (Nat.pos_of_ne_zero hB)
  rw [← ht] at dm
  obtain ⟨z, hz⟩ : ∃ z, z = A * 1000000000 := ⟨_, rfl⟩
  rw [← hz] at dm ml M1 AU
  obtain ⟨t1, h1, i1, -, -⟩ := fr_cmp (A := z) (B := B) (C := 1000000000000001) (D := 1) hB (by decide) AU B48 (small48 (by decide)) (small48 (by decide))
  have C1 := Lib.hid (show cmpV (fr z B) (ofC 1000000000000001 1).1 = (t1, 0) by rw [whole_fr (n := 1000000000000001) (N := 1000000000000001) rfl]; exact h1)
  rw [Nat.mul_one] at i1
  clear h1 hc hg L1 L2 e1 e2 bA bB
  by_cases ok : t ≤ 1000000000000000
  case neg =>
    have BX := Lib.hid (show billC (fr A B) = (0, 30) by rw [BI, tellN, if_neg ok])
    have dg : decide (0 ≤ t1) = true := decide_eq_true (by
      have h : ¬ t1 < 0 := fun h => by
        have h2 := i1.1 h
        have h3 : 1000000000000001 * B ≤ t * B := Nat.mul_le_mul_right _ (by omega)
        rw [Nat.mul_comm t] at h3
        omega
      omega)
    clear BI dm ml ok i1 hz ht hB A48 B48 AU
    go_enter Try.func9, Try.ntmps9
    have hb := below_al w (.cells #[.bool (fr A B).neg, .slice a_x n_x c_x, .slice b_x m_x d_x] 27)
    have B1 := B0.trans (hb.mono B0.size)
    have h_xn_1 := h_xn_0.below hb
    have h_xd_1 := h_xd_0.below hb
    clear hb B0 h_xn_0 h_xd_0
    have h_x_1 := Has.new w #[.bool (fr A B).neg, .slice a_x n_x c_x, .slice b_x m_x d_x] 27
    go_wp2_with fail
    generalize (w.alloc (.cells #[.bool (fr A B).neg, .slice a_x n_x c_x, .slice b_x m_x d_x] 27)) = w1 at *
    have c := qratio_any w1 n i_n
    rw [RN.out] at c
    refine c.mono ?_
    rintro e w2 ⟨a_r, n_r, c_r, b_r, m_r, d_r, rfl, h_rn_2, h_rd_2, hb⟩
    clear c
    have B2 := B1.trans (hb.mono B1.size)
    have h_xn_2 := h_xn_1.below hb
    have h_xd_2 := h_xd_1.below hb
    have h_x_2 := h_x_1.later hb
    clear hb B1 h_xn_1 h_xd_1 h_x_1
    have hb := below_al w2 (.cells #[.bool ((fr N 1000000000)).neg, .slice a_r n_r c_r, .slice b_r m_r d_r] 27)
    have B3 := B2.trans (hb.mono B2.size)
    have h_xn_3 := h_xn_2.below hb
    have h_xd_3 := h_xd_2.below hb
    have h_x_3 := h_x_2.later hb
    have h_rn_3 := h_rn_2.below hb
    have h_rd_3 := h_rd_2.below hb
    clear hb B2 h_xn_2 h_xd_2 h_x_2 h_rn_2 h_rd_2
    have h_r_3 := Has.new w2 #[.bool ((fr N 1000000000)).neg, .slice a_r n_r c_r, .slice b_r m_r d_r] 27
    have k_r_0 := h_r_3.cell 0 _ rfl
    have k_r_1 := h_r_3.cell 1 _ rfl
    have k_r_2 := h_r_3.cell 2 _ rfl
    go_wp2_with first | refine wpList_store_new rfl 27 _ _ rfl atRat _ _ _ rfl rfl rfl rfl (rat_one _ _ _ _ _ _ _) ?_
    clear k_r_0 k_r_1 k_r_2
    generalize (w2.alloc (.cells #[.bool ((fr N 1000000000)).neg, .slice a_r n_r c_r, .slice b_r m_r d_r] 27)) = w3 at *
    have c := bill_any w3 (g := (fr N 1000000000).neg) h_rn_3 h_rd_3
    rw [show (⟨(fr N 1000000000).neg, (fr N 1000000000).num, (fr N 1000000000).den⟩ : QV) = fr N 1000000000 from rfl] at c
    rw [BN.out] at c
    refine c.mono ?_
    rintro e w4 ⟨rfl, hb⟩
    clear c
    have B4 := B3.trans (hb.mono B3.size)
    have h_xn_4 := h_xn_3.below hb
    have h_xd_4 := h_xd_3.below hb
    have h_x_4 := h_x_3.later hb
    have h_rn_4 := h_rn_3.below hb
    have h_rd_4 := h_rd_3.below hb
    have h_r_4 := h_r_3.later hb
    clear hb B3 h_xn_3 h_xd_3 h_x_3 h_rn_3 h_rd_3 h_r_3
    have k_x_0 := h_x_4.cell 0 _ rfl
    have k_x_1 := h_x_4.cell 1 _ rfl
    have k_x_2 := h_x_4.cell 2 _ rfl
    go_wp2_with fail
    clear k_x_0 k_x_1 k_x_2
    have c := refRatCheck_any w4 (neg := (fr A B).neg) h_xn_4 h_xd_4
    rw [show (⟨(fr A B).neg, (fr A B).num, (fr A B).den⟩ : QV) = fr A B from rfl] at c
    rw [C0.out] at c
    refine c.mono ?_
    rintro e w5 ⟨rfl, hb⟩
    clear c
    have B5 := B4.trans (hb.mono B4.size)
    have h_xn_5 := h_xn_4.below hb
    have h_xd_5 := h_xd_4.below hb
    have h_x_5 := h_x_4.later hb
    have h_rn_5 := h_rn_4.below hb
    have h_rd_5 := h_rd_4.below hb
    have h_r_5 := h_r_4.later hb
    clear hb B4 h_xn_4 h_xd_4 h_x_4 h_rn_4 h_rd_4 h_r_4
    have k_x_0 := h_x_5.cell 0 _ rfl
    have k_x_1 := h_x_5.cell 1 _ rfl
    have k_x_2 := h_x_5.cell 2 _ rfl
    go_wp2_with fail
    clear k_x_0 k_x_1 k_x_2
    have c := bill_any w5 (g := (fr A B).neg) h_xn_5 h_xd_5
    rw [show (⟨(fr A B).neg, (fr A B).num, (fr A B).den⟩ : QV) = fr A B from rfl] at c
    rw [BX.out] at c
    refine c.mono ?_
    rintro e w6 ⟨rfl, hb⟩
    clear c
    have B6 := B5.trans (hb.mono B5.size)
    have h_xn_6 := h_xn_5.below hb
    have h_xd_6 := h_xd_5.below hb
    have h_x_6 := h_x_5.later hb
    have h_rn_6 := h_rn_5.below hb
    have h_rd_6 := h_rd_5.below hb
    have h_r_6 := h_r_5.later hb
    clear hb B5 h_xn_5 h_xd_5 h_x_5 h_rn_5 h_rd_5 h_r_5
    have ng : (fr A B).neg = false := rfl
    have k_x_0 := h_x_6.cell 0 _ rfl
    have k_x_1 := h_x_6.cell 1 _ rfl
    have k_x_2 := h_x_6.cell 2 _ rfl
    go_upto_region 12 with fail
    clear k_x_0 k_x_1 k_x_2
    go_cut [11, 12] from 89 to 94 (fun s1 s2 wx => ∃ a_y n_y c_y b_y m_y d_y g_y, s1 = Value.pointer (some ⟨g_y, 0, none⟩) ∧ s2 = Value.int .i64 0 ∧ PRow 27 w6 wx g_y #[.bool (fr z B).neg, .slice a_y n_y c_y, .slice b_y m_y d_y] ∧ Rd .u32 wx a_y n_y c_y (fr z B).num ∧ Rd .u32 wx b_y m_y d_y (fr z B).den)
    case first =>
      have k0 := h_x_6.cell 0 _ rfl
      have k1 := h_x_6.cell 1 _ rfl
      have k2 := h_x_6.cell 2 _ rfl
      have kl := h_x_6.lt
      have D0 := (Below.refl w6.heap.size w6).drew
      refine wp_region_held_drew (S := (fun w' => Below w6.heap.size w6 w' ∧ w'.cell? ⟨w.heap.size, 0, none⟩ = some (.bool (fr A B).neg) ∧ w'.cell? ⟨w.heap.size, 1, none⟩ = some (.slice a_x n_x c_x) ∧ w'.cell? ⟨w.heap.size, 2, none⟩ = some (.slice b_x m_x d_x))) (by kernel_rfl) ?_ (fun hHeld => ?_)
      · exact ⟨D0, cell_later D0 k0 kl, cell_later D0 k1 kl, cell_later D0 k2 kl⟩
      clear D0
      refine wpAnyH_take (i := 0) (oi := ?oir1_0) (v := ?vr1_0) ?hir1_0 (by kernel_rfl) (by kernel_rfl) (by kernel_rfl) ?hqr1_0 ?hyr1_0 (by assumption) ?restr1_0
      case hir1_0 => simp only [List.getElem?_toArray, List.getElem?_cons_succ, List.getElem?_cons_zero]; rfl
      case hqr1_0 => exact fun _ _ _ h => h
      case hyr1_0 => (refine Or.inl ⟨by rfl, ?_⟩; intro w hSw; (try dsimp only at hSw); go_simp; all_goals with_reducible rfl)
      try simp only [Act.put, List.setIfInBounds_toArray, List.set_cons_zero, List.set_cons_succ]
      refine wpAnyH_ready (rs := [1, 6]) (by kernel_rfl) (by simp) ?_
      refine (AllReadyH.cons (o := ?ob16_1) ?hob16_1 (fun K hK => ?kb16_1) (AllReadyH.cons (o := ?ob16_6) ?hob16_6 (fun K hK => ?kb16_6) AllReadyH.nil))
      case hob16_1 => simp only [List.getElem?_toArray, List.getElem?_cons_succ, List.getElem?_cons_zero]; rfl
      case hob16_6 => simp only [List.getElem?_toArray, List.getElem?_cons_succ, List.getElem?_cons_zero]; rfl
      case kb16_1 =>
        go_simp
        refine (whole_any w6.drew 1000000000 (by decide) (by decide)).mono ?_
        rintro e2 wa ⟨a2, n2, c2', b2, m2, d2, rfl, y1, y2, hb2⟩
        have BW := hHeld.1.trans (hb2.mono hHeld.1.size)
        go_wp2_with fail
        refine hK.out _ _ ?_ (fun hHeld => ?_)
        · exact keep_one hHeld hb2 kl
        clear hK K
        try simp only [Act.put, List.setIfInBounds_toArray, List.set_cons_zero, List.set_cons_succ]
        refine wpAnyH_ready (rs := [2, 6]) (by kernel_rfl) (by simp) ?_
        refine (AllReadyH.cons (o := ?ob10_2) ?hob10_2 (fun K hK => ?kb10_2) (AllReadyH.cons (o := ?ob10_6) ?hob10_6 (fun K hK => ?kb10_6) AllReadyH.nil))
        case hob10_2 => simp only [List.getElem?_toArray, List.getElem?_cons_succ, List.getElem?_cons_zero]; rfl
        case hob10_6 => simp only [List.getElem?_toArray, List.getElem?_cons_succ, List.getElem?_cons_zero]; rfl
        case kb10_2 =>
          go_simp
          have cc := ratMul_any wa (g1 := (fr A B).neg) (g2 := (ofC 1000000000 1).1.neg) (h_xn_6.below BW) (h_xd_6.below BW) y1 y2
          rw [show (⟨(fr A B).neg, (fr A B).num, (fr A B).den⟩ : QV) = fr A B from rfl, show (⟨(ofC 1000000000 1).1.neg, (ofC 1000000000 1).1.num, (ofC 1000000000 1).1.den⟩ : QV) = (ofC 1000000000 1).1 from rfl, M1.out] at cc
          refine cc.mono ?_
          rintro e2 wb ⟨a_y, n_y, c_y, b_y, m_y, d_y, rfl, z1, z2, hb3⟩
          clear cc
          have BW := BW.trans (hb3.mono BW.size)
          go_wp2_with fail
          refine hK.out _ _ ?_ (fun hHeld => ?_)
          · exact keep_one hHeld hb3 kl
          clear hK K
          try simp only [Act.put, List.setIfInBounds_toArray, List.set_cons_zero, List.set_cons_succ]
          refine wpAnyH_take (i := 3) (oi := ?oir2_3) (v := ?vr2_3) ?hir2_3 (by kernel_rfl) (by kernel_rfl) (by kernel_rfl) ?hqr2_3 ?hyr2_3 (by assumption) ?restr2_3
          case hir2_3 => simp only [List.getElem?_toArray, List.getElem?_cons_succ, List.getElem?_cons_zero]; rfl
          case hqr2_3 => exact fun _ _ _ h => h
          case hyr2_3 => (refine Or.inl ⟨by rfl, ?_⟩; intro w hSw; (try dsimp only at hSw); go_simp; all_goals with_reducible rfl)
          try simp only [Act.put, List.setIfInBounds_toArray, List.set_cons_zero, List.set_cons_succ]
          refine wpAnyH_take (i := 4) (oi := ?oir2_4) (v := ?vr2_4) ?hir2_4 (by kernel_rfl) (by kernel_rfl) (by kernel_rfl) ?hqr2_4 ?hyr2_4 (by assumption) ?restr2_4
          case hir2_4 => simp only [List.getElem?_toArray, List.getElem?_cons_succ, List.getElem?_cons_zero]; rfl
          case hqr2_4 => exact fun _ _ _ h => h
          case hyr2_4 => (refine Or.inl ⟨by rfl, ?_⟩; intro w hSw; (try dsimp only at hSw); go_simp; all_goals with_reducible rfl)
          try simp only [Act.put, List.setIfInBounds_toArray, List.set_cons_zero, List.set_cons_succ]
          refine wpAnyH_take (i := 5) (oi := ?oir2_5) (v := ?vr2_5) ?hir2_5 (by kernel_rfl) (by kernel_rfl) (by kernel_rfl) ?hqr2_5 ?hyr2_5 (by assumption) ?restr2_5
          case hir2_5 => simp only [List.getElem?_toArray, List.getElem?_cons_succ, List.getElem?_cons_zero]; rfl
          case hqr2_5 => exact fun _ _ _ h => h
          case hyr2_5 => (refine Or.inl ⟨by rfl, ?_⟩; intro w hSw; (try dsimp only at hSw); go_simp; all_goals with_reducible rfl)
          try simp only [Act.put, List.setIfInBounds_toArray, List.set_cons_zero, List.set_cons_succ]
          refine wpAnyH_ready (rs := [6]) (by kernel_rfl) (by simp) ?_
          refine (AllReadyH.cons (o := ?ob5_6) ?hob5_6 (fun K hK => ?kb5_6) AllReadyH.nil)
          case hob5_6 => simp only [List.getElem?_toArray, List.getElem?_cons_succ, List.getElem?_cons_zero]; rfl
          case kb5_6 =>
            go_simp
            have hSZ := hHeld.1.size
            refine hK.out _ _ ?_ (fun hHeld => ?_)
            · exact keep_one hHeld (below_al _ _) kl
            clear hK K
            try simp only [Act.put, List.setIfInBounds_toArray, List.set_cons_zero, List.set_cons_succ]
            have RA := (PRow.new 27 wb #[.bool false, .slice none 0 0, .slice none 0 0]).rebase hHeld.1 (by first | exact Nat.le_refl _ | exact hSZ)
            have z1 := z1.below (below_al wb (.cells #[.bool false, .slice none 0 0, .slice none 0 0] 27))
            have z2 := z2.below (below_al wb (.cells #[.bool false, .slice none 0 0, .slice none 0 0] 27))
            refine wpAnyH_ready (rs := [7]) (by kernel_rfl) (by simp) ?_
            refine (AllReadyH.cons (o := ?ob4_7) ?hob4_7 (fun K hK => ?kb4_7) AllReadyH.nil)
            case hob4_7 => simp only [List.getElem?_toArray, List.getElem?_cons_succ, List.getElem?_cons_zero]; rfl
            case kb4_7 =>
              rw [if_pos (by rfl)]
              refine op_store_whole 27 _ _ rfl atRat _ _ _ RA.row rfl rfl rfl rfl (rat_one _ _ _ _ _ _ _) ?_
              refine hK.out _ _ ?_ (fun hHeld => ?_)
              · exact keep_one_row hHeld RA.lo kl
              clear hK K
              try simp only [Act.put, List.setIfInBounds_toArray, List.set_cons_zero, List.set_cons_succ]
              refine wpAnyH_take (i := 8) (oi := ?oir3_8) (v := ?vr3_8) ?hir3_8 (by kernel_rfl) (by kernel_rfl) (by kernel_rfl) ?hqr3_8 ?hyr3_8 (by assumption) ?restr3_8
              case hir3_8 => simp only [List.getElem?_toArray, List.getElem?_cons_succ, List.getElem?_cons_zero]; rfl
              case hqr3_8 => exact fun _ _ _ h => h
              case hyr3_8 => (refine Or.inl ⟨by rfl, ?_⟩; intro w hSw; (try dsimp only at hSw); go_simp; all_goals with_reducible rfl)
              try simp only [Act.put, List.setIfInBounds_toArray, List.set_cons_zero, List.set_cons_succ]
              refine wpAnyH_done (by kernel_rfl) ?_ _
              go_wp2_with fail
              go_meet
              exact ⟨a_y, n_y, c_y, b_y, m_y, d_y, _, rfl, rfl, RA.put _, rd_rowset z1 RA.row (rat_noint _ _ _ _ _ _ _) _, rd_rowset z2 RA.row (rat_noint _ _ _ _ _ _ _) _⟩
        case kb10_6 =>
          go_simp
          have hSZ := hHeld.1.size
          refine hK.out _ _ ?_ (fun hHeld => ?_)
          · exact keep_one hHeld (below_al _ _) kl
          clear hK K
          try simp only [Act.put, List.setIfInBounds_toArray, List.set_cons_zero, List.set_cons_succ]
          have RA := (PRow.new 27 wa #[.bool false, .slice none 0 0, .slice none 0 0]).rebase hHeld.1 (by first | exact Nat.le_refl _ | exact hSZ)
          have y1 := y1.below (below_al wa (.cells #[.bool false, .slice none 0 0, .slice none 0 0] 27))
          have y2 := y2.below (below_al wa (.cells #[.bool false, .slice none 0 0, .slice none 0 0] 27))
          have BW := BW.trans ((below_al wa (.cells #[.bool false, .slice none 0 0, .slice none 0 0] 27)).mono BW.size)
          refine wpAnyH_ready (rs := [2]) (by kernel_rfl) (by simp) ?_
          refine (AllReadyH.cons (o := ?ob9_2) ?hob9_2 (fun K hK => ?kb9_2) AllReadyH.nil)
          case hob9_2 => simp only [List.getElem?_toArray, List.getElem?_cons_succ, List.getElem?_cons_zero]; rfl
          case kb9_2 =>
            go_simp
            have cc := ratMul_any _ (g1 := (fr A B).neg) (g2 := (ofC 1000000000 1).1.neg) (h_xn_6.below BW) (h_xd_6.below BW) y1 y2
            rw [show (⟨(fr A B).neg, (fr A B).num, (fr A B).den⟩ : QV) = fr A B from rfl, show (⟨(ofC 1000000000 1).1.neg, (ofC 1000000000 1).1.num, (ofC 1000000000 1).1.den⟩ : QV) = (ofC 1000000000 1).1 from rfl, M1.out] at cc
            refine cc.mono ?_
            rintro e2 wb ⟨a_y, n_y, c_y, b_y, m_y, d_y, rfl, z1, z2, hb3⟩
            clear cc
            have BW := BW.trans (hb3.mono BW.size)
            go_wp2_with fail
            refine hK.out _ _ ?_ (fun hHeld => ?_)
            · exact keep_one hHeld hb3 kl
            clear hK K
            try simp only [Act.put, List.setIfInBounds_toArray, List.set_cons_zero, List.set_cons_succ]
            have RA := RA.later hb3
            refine wpAnyH_take (i := 3) (oi := ?oir6_3) (v := ?vr6_3) ?hir6_3 (by kernel_rfl) (by kernel_rfl) (by kernel_rfl) ?hqr6_3 ?hyr6_3 (by assumption) ?restr6_3
            case hir6_3 => simp only [List.getElem?_toArray, List.getElem?_cons_succ, List.getElem?_cons_zero]; rfl
            case hqr6_3 => exact fun _ _ _ h => h
            case hyr6_3 => (refine Or.inl ⟨by rfl, ?_⟩; intro w hSw; (try dsimp only at hSw); go_simp; all_goals with_reducible rfl)
            try simp only [Act.put, List.setIfInBounds_toArray, List.set_cons_zero, List.set_cons_succ]
            refine wpAnyH_take (i := 4) (oi := ?oir6_4) (v := ?vr6_4) ?hir6_4 (by kernel_rfl) (by kernel_rfl) (by kernel_rfl) ?hqr6_4 ?hyr6_4 (by assumption) ?restr6_4
            case hir6_4 => simp only [List.getElem?_toArray, List.getElem?_cons_succ, List.getElem?_cons_zero]; rfl
            case hqr6_4 => exact fun _ _ _ h => h
            case hyr6_4 => (refine Or.inl ⟨by rfl, ?_⟩; intro w hSw; (try dsimp only at hSw); go_simp; all_goals with_reducible rfl)
            try simp only [Act.put, List.setIfInBounds_toArray, List.set_cons_zero, List.set_cons_succ]
            refine wpAnyH_take (i := 5) (oi := ?oir6_5) (v := ?vr6_5) ?hir6_5 (by kernel_rfl) (by kernel_rfl) (by kernel_rfl) ?hqr6_5 ?hyr6_5 (by assumption) ?restr6_5
            case hir6_5 => simp only [List.getElem?_toArray, List.getElem?_cons_succ, List.getElem?_cons_zero]; rfl
            case hqr6_5 => exact fun _ _ _ h => h
            case hyr6_5 => (refine Or.inl ⟨by rfl, ?_⟩; intro w hSw; (try dsimp only at hSw); go_simp; all_goals with_reducible rfl)
            try simp only [Act.put, List.setIfInBounds_toArray, List.set_cons_zero, List.set_cons_succ]
            refine wpAnyH_ready (rs := [7]) (by kernel_rfl) (by simp) ?_
            refine (AllReadyH.cons (o := ?ob8_7) ?hob8_7 (fun K hK => ?kb8_7) AllReadyH.nil)
            case hob8_7 => simp only [List.getElem?_toArray, List.getElem?_cons_succ, List.getElem?_cons_zero]; rfl
            case kb8_7 =>
              rw [if_pos (by rfl)]
              refine op_store_whole 27 _ _ rfl atRat _ _ _ RA.row rfl rfl rfl rfl (rat_one _ _ _ _ _ _ _) ?_
              refine hK.out _ _ ?_ (fun hHeld => ?_)
              · exact keep_one_row hHeld RA.lo kl
              clear hK K
              try simp only [Act.put, List.setIfInBounds_toArray, List.set_cons_zero, List.set_cons_succ]
              refine wpAnyH_take (i := 8) (oi := ?oir7_8) (v := ?vr7_8) ?hir7_8 (by kernel_rfl) (by kernel_rfl) (by kernel_rfl) ?hqr7_8 ?hyr7_8 (by assumption) ?restr7_8
              case hir7_8 => simp only [List.getElem?_toArray, List.getElem?_cons_succ, List.getElem?_cons_zero]; rfl
              case hqr7_8 => exact fun _ _ _ h => h
              case hyr7_8 => (refine Or.inl ⟨by rfl, ?_⟩; intro w hSw; (try dsimp only at hSw); go_simp; all_goals with_reducible rfl)
              try simp only [Act.put, List.setIfInBounds_toArray, List.set_cons_zero, List.set_cons_succ]
              refine wpAnyH_done (by kernel_rfl) ?_ _
              go_wp2_with fail
              go_meet
              exact ⟨a_y, n_y, c_y, b_y, m_y, d_y, _, rfl, rfl, RA.put _, rd_rowset z1 RA.row (rat_noint _ _ _ _ _ _ _) _, rd_rowset z2 RA.row (rat_noint _ _ _ _ _ _ _) _⟩
      case kb16_6 =>
        go_simp
        have hSZ := hHeld.1.size
        refine hK.out _ _ ?_ (fun hHeld => ?_)
        · exact keep_one hHeld (below_al _ _) kl
        clear hK K
        try simp only [Act.put, List.setIfInBounds_toArray, List.set_cons_zero, List.set_cons_succ]
        have RA := (PRow.new 27 w6.drew #[.bool false, .slice none 0 0, .slice none 0 0]).rebase hHeld.1 (by first | exact Nat.le_refl _ | exact hSZ)
        refine wpAnyH_ready (rs := [1]) (by kernel_rfl) (by simp) ?_
        refine (AllReadyH.cons (o := ?ob15_1) ?hob15_1 (fun K hK => ?kb15_1) AllReadyH.nil)
        case hob15_1 => simp only [List.getElem?_toArray, List.getElem?_cons_succ, List.getElem?_cons_zero]; rfl
        case kb15_1 =>
          go_simp
          refine (whole_any _ 1000000000 (by decide) (by decide)).mono ?_
          rintro e2 wa ⟨a2, n2, c2', b2, m2, d2, rfl, y1, y2, hb2⟩
          have BW := hHeld.1.trans (hb2.mono hHeld.1.size)
          go_wp2_with fail
          refine hK.out _ _ ?_ (fun hHeld => ?_)
          · exact keep_one hHeld hb2 kl
          clear hK K
          try simp only [Act.put, List.setIfInBounds_toArray, List.set_cons_zero, List.set_cons_succ]
          have RA := RA.later hb2
          refine wpAnyH_ready (rs := [2]) (by kernel_rfl) (by simp) ?_
          refine (AllReadyH.cons (o := ?ob14_2) ?hob14_2 (fun K hK => ?kb14_2) AllReadyH.nil)
          case hob14_2 => simp only [List.getElem?_toArray, List.getElem?_cons_succ, List.getElem?_cons_zero]; rfl
          case kb14_2 =>
            go_simp
            have cc := ratMul_any wa (g1 := (fr A B).neg) (g2 := (ofC 1000000000 1).1.neg) (h_xn_6.below BW) (h_xd_6.below BW) y1 y2
            rw [show (⟨(fr A B).neg, (fr A B).num, (fr A B).den⟩ : QV) = fr A B from rfl, show (⟨(ofC 1000000000 1).1.neg, (ofC 1000000000 1).1.num, (ofC 1000000000 1).1.den⟩ : QV) = (ofC 1000000000 1).1 from rfl, M1.out] at cc
            refine cc.mono ?_
            rintro e2 wb ⟨a_y, n_y, c_y, b_y, m_y, d_y, rfl, z1, z2, hb3⟩
            clear cc
            have BW := BW.trans (hb3.mono BW.size)
            go_wp2_with fail
            refine hK.out _ _ ?_ (fun hHeld => ?_)
            · exact keep_one hHeld hb3 kl
            clear hK K
            try simp only [Act.put, List.setIfInBounds_toArray, List.set_cons_zero, List.set_cons_succ]
            have RA := RA.later hb3
            refine wpAnyH_take (i := 3) (oi := ?oir11_3) (v := ?vr11_3) ?hir11_3 (by kernel_rfl) (by kernel_rfl) (by kernel_rfl) ?hqr11_3 ?hyr11_3 (by assumption) ?restr11_3
            case hir11_3 => simp only [List.getElem?_toArray, List.getElem?_cons_succ, List.getElem?_cons_zero]; rfl
            case hqr11_3 => exact fun _ _ _ h => h
            case hyr11_3 => (refine Or.inl ⟨by rfl, ?_⟩; intro w hSw; (try dsimp only at hSw); go_simp; all_goals with_reducible rfl)
            try simp only [Act.put, List.setIfInBounds_toArray, List.set_cons_zero, List.set_cons_succ]
            refine wpAnyH_take (i := 4) (oi := ?oir11_4) (v := ?vr11_4) ?hir11_4 (by kernel_rfl) (by kernel_rfl) (by kernel_rfl) ?hqr11_4 ?hyr11_4 (by assumption) ?restr11_4
            case hir11_4 => simp only [List.getElem?_toArray, List.getElem?_cons_succ, List.getElem?_cons_zero]; rfl
            case hqr11_4 => exact fun _ _ _ h => h
            case hyr11_4 => (refine Or.inl ⟨by rfl, ?_⟩; intro w hSw; (try dsimp only at hSw); go_simp; all_goals with_reducible rfl)
            try simp only [Act.put, List.setIfInBounds_toArray, List.set_cons_zero, List.set_cons_succ]
            refine wpAnyH_take (i := 5) (oi := ?oir11_5) (v := ?vr11_5) ?hir11_5 (by kernel_rfl) (by kernel_rfl) (by kernel_rfl) ?hqr11_5 ?hyr11_5 (by assumption) ?restr11_5
            case hir11_5 => simp only [List.getElem?_toArray, List.getElem?_cons_succ, List.getElem?_cons_zero]; rfl
            case hqr11_5 => exact fun _ _ _ h => h
            case hyr11_5 => (refine Or.inl ⟨by rfl, ?_⟩; intro w hSw; (try dsimp only at hSw); go_simp; all_goals with_reducible rfl)
            try simp only [Act.put, List.setIfInBounds_toArray, List.set_cons_zero, List.set_cons_succ]
            refine wpAnyH_ready (rs := [7]) (by kernel_rfl) (by simp) ?_
            refine (AllReadyH.cons (o := ?ob13_7) ?hob13_7 (fun K hK => ?kb13_7) AllReadyH.nil)
            case hob13_7 => simp only [List.getElem?_toArray, List.getElem?_cons_succ, List.getElem?_cons_zero]; rfl
            case kb13_7 =>
              rw [if_pos (by rfl)]
              refine op_store_whole 27 _ _ rfl atRat _ _ _ RA.row rfl rfl rfl rfl (rat_one _ _ _ _ _ _ _) ?_
              refine hK.out _ _ ?_ (fun hHeld => ?_)
              · exact keep_one_row hHeld RA.lo kl
              clear hK K
              try simp only [Act.put, List.setIfInBounds_toArray, List.set_cons_zero, List.set_cons_succ]
              refine wpAnyH_take (i := 8) (oi := ?oir12_8) (v := ?vr12_8) ?hir12_8 (by kernel_rfl) (by kernel_rfl) (by kernel_rfl) ?hqr12_8 ?hyr12_8 (by assumption) ?restr12_8
              case hir12_8 => simp only [List.getElem?_toArray, List.getElem?_cons_succ, List.getElem?_cons_zero]; rfl
              case hqr12_8 => exact fun _ _ _ h => h
              case hyr12_8 => (refine Or.inl ⟨by rfl, ?_⟩; intro w hSw; (try dsimp only at hSw); go_simp; all_goals with_reducible rfl)
              try simp only [Act.put, List.setIfInBounds_toArray, List.set_cons_zero, List.set_cons_succ]
              refine wpAnyH_done (by kernel_rfl) ?_ _
              go_wp2_with fail
              go_meet
              exact ⟨a_y, n_y, c_y, b_y, m_y, d_y, _, rfl, rfl, RA.put _, rd_rowset z1 RA.row (rat_noint _ _ _ _ _ _ _) _, rd_rowset z2 RA.row (rat_noint _ _ _ _ _ _ _) _⟩
    case rest =>
    obtain ⟨a_y, n_y, c_y, b_y, m_y, d_y, g_y, rfl, rfl, R_y, h_yn_7, h_yd_7⟩ := hcut
    have hb := R_y.below
    have h_y_7 : Has w6 wc g_y #[.bool (fr z B).neg, .slice a_y n_y c_y, .slice b_y m_y d_y] := ⟨R_y.below, fun i v h => R_y.cell i v h, R_y.lt⟩
    clear R_y
    have B7 := B6.trans (hb.mono B6.size)
    have h_xn_7 := h_xn_6.below hb
    have h_xd_7 := h_xd_6.below hb
    have h_x_7 := h_x_6.later hb
    have h_rn_7 := h_rn_6.below hb
    have h_rd_7 := h_rd_6.below hb
    have h_r_7 := h_r_6.later hb
    clear hb B6 h_xn_6 h_xd_6 h_x_6 h_rn_6 h_rd_6 h_r_6
    obtain ⟨w7, hw⟩ : ∃ w, w = wc := ⟨_, rfl⟩
    subst hw
    go_wp2_with fail
    have hb := (Below.refl w7.heap.size w7).drew
    have B8 := B7.trans (hb.mono B7.size)
    have h_xn_8 := h_xn_7.below hb
    have h_xd_8 := h_xd_7.below hb
    have h_x_8 := h_x_7.later hb
    have h_rn_8 := h_rn_7.below hb
    have h_rd_8 := h_rd_7.below hb
    have h_r_8 := h_r_7.later hb
    have h_y_8 := h_y_7.later hb
    have h_yn_8 := h_yn_7.below hb
    have h_yd_8 := h_yd_7.below hb
    clear hb B7 h_xn_7 h_xd_7 h_x_7 h_rn_7 h_rd_7 h_r_7 h_y_7 h_yn_7 h_yd_7
    refine wp_region_held_drew (S := (fun w' => w'.cell? ⟨g_y, 0, none⟩ = some (.bool (fr z B).neg) ∧ w'.cell? ⟨g_y, 1, none⟩ = some (.slice a_y n_y c_y) ∧ w'.cell? ⟨g_y, 2, none⟩ = some (.slice b_y m_y d_y) ∧ True)) (by kernel_rfl) ?_ (fun hHeld => ?_)
    · exact ⟨h_y_8.cell 0 _ rfl, h_y_8.cell 1 _ rfl, h_y_8.cell 2 _ rfl, trivial⟩
    generalize w7.drew = w8 at *
    refine wpAnyH_take (i := 0) (oi := ?oir17_0) (v := ?vr17_0) ?hir17_0 (by kernel_rfl) (by kernel_rfl) (by kernel_rfl) ?hqr17_0 ?hyr17_0 (by assumption) ?restr17_0
    case hir17_0 => simp only [List.getElem?_toArray, List.getElem?_cons_succ, List.getElem?_cons_zero]; rfl
    case hqr17_0 => exact fun _ _ _ h => h
    case hyr17_0 => (refine Or.inl ⟨by rfl, ?_⟩; intro w hSw; (try dsimp only at hSw); go_simp; all_goals with_reducible rfl)
    try simp only [Act.put, List.setIfInBounds_toArray, List.set_cons_zero, List.set_cons_succ]
    refine wpAnyH_ready (rs := [1]) (by kernel_rfl) (by simp) ?_
    refine AllReadyH.cons (o := ?or18_1) ?hor18_1 (fun K hK => ?kr18_1) AllReadyH.nil
    case hor18_1 => simp only [List.getElem?_toArray, List.getElem?_cons_succ, List.getElem?_cons_zero]; rfl
    go_simp
    have c := whole_any w8 1000000000000001 (by decide) (by decide)
    refine c.mono ?_
    rintro e w9 ⟨a_v, n_v, c_v, b_v, m_v, d_v, rfl, h_vn_9, h_vd_9, hb⟩
    clear c
    have B9 := B8.trans (hb.mono B8.size)
    have h_xn_9 := h_xn_8.below hb
    have h_xd_9 := h_xd_8.below hb
    have h_x_9 := h_x_8.later hb
    have h_rn_9 := h_rn_8.below hb
    have h_rd_9 := h_rd_8.below hb
    have h_r_9 := h_r_8.later hb
    have h_y_9 := h_y_8.later hb
    have h_yn_9 := h_yn_8.below hb
    have h_yd_9 := h_yd_8.below hb
    clear hb B8 h_xn_8 h_xd_8 h_x_8 h_rn_8 h_rd_8 h_r_8 h_y_8 h_yn_8 h_yd_8
    go_wp2_with fail
    clear hHeld
    refine hK.out _ _ ?_ (fun hHeld => ?_)
    · exact ⟨h_y_9.cell 0 _ rfl, h_y_9.cell 1 _ rfl, h_y_9.cell 2 _ rfl, trivial⟩
    clear hK K
    try simp only [Act.put, List.setIfInBounds_toArray, List.set_cons_zero, List.set_cons_succ]
    refine wpAnyH_ready (rs := [2]) (by kernel_rfl) (by simp) ?_
    refine AllReadyH.cons (o := ?or19_2) ?hor19_2 (fun K hK => ?kr19_2) AllReadyH.nil
    case hor19_2 => simp only [List.getElem?_toArray, List.getElem?_cons_succ, List.getElem?_cons_zero]; rfl
    go_simp
    have c := ratCmp_any w9 (g1 := (fr z B).neg) (g2 := ((ofC 1000000000000001 1).1).neg) h_yn_9 h_yd_9 h_vn_9 h_vd_9
    rw [show (⟨(fr z B).neg, (fr z B).num, (fr z B).den⟩ : QV) = fr z B from rfl] at c
    rw [show (⟨((ofC 1000000000000001 1).1).neg, ((ofC 1000000000000001 1).1).num, ((ofC 1000000000000001 1).1).den⟩ : QV) = (ofC 1000000000000001 1).1 from rfl] at c
    rw [C1.out] at c
    refine c.mono ?_
    rintro e w10 ⟨rfl, hb⟩
    clear c
    have B10 := B9.trans (hb.mono B9.size)
    have h_xn_10 := h_xn_9.below hb
    have h_xd_10 := h_xd_9.below hb
    have h_x_10 := h_x_9.later hb
    have h_rn_10 := h_rn_9.below hb
    have h_rd_10 := h_rd_9.below hb
    have h_r_10 := h_r_9.later hb
    have h_y_10 := h_y_9.later hb
    have h_yn_10 := h_yn_9.below hb
    have h_yd_10 := h_yd_9.below hb
    clear hb B9 h_xn_9 h_xd_9 h_x_9 h_rn_9 h_rd_9 h_r_9 h_y_9 h_yn_9 h_yd_9 h_vn_9 h_vd_9
    go_wp2_with fail
    clear hHeld
    refine hK.out _ _ ?_ (fun hHeld => ?_)
    · exact ⟨h_y_10.cell 0 _ rfl, h_y_10.cell 1 _ rfl, h_y_10.cell 2 _ rfl, trivial⟩
    clear hK K
    try simp only [Act.put, List.setIfInBounds_toArray, List.set_cons_zero, List.set_cons_succ]
    refine wpAnyH_take (i := 3) (oi := ?oir20_3) (v := ?vr20_3) ?hir20_3 (by kernel_rfl) (by kernel_rfl) (by kernel_rfl) ?hqr20_3 ?hyr20_3 (by assumption) ?restr20_3
    case hir20_3 => simp only [List.getElem?_toArray, List.getElem?_cons_succ, List.getElem?_cons_zero]; rfl
    case hqr20_3 => exact fun _ _ _ h => h
    case hyr20_3 => (refine Or.inl ⟨by rfl, ?_⟩; intro w hSw; (try dsimp only at hSw); go_simp; all_goals with_reducible rfl)
    try simp only [Act.put, List.setIfInBounds_toArray, List.set_cons_zero, List.set_cons_succ]
    refine wpAnyH_take (i := 4) (oi := ?oir20_4) (v := ?vr20_4) ?hir20_4 (by kernel_rfl) (by kernel_rfl) (by kernel_rfl) ?hqr20_4 ?hyr20_4 (by assumption) ?restr20_4
    case hir20_4 => simp only [List.getElem?_toArray, List.getElem?_cons_succ, List.getElem?_cons_zero]; rfl
    case hqr20_4 => exact fun _ _ _ h => h
    case hyr20_4 => (refine Or.inl ⟨by rfl, ?_⟩; intro w hSw; (try dsimp only at hSw); go_simp; all_goals with_reducible rfl)
    try simp only [Act.put, List.setIfInBounds_toArray, List.set_cons_zero, List.set_cons_succ]
    refine wpAnyH_take (i := 5) (oi := ?oir20_5) (v := ?vr20_5) ?hir20_5 (by kernel_rfl) (by kernel_rfl) (by kernel_rfl) ?hqr20_5 ?hyr20_5 (by assumption) ?restr20_5
    case hir20_5 => simp only [List.getElem?_toArray, List.getElem?_cons_succ, List.getElem?_cons_zero]; rfl
    case hqr20_5 => exact fun _ _ _ h => h
    case hyr20_5 => (refine Or.inl ⟨by rfl, ?_⟩; intro w hSw; (try dsimp only at hSw); go_simp; all_goals with_reducible rfl)
    try simp only [Act.put, List.setIfInBounds_toArray, List.set_cons_zero, List.set_cons_succ]
    refine wpAnyH_take (i := 6) (oi := ?oir20_6) (v := ?vr20_6) ?hir20_6 (by kernel_rfl) (by kernel_rfl) (by kernel_rfl) ?hqr20_6 ?hyr20_6 (by assumption) ?restr20_6
    case hir20_6 => simp only [List.getElem?_toArray, List.getElem?_cons_succ, List.getElem?_cons_zero]; rfl
    case hqr20_6 => exact fun _ _ _ h => h
    case hyr20_6 => (refine Or.inl ⟨by rfl, ?_⟩; intro w hSw; (try dsimp only at hSw); go_simp; all_goals with_reducible rfl)
    try simp only [Act.put, List.setIfInBounds_toArray, List.set_cons_zero, List.set_cons_succ]
    refine wpAnyH_take (i := 7) (oi := ?oir20_7) (v := ?vr20_7) ?hir20_7 (by kernel_rfl) (by kernel_rfl) (by kernel_rfl) ?hqr20_7 ?hyr20_7 (by assumption) ?restr20_7
    case hir20_7 => simp only [List.getElem?_toArray, List.getElem?_cons_succ, List.getElem?_cons_zero]; rfl
    case hqr20_7 => exact fun _ _ _ h => h
    case hyr20_7 => (refine Or.inl ⟨by rfl, ?_⟩; intro w hSw; (try dsimp only at hSw); go_simp; all_goals with_reducible rfl)
    try simp only [Act.put, List.setIfInBounds_toArray, List.set_cons_zero, List.set_cons_succ]
    refine wpAnyH_done (by kernel_rfl) ?_ _
    clear hHeld
    go_wp2_with fail
    have c := wakes_any w10
    refine c.mono ?_
    rintro e w11 ⟨rfl, hb⟩
    clear c
    have B11 := B10.trans (hb.mono B10.size)
    have h_xn_11 := h_xn_10.below hb
    have h_xd_11 := h_xd_10.below hb
    have h_x_11 := h_x_10.later hb
    have h_rn_11 := h_rn_10.below hb
    have h_rd_11 := h_rd_10.below hb
    have h_r_11 := h_r_10.later hb
    have h_y_11 := h_y_10.later hb
    have h_yn_11 := h_yn_10.below hb
    have h_yd_11 := h_yd_10.below hb
    clear hb B10 h_xn_10 h_xd_10 h_x_10 h_rn_10 h_rd_10 h_r_10 h_y_10 h_yn_10 h_yd_10
    go_wp2_with fail
    go_ret
    exact ⟨rfl, B11⟩
  obtain ⟨k, hk⟩ : ∃ k : Int, k = (t : Int) := ⟨_, rfl⟩
  have BX := Lib.hid (show billC (fr A B) = (k, 0) by rw [BI, tellN, if_pos ok, hk])
  have dg : decide (0 ≤ t1) = false := decide_eq_false (by
    have h : t1 < 0 := i1.2 (by
      have h3 : (t + 1) * B ≤ 1000000000000001 * B := Nat.mul_le_mul_right _ (by omega)
      rw [Nat.add_mul, Nat.one_mul, Nat.mul_comm t] at h3
      omega)
    omega)
  obtain ⟨t2, h2, -, i2, -⟩ := fr_cmp (A := t) (B := 1) (C := z) (D := B) (by decide) hB (small48 (by omega)) (small48 (by decide)) AU B48
  obtain ⟨t3, h3, -, i3, -⟩ := fr_cmp (A := t + 1) (B := 1) (C := z) (D := B) (by decide) hB (small48 (by omega)) (small48 (by decide)) AU B48
  have C2 := Lib.hid h2
  have C3 := Lib.hid h3
  rw [Nat.mul_one] at i2 i3
  have d2 : decide (t2 ≤ 0) = true := decide_eq_true (by
    have h : ¬ 0 < t2 := fun h => by
      have h4 := i2.1 h
      rw [Nat.mul_comm t] at h4
      omega
    omega)
  have d3 : decide (0 < t3) = true := decide_eq_true (i3.2 (by rw [Nat.add_mul, Nat.one_mul, Nat.mul_comm t]; omega))
  obtain ⟨m, hm⟩ : ∃ m : Int, m = (t : Int) + 1 := ⟨_, rfl⟩
  have WK := Lib.hid (whole_fr (n := k) (N := t) hk)
  have WM := Lib.hid (whole_fr (n := m) (N := t + 1) (by omega))
  have k1 : -9223372036854775808 ≤ k := by omega
  have k2 : k < 9223372036854775808 := by omega
  have m1 : -9223372036854775808 ≤ m := by omega
  have m2 : m < 9223372036854775808 := by omega
  have f1 : IntKind.i64.wrap (k + 1) = m := by rw [wrap_i64 (by omega) (by omega)]; omega
  have f2 : wrap64 (k + 1) = m := by rw [w64_small (by omega) (by omega)]; omega
  clear BI dm ml ok i1 i2 i3 h2 h3 hz ht hk hm hB A48 B48 AU
  go_enter Try.func9, Try.ntmps9
  have hb := below_al w (.cells #[.bool (fr A B).neg, .slice a_x n_x c_x, .slice b_x m_x d_x] 27)
  have B1 := B0.trans (hb.mono B0.size)
  have h_xn_1 := h_xn_0.below hb
  have h_xd_1 := h_xd_0.below hb
  clear hb B0 h_xn_0 h_xd_0
  have h_x_1 := Has.new w #[.bool (fr A B).neg, .slice a_x n_x c_x, .slice b_x m_x d_x] 27
  go_wp2_with fail
  generalize (w.alloc (.cells #[.bool (fr A B).neg, .slice a_x n_x c_x, .slice b_x m_x d_x] 27)) = w1 at *
  have c := qratio_any w1 n i_n
  rw [RN.out] at c
  refine c.mono ?_
  rintro e w2 ⟨a_r, n_r, c_r, b_r, m_r, d_r, rfl, h_rn_2, h_rd_2, hb⟩
  clear c
  have B2 := B1.trans (hb.mono B1.size)
  have h_xn_2 := h_xn_1.below hb
  have h_xd_2 := h_xd_1.below hb
  have h_x_2 := h_x_1.later hb
  clear hb B1 h_xn_1 h_xd_1 h_x_1
  have hb := below_al w2 (.cells #[.bool ((fr N 1000000000)).neg, .slice a_r n_r c_r, .slice b_r m_r d_r] 27)
  have B3 := B2.trans (hb.mono B2.size)
  have h_xn_3 := h_xn_2.below hb
  have h_xd_3 := h_xd_2.below hb
  have h_x_3 := h_x_2.later hb
  have h_rn_3 := h_rn_2.below hb
  have h_rd_3 := h_rd_2.below hb
  clear hb B2 h_xn_2 h_xd_2 h_x_2 h_rn_2 h_rd_2
  have h_r_3 := Has.new w2 #[.bool ((fr N 1000000000)).neg, .slice a_r n_r c_r, .slice b_r m_r d_r] 27
  have k_r_0 := h_r_3.cell 0 _ rfl
  have k_r_1 := h_r_3.cell 1 _ rfl
  have k_r_2 := h_r_3.cell 2 _ rfl
  go_wp2_with first | refine wpList_store_new rfl 27 _ _ rfl atRat _ _ _ rfl rfl rfl rfl (rat_one _ _ _ _ _ _ _) ?_
  clear k_r_0 k_r_1 k_r_2
  generalize (w2.alloc (.cells #[.bool ((fr N 1000000000)).neg, .slice a_r n_r c_r, .slice b_r m_r d_r] 27)) = w3 at *
  have c := bill_any w3 (g := (fr N 1000000000).neg) h_rn_3 h_rd_3
  rw [show (⟨(fr N 1000000000).neg, (fr N 1000000000).num, (fr N 1000000000).den⟩ : QV) = fr N 1000000000 from rfl] at c
  rw [BN.out] at c
  refine c.mono ?_
  rintro e w4 ⟨rfl, hb⟩
  clear c
  have B4 := B3.trans (hb.mono B3.size)
  have h_xn_4 := h_xn_3.below hb
  have h_xd_4 := h_xd_3.below hb
  have h_x_4 := h_x_3.later hb
  have h_rn_4 := h_rn_3.below hb
  have h_rd_4 := h_rd_3.below hb
  have h_r_4 := h_r_3.later hb
  clear hb B3 h_xn_3 h_xd_3 h_x_3 h_rn_3 h_rd_3 h_r_3
  have k_x_0 := h_x_4.cell 0 _ rfl
  have k_x_1 := h_x_4.cell 1 _ rfl
  have k_x_2 := h_x_4.cell 2 _ rfl
  go_wp2_with fail
  clear k_x_0 k_x_1 k_x_2
  have c := refRatCheck_any w4 (neg := (fr A B).neg) h_xn_4 h_xd_4
  rw [show (⟨(fr A B).neg, (fr A B).num, (fr A B).den⟩ : QV) = fr A B from rfl] at c
  rw [C0.out] at c
  refine c.mono ?_
  rintro e w5 ⟨rfl, hb⟩
  clear c
  have B5 := B4.trans (hb.mono B4.size)
  have h_xn_5 := h_xn_4.below hb
  have h_xd_5 := h_xd_4.below hb
  have h_x_5 := h_x_4.later hb
  have h_rn_5 := h_rn_4.below hb
  have h_rd_5 := h_rd_4.below hb
  have h_r_5 := h_r_4.later hb
  clear hb B4 h_xn_4 h_xd_4 h_x_4 h_rn_4 h_rd_4 h_r_4
  have k_x_0 := h_x_5.cell 0 _ rfl
  have k_x_1 := h_x_5.cell 1 _ rfl
  have k_x_2 := h_x_5.cell 2 _ rfl
  go_wp2_with fail
  clear k_x_0 k_x_1 k_x_2
  have c := bill_any w5 (g := (fr A B).neg) h_xn_5 h_xd_5
  rw [show (⟨(fr A B).neg, (fr A B).num, (fr A B).den⟩ : QV) = fr A B from rfl] at c
  rw [BX.out] at c
  refine c.mono ?_
  rintro e w6 ⟨rfl, hb⟩
  clear c
  have B6 := B5.trans (hb.mono B5.size)
  have h_xn_6 := h_xn_5.below hb
  have h_xd_6 := h_xd_5.below hb
  have h_x_6 := h_x_5.later hb
  have h_rn_6 := h_rn_5.below hb
  have h_rd_6 := h_rd_5.below hb
  have h_r_6 := h_r_5.later hb
  clear hb B5 h_xn_5 h_xd_5 h_x_5 h_rn_5 h_rd_5 h_r_5
  have ng : (fr A B).neg = false := rfl
  have k_x_0 := h_x_6.cell 0 _ rfl
  have k_x_1 := h_x_6.cell 1 _ rfl
  have k_x_2 := h_x_6.cell 2 _ rfl
  go_upto_region 12 with fail
  clear k_x_0 k_x_1 k_x_2
  go_cut [11, 12] from 89 to 94 (fun s1 s2 wx => ∃ a_y n_y c_y b_y m_y d_y g_y, s1 = Value.pointer (some ⟨g_y, 0, none⟩) ∧ s2 = Value.int .i64 0 ∧ PRow 27 w6 wx g_y #[.bool (fr z B).neg, .slice a_y n_y c_y, .slice b_y m_y d_y] ∧ Rd .u32 wx a_y n_y c_y (fr z B).num ∧ Rd .u32 wx b_y m_y d_y (fr z B).den)
  case first =>
    have k0 := h_x_6.cell 0 _ rfl
    have k1 := h_x_6.cell 1 _ rfl
    have k2 := h_x_6.cell 2 _ rfl
    have kl := h_x_6.lt
    have D0 := (Below.refl w6.heap.size w6).drew
    refine wp_region_held_drew (S := (fun w' => Below w6.heap.size w6 w' ∧ w'.cell? ⟨w.heap.size, 0, none⟩ = some (.bool (fr A B).neg) ∧ w'.cell? ⟨w.heap.size, 1, none⟩ = some (.slice a_x n_x c_x) ∧ w'.cell? ⟨w.heap.size, 2, none⟩ = some (.slice b_x m_x d_x))) (by kernel_rfl) ?_ (fun hHeld => ?_)
    · exact ⟨D0, cell_later D0 k0 kl, cell_later D0 k1 kl, cell_later D0 k2 kl⟩
    clear D0
    refine wpAnyH_take (i := 0) (oi := ?oir21_0) (v := ?vr21_0) ?hir21_0 (by kernel_rfl) (by kernel_rfl) (by kernel_rfl) ?hqr21_0 ?hyr21_0 (by assumption) ?restr21_0
    case hir21_0 => simp only [List.getElem?_toArray, List.getElem?_cons_succ, List.getElem?_cons_zero]; rfl
    case hqr21_0 => exact fun _ _ _ h => h
    case hyr21_0 => (refine Or.inl ⟨by rfl, ?_⟩; intro w hSw; (try dsimp only at hSw); go_simp; all_goals with_reducible rfl)
    try simp only [Act.put, List.setIfInBounds_toArray, List.set_cons_zero, List.set_cons_succ]
    refine wpAnyH_ready (rs := [1, 6]) (by kernel_rfl) (by simp) ?_
    refine (AllReadyH.cons (o := ?ob36_1) ?hob36_1 (fun K hK => ?kb36_1) (AllReadyH.cons (o := ?ob36_6) ?hob36_6 (fun K hK => ?kb36_6) AllReadyH.nil))
    case hob36_1 => simp only [List.getElem?_toArray, List.getElem?_cons_succ, List.getElem?_cons_zero]; rfl
    case hob36_6 => simp only [List.getElem?_toArray, List.getElem?_cons_succ, List.getElem?_cons_zero]; rfl
    case kb36_1 =>
      go_simp
      refine (whole_any w6.drew 1000000000 (by decide) (by decide)).mono ?_
      rintro e2 wa ⟨a2, n2, c2', b2, m2, d2, rfl, y1, y2, hb2⟩
      have BW := hHeld.1.trans (hb2.mono hHeld.1.size)
      go_wp2_with fail
      refine hK.out _ _ ?_ (fun hHeld => ?_)
      · exact keep_one hHeld hb2 kl
      clear hK K
      try simp only [Act.put, List.setIfInBounds_toArray, List.set_cons_zero, List.set_cons_succ]
      refine wpAnyH_ready (rs := [2, 6]) (by kernel_rfl) (by simp) ?_
      refine (AllReadyH.cons (o := ?ob30_2) ?hob30_2 (fun K hK => ?kb30_2) (AllReadyH.cons (o := ?ob30_6) ?hob30_6 (fun K hK => ?kb30_6) AllReadyH.nil))
      case hob30_2 => simp only [List.getElem?_toArray, List.getElem?_cons_succ, List.getElem?_cons_zero]; rfl
      case hob30_6 => simp only [List.getElem?_toArray, List.getElem?_cons_succ, List.getElem?_cons_zero]; rfl
      case kb30_2 =>
        go_simp
        have cc := ratMul_any wa (g1 := (fr A B).neg) (g2 := (ofC 1000000000 1).1.neg) (h_xn_6.below BW) (h_xd_6.below BW) y1 y2
        rw [show (⟨(fr A B).neg, (fr A B).num, (fr A B).den⟩ : QV) = fr A B from rfl, show (⟨(ofC 1000000000 1).1.neg, (ofC 1000000000 1).1.num, (ofC 1000000000 1).1.den⟩ : QV) = (ofC 1000000000 1).1 from rfl, M1.out] at cc
        refine cc.mono ?_
        rintro e2 wb ⟨a_y, n_y, c_y, b_y, m_y, d_y, rfl, z1, z2, hb3⟩
        clear cc
        have BW := BW.trans (hb3.mono BW.size)
        go_wp2_with fail
        refine hK.out _ _ ?_ (fun hHeld => ?_)
        · exact keep_one hHeld hb3 kl
        clear hK K
        try simp only [Act.put, List.setIfInBounds_toArray, List.set_cons_zero, List.set_cons_succ]
        refine wpAnyH_take (i := 3) (oi := ?oir22_3) (v := ?vr22_3) ?hir22_3 (by kernel_rfl) (by kernel_rfl) (by kernel_rfl) ?hqr22_3 ?hyr22_3 (by assumption) ?restr22_3
        case hir22_3 => simp only [List.getElem?_toArray, List.getElem?_cons_succ, List.getElem?_cons_zero]; rfl
        case hqr22_3 => exact fun _ _ _ h => h
        case hyr22_3 => (refine Or.inl ⟨by rfl, ?_⟩; intro w hSw; (try dsimp only at hSw); go_simp; all_goals with_reducible rfl)
        try simp only [Act.put, List.setIfInBounds_toArray, List.set_cons_zero, List.set_cons_succ]
        refine wpAnyH_take (i := 4) (oi := ?oir22_4) (v := ?vr22_4) ?hir22_4 (by kernel_rfl) (by kernel_rfl) (by kernel_rfl) ?hqr22_4 ?hyr22_4 (by assumption) ?restr22_4
        case hir22_4 => simp only [List.getElem?_toArray, List.getElem?_cons_succ, List.getElem?_cons_zero]; rfl
        case hqr22_4 => exact fun _ _ _ h => h
        case hyr22_4 => (refine Or.inl ⟨by rfl, ?_⟩; intro w hSw; (try dsimp only at hSw); go_simp; all_goals with_reducible rfl)
        try simp only [Act.put, List.setIfInBounds_toArray, List.set_cons_zero, List.set_cons_succ]
        refine wpAnyH_take (i := 5) (oi := ?oir22_5) (v := ?vr22_5) ?hir22_5 (by kernel_rfl) (by kernel_rfl) (by kernel_rfl) ?hqr22_5 ?hyr22_5 (by assumption) ?restr22_5
        case hir22_5 => simp only [List.getElem?_toArray, List.getElem?_cons_succ, List.getElem?_cons_zero]; rfl
        case hqr22_5 => exact fun _ _ _ h => h
        case hyr22_5 => (refine Or.inl ⟨by rfl, ?_⟩; intro w hSw; (try dsimp only at hSw); go_simp; all_goals with_reducible rfl)
        try simp only [Act.put, List.setIfInBounds_toArray, List.set_cons_zero, List.set_cons_succ]
        refine wpAnyH_ready (rs := [6]) (by kernel_rfl) (by simp) ?_
        refine (AllReadyH.cons (o := ?ob25_6) ?hob25_6 (fun K hK => ?kb25_6) AllReadyH.nil)
        case hob25_6 => simp only [List.getElem?_toArray, List.getElem?_cons_succ, List.getElem?_cons_zero]; rfl
        case kb25_6 =>
          go_simp
          have hSZ := hHeld.1.size
          refine hK.out _ _ ?_ (fun hHeld => ?_)
          · exact keep_one hHeld (below_al _ _) kl
          clear hK K
          try simp only [Act.put, List.setIfInBounds_toArray, List.set_cons_zero, List.set_cons_succ]
          have RA := (PRow.new 27 wb #[.bool false, .slice none 0 0, .slice none 0 0]).rebase hHeld.1 (by first | exact Nat.le_refl _ | exact hSZ)
          have z1 := z1.below (below_al wb (.cells #[.bool false, .slice none 0 0, .slice none 0 0] 27))
          have z2 := z2.below (below_al wb (.cells #[.bool false, .slice none 0 0, .slice none 0 0] 27))
          refine wpAnyH_ready (rs := [7]) (by kernel_rfl) (by simp) ?_
          refine (AllReadyH.cons (o := ?ob24_7) ?hob24_7 (fun K hK => ?kb24_7) AllReadyH.nil)
          case hob24_7 => simp only [List.getElem?_toArray, List.getElem?_cons_succ, List.getElem?_cons_zero]; rfl
          case kb24_7 =>
            rw [if_pos (by rfl)]
            refine op_store_whole 27 _ _ rfl atRat _ _ _ RA.row rfl rfl rfl rfl (rat_one _ _ _ _ _ _ _) ?_
            refine hK.out _ _ ?_ (fun hHeld => ?_)
            · exact keep_one_row hHeld RA.lo kl
            clear hK K
            try simp only [Act.put, List.setIfInBounds_toArray, List.set_cons_zero, List.set_cons_succ]
            refine wpAnyH_take (i := 8) (oi := ?oir23_8) (v := ?vr23_8) ?hir23_8 (by kernel_rfl) (by kernel_rfl) (by kernel_rfl) ?hqr23_8 ?hyr23_8 (by assumption) ?restr23_8
            case hir23_8 => simp only [List.getElem?_toArray, List.getElem?_cons_succ, List.getElem?_cons_zero]; rfl
            case hqr23_8 => exact fun _ _ _ h => h
            case hyr23_8 => (refine Or.inl ⟨by rfl, ?_⟩; intro w hSw; (try dsimp only at hSw); go_simp; all_goals with_reducible rfl)
            try simp only [Act.put, List.setIfInBounds_toArray, List.set_cons_zero, List.set_cons_succ]
            refine wpAnyH_done (by kernel_rfl) ?_ _
            go_wp2_with fail
            go_meet
            exact ⟨a_y, n_y, c_y, b_y, m_y, d_y, _, rfl, rfl, RA.put _, rd_rowset z1 RA.row (rat_noint _ _ _ _ _ _ _) _, rd_rowset z2 RA.row (rat_noint _ _ _ _ _ _ _) _⟩
      case kb30_6 =>
        go_simp
        have hSZ := hHeld.1.size
        refine hK.out _ _ ?_ (fun hHeld => ?_)
        · exact keep_one hHeld (below_al _ _) kl
        clear hK K
        try simp only [Act.put, List.setIfInBounds_toArray, List.set_cons_zero, List.set_cons_succ]
        have RA := (PRow.new 27 wa #[.bool false, .slice none 0 0, .slice none 0 0]).rebase hHeld.1 (by first | exact Nat.le_refl _ | exact hSZ)
        have y1 := y1.below (below_al wa (.cells #[.bool false, .slice none 0 0, .slice none 0 0] 27))
        have y2 := y2.below (below_al wa (.cells #[.bool false, .slice none 0 0, .slice none 0 0] 27))
        have BW := BW.trans ((below_al wa (.cells #[.bool false, .slice none 0 0, .slice none 0 0] 27)).mono BW.size)
        refine wpAnyH_ready (rs := [2]) (by kernel_rfl) (by simp) ?_
        refine (AllReadyH.cons (o := ?ob29_2) ?hob29_2 (fun K hK => ?kb29_2) AllReadyH.nil)
        case hob29_2 => simp only [List.getElem?_toArray, List.getElem?_cons_succ, List.getElem?_cons_zero]; rfl
        case kb29_2 =>
          go_simp
          have cc := ratMul_any _ (g1 := (fr A B).neg) (g2 := (ofC 1000000000 1).1.neg) (h_xn_6.below BW) (h_xd_6.below BW) y1 y2
          rw [show (⟨(fr A B).neg, (fr A B).num, (fr A B).den⟩ : QV) = fr A B from rfl, show (⟨(ofC 1000000000 1).1.neg, (ofC 1000000000 1).1.num, (ofC 1000000000 1).1.den⟩ : QV) = (ofC 1000000000 1).1 from rfl, M1.out] at cc
          refine cc.mono ?_
          rintro e2 wb ⟨a_y, n_y, c_y, b_y, m_y, d_y, rfl, z1, z2, hb3⟩
          clear cc
          have BW := BW.trans (hb3.mono BW.size)
          go_wp2_with fail
          refine hK.out _ _ ?_ (fun hHeld => ?_)
          · exact keep_one hHeld hb3 kl
          clear hK K
          try simp only [Act.put, List.setIfInBounds_toArray, List.set_cons_zero, List.set_cons_succ]
          have RA := RA.later hb3
          refine wpAnyH_take (i := 3) (oi := ?oir26_3) (v := ?vr26_3) ?hir26_3 (by kernel_rfl) (by kernel_rfl) (by kernel_rfl) ?hqr26_3 ?hyr26_3 (by assumption) ?restr26_3
          case hir26_3 => simp only [List.getElem?_toArray, List.getElem?_cons_succ, List.getElem?_cons_zero]; rfl
          case hqr26_3 => exact fun _ _ _ h => h
          case hyr26_3 => (refine Or.inl ⟨by rfl, ?_⟩; intro w hSw; (try dsimp only at hSw); go_simp; all_goals with_reducible rfl)
          try simp only [Act.put, List.setIfInBounds_toArray, List.set_cons_zero, List.set_cons_succ]
          refine wpAnyH_take (i := 4) (oi := ?oir26_4) (v := ?vr26_4) ?hir26_4 (by kernel_rfl) (by kernel_rfl) (by kernel_rfl) ?hqr26_4 ?hyr26_4 (by assumption) ?restr26_4
          case hir26_4 => simp only [List.getElem?_toArray, List.getElem?_cons_succ, List.getElem?_cons_zero]; rfl
          case hqr26_4 => exact fun _ _ _ h => h
          case hyr26_4 => (refine Or.inl ⟨by rfl, ?_⟩; intro w hSw; (try dsimp only at hSw); go_simp; all_goals with_reducible rfl)
          try simp only [Act.put, List.setIfInBounds_toArray, List.set_cons_zero, List.set_cons_succ]
          refine wpAnyH_take (i := 5) (oi := ?oir26_5) (v := ?vr26_5) ?hir26_5 (by kernel_rfl) (by kernel_rfl) (by kernel_rfl) ?hqr26_5 ?hyr26_5 (by assumption) ?restr26_5
          case hir26_5 => simp only [List.getElem?_toArray, List.getElem?_cons_succ, List.getElem?_cons_zero]; rfl
          case hqr26_5 => exact fun _ _ _ h => h
          case hyr26_5 => (refine Or.inl ⟨by rfl, ?_⟩; intro w hSw; (try dsimp only at hSw); go_simp; all_goals with_reducible rfl)
          try simp only [Act.put, List.setIfInBounds_toArray, List.set_cons_zero, List.set_cons_succ]
          refine wpAnyH_ready (rs := [7]) (by kernel_rfl) (by simp) ?_
          refine (AllReadyH.cons (o := ?ob28_7) ?hob28_7 (fun K hK => ?kb28_7) AllReadyH.nil)
          case hob28_7 => simp only [List.getElem?_toArray, List.getElem?_cons_succ, List.getElem?_cons_zero]; rfl
          case kb28_7 =>
            rw [if_pos (by rfl)]
            refine op_store_whole 27 _ _ rfl atRat _ _ _ RA.row rfl rfl rfl rfl (rat_one _ _ _ _ _ _ _) ?_
            refine hK.out _ _ ?_ (fun hHeld => ?_)
            · exact keep_one_row hHeld RA.lo kl
            clear hK K
            try simp only [Act.put, List.setIfInBounds_toArray, List.set_cons_zero, List.set_cons_succ]
            refine wpAnyH_take (i := 8) (oi := ?oir27_8) (v := ?vr27_8) ?hir27_8 (by kernel_rfl) (by kernel_rfl) (by kernel_rfl) ?hqr27_8 ?hyr27_8 (by assumption) ?restr27_8
            case hir27_8 => simp only [List.getElem?_toArray, List.getElem?_cons_succ, List.getElem?_cons_zero]; rfl
            case hqr27_8 => exact fun _ _ _ h => h
            case hyr27_8 => (refine Or.inl ⟨by rfl, ?_⟩; intro w hSw; (try dsimp only at hSw); go_simp; all_goals with_reducible rfl)
            try simp only [Act.put, List.setIfInBounds_toArray, List.set_cons_zero, List.set_cons_succ]
            refine wpAnyH_done (by kernel_rfl) ?_ _
            go_wp2_with fail
            go_meet
            exact ⟨a_y, n_y, c_y, b_y, m_y, d_y, _, rfl, rfl, RA.put _, rd_rowset z1 RA.row (rat_noint _ _ _ _ _ _ _) _, rd_rowset z2 RA.row (rat_noint _ _ _ _ _ _ _) _⟩
    case kb36_6 =>
      go_simp
      have hSZ := hHeld.1.size
      refine hK.out _ _ ?_ (fun hHeld => ?_)
      · exact keep_one hHeld (below_al _ _) kl
      clear hK K
      try simp only [Act.put, List.setIfInBounds_toArray, List.set_cons_zero, List.set_cons_succ]
      have RA := (PRow.new 27 w6.drew #[.bool false, .slice none 0 0, .slice none 0 0]).rebase hHeld.1 (by first | exact Nat.le_refl _ | exact hSZ)
      refine wpAnyH_ready (rs := [1]) (by kernel_rfl) (by simp) ?_
      refine (AllReadyH.cons (o := ?ob35_1) ?hob35_1 (fun K hK => ?kb35_1) AllReadyH.nil)
      case hob35_1 => simp only [List.getElem?_toArray, List.getElem?_cons_succ, List.getElem?_cons_zero]; rfl
      case kb35_1 =>
        go_simp
        refine (whole_any _ 1000000000 (by decide) (by decide)).mono ?_
        rintro e2 wa ⟨a2, n2, c2', b2, m2, d2, rfl, y1, y2, hb2⟩
        have BW := hHeld.1.trans (hb2.mono hHeld.1.size)
        go_wp2_with fail
        refine hK.out _ _ ?_ (fun hHeld => ?_)
        · exact keep_one hHeld hb2 kl
        clear hK K
        try simp only [Act.put, List.setIfInBounds_toArray, List.set_cons_zero, List.set_cons_succ]
        have RA := RA.later hb2
        refine wpAnyH_ready (rs := [2]) (by kernel_rfl) (by simp) ?_
        refine (AllReadyH.cons (o := ?ob34_2) ?hob34_2 (fun K hK => ?kb34_2) AllReadyH.nil)
        case hob34_2 => simp only [List.getElem?_toArray, List.getElem?_cons_succ, List.getElem?_cons_zero]; rfl
        case kb34_2 =>
          go_simp
          have cc := ratMul_any wa (g1 := (fr A B).neg) (g2 := (ofC 1000000000 1).1.neg) (h_xn_6.below BW) (h_xd_6.below BW) y1 y2
          rw [show (⟨(fr A B).neg, (fr A B).num, (fr A B).den⟩ : QV) = fr A B from rfl, show (⟨(ofC 1000000000 1).1.neg, (ofC 1000000000 1).1.num, (ofC 1000000000 1).1.den⟩ : QV) = (ofC 1000000000 1).1 from rfl, M1.out] at cc
          refine cc.mono ?_
          rintro e2 wb ⟨a_y, n_y, c_y, b_y, m_y, d_y, rfl, z1, z2, hb3⟩
          clear cc
          have BW := BW.trans (hb3.mono BW.size)
          go_wp2_with fail
          refine hK.out _ _ ?_ (fun hHeld => ?_)
          · exact keep_one hHeld hb3 kl
          clear hK K
          try simp only [Act.put, List.setIfInBounds_toArray, List.set_cons_zero, List.set_cons_succ]
          have RA := RA.later hb3
          refine wpAnyH_take (i := 3) (oi := ?oir31_3) (v := ?vr31_3) ?hir31_3 (by kernel_rfl) (by kernel_rfl) (by kernel_rfl) ?hqr31_3 ?hyr31_3 (by assumption) ?restr31_3
          case hir31_3 => simp only [List.getElem?_toArray, List.getElem?_cons_succ, List.getElem?_cons_zero]; rfl
          case hqr31_3 => exact fun _ _ _ h => h
          case hyr31_3 => (refine Or.inl ⟨by rfl, ?_⟩; intro w hSw; (try dsimp only at hSw); go_simp; all_goals with_reducible rfl)
          try simp only [Act.put, List.setIfInBounds_toArray, List.set_cons_zero, List.set_cons_succ]
          refine wpAnyH_take (i := 4) (oi := ?oir31_4) (v := ?vr31_4) ?hir31_4 (by kernel_rfl) (by kernel_rfl) (by kernel_rfl) ?hqr31_4 ?hyr31_4 (by assumption) ?restr31_4
          case hir31_4 => simp only [List.getElem?_toArray, List.getElem?_cons_succ, List.getElem?_cons_zero]; rfl
          case hqr31_4 => exact fun _ _ _ h => h
          case hyr31_4 => (refine Or.inl ⟨by rfl, ?_⟩; intro w hSw; (try dsimp only at hSw); go_simp; all_goals with_reducible rfl)
          try simp only [Act.put, List.setIfInBounds_toArray, List.set_cons_zero, List.set_cons_succ]
          refine wpAnyH_take (i := 5) (oi := ?oir31_5) (v := ?vr31_5) ?hir31_5 (by kernel_rfl) (by kernel_rfl) (by kernel_rfl) ?hqr31_5 ?hyr31_5 (by assumption) ?restr31_5
          case hir31_5 => simp only [List.getElem?_toArray, List.getElem?_cons_succ, List.getElem?_cons_zero]; rfl
          case hqr31_5 => exact fun _ _ _ h => h
          case hyr31_5 => (refine Or.inl ⟨by rfl, ?_⟩; intro w hSw; (try dsimp only at hSw); go_simp; all_goals with_reducible rfl)
          try simp only [Act.put, List.setIfInBounds_toArray, List.set_cons_zero, List.set_cons_succ]
          refine wpAnyH_ready (rs := [7]) (by kernel_rfl) (by simp) ?_
          refine (AllReadyH.cons (o := ?ob33_7) ?hob33_7 (fun K hK => ?kb33_7) AllReadyH.nil)
          case hob33_7 => simp only [List.getElem?_toArray, List.getElem?_cons_succ, List.getElem?_cons_zero]; rfl
          case kb33_7 =>
            rw [if_pos (by rfl)]
            refine op_store_whole 27 _ _ rfl atRat _ _ _ RA.row rfl rfl rfl rfl (rat_one _ _ _ _ _ _ _) ?_
            refine hK.out _ _ ?_ (fun hHeld => ?_)
            · exact keep_one_row hHeld RA.lo kl
            clear hK K
            try simp only [Act.put, List.setIfInBounds_toArray, List.set_cons_zero, List.set_cons_succ]
            refine wpAnyH_take (i := 8) (oi := ?oir32_8) (v := ?vr32_8) ?hir32_8 (by kernel_rfl) (by kernel_rfl) (by kernel_rfl) ?hqr32_8 ?hyr32_8 (by assumption) ?restr32_8
            case hir32_8 => simp only [List.getElem?_toArray, List.getElem?_cons_succ, List.getElem?_cons_zero]; rfl
            case hqr32_8 => exact fun _ _ _ h => h
            case hyr32_8 => (refine Or.inl ⟨by rfl, ?_⟩; intro w hSw; (try dsimp only at hSw); go_simp; all_goals with_reducible rfl)
            try simp only [Act.put, List.setIfInBounds_toArray, List.set_cons_zero, List.set_cons_succ]
            refine wpAnyH_done (by kernel_rfl) ?_ _
            go_wp2_with fail
            go_meet
            exact ⟨a_y, n_y, c_y, b_y, m_y, d_y, _, rfl, rfl, RA.put _, rd_rowset z1 RA.row (rat_noint _ _ _ _ _ _ _) _, rd_rowset z2 RA.row (rat_noint _ _ _ _ _ _ _) _⟩
  case rest =>
  obtain ⟨a_y, n_y, c_y, b_y, m_y, d_y, g_y, rfl, rfl, R_y, h_yn_7, h_yd_7⟩ := hcut
  have hb := R_y.below
  have h_y_7 : Has w6 wc g_y #[.bool (fr z B).neg, .slice a_y n_y c_y, .slice b_y m_y d_y] := ⟨R_y.below, fun i v h => R_y.cell i v h, R_y.lt⟩
  clear R_y
  have B7 := B6.trans (hb.mono B6.size)
  have h_xn_7 := h_xn_6.below hb
  have h_xd_7 := h_xd_6.below hb
  have h_x_7 := h_x_6.later hb
  have h_rn_7 := h_rn_6.below hb
  have h_rd_7 := h_rd_6.below hb
  have h_r_7 := h_r_6.later hb
  clear hb B6 h_xn_6 h_xd_6 h_x_6 h_rn_6 h_rd_6 h_r_6
  obtain ⟨w7, hw⟩ : ∃ w, w = wc := ⟨_, rfl⟩
  subst hw
  go_wp2_with fail
  have hb := (Below.refl w7.heap.size w7).drew
  have B8 := B7.trans (hb.mono B7.size)
  have h_xn_8 := h_xn_7.below hb
  have h_xd_8 := h_xd_7.below hb
  have h_x_8 := h_x_7.later hb
  have h_rn_8 := h_rn_7.below hb
  have h_rd_8 := h_rd_7.below hb
  have h_r_8 := h_r_7.later hb
  have h_y_8 := h_y_7.later hb
  have h_yn_8 := h_yn_7.below hb
  have h_yd_8 := h_yd_7.below hb
  clear hb B7 h_xn_7 h_xd_7 h_x_7 h_rn_7 h_rd_7 h_r_7 h_y_7 h_yn_7 h_yd_7
  refine wp_region_held_drew (S := (fun w' => w'.cell? ⟨g_y, 0, none⟩ = some (.bool (fr z B).neg) ∧ w'.cell? ⟨g_y, 1, none⟩ = some (.slice a_y n_y c_y) ∧ w'.cell? ⟨g_y, 2, none⟩ = some (.slice b_y m_y d_y) ∧ True)) (by kernel_rfl) ?_ (fun hHeld => ?_)
  · exact ⟨h_y_8.cell 0 _ rfl, h_y_8.cell 1 _ rfl, h_y_8.cell 2 _ rfl, trivial⟩
  generalize w7.drew = w8 at *
  refine wpAnyH_take (i := 0) (oi := ?oir37_0) (v := ?vr37_0) ?hir37_0 (by kernel_rfl) (by kernel_rfl) (by kernel_rfl) ?hqr37_0 ?hyr37_0 (by assumption) ?restr37_0
  case hir37_0 => simp only [List.getElem?_toArray, List.getElem?_cons_succ, List.getElem?_cons_zero]; rfl
  case hqr37_0 => exact fun _ _ _ h => h
  case hyr37_0 => (refine Or.inl ⟨by rfl, ?_⟩; intro w hSw; (try dsimp only at hSw); go_simp; all_goals with_reducible rfl)
  try simp only [Act.put, List.setIfInBounds_toArray, List.set_cons_zero, List.set_cons_succ]
  refine wpAnyH_ready (rs := [1]) (by kernel_rfl) (by simp) ?_
  refine AllReadyH.cons (o := ?or38_1) ?hor38_1 (fun K hK => ?kr38_1) AllReadyH.nil
  case hor38_1 => simp only [List.getElem?_toArray, List.getElem?_cons_succ, List.getElem?_cons_zero]; rfl
  go_simp
  have c := whole_any w8 1000000000000001 (by decide) (by decide)
  refine c.mono ?_
  rintro e w9 ⟨a_v, n_v, c_v, b_v, m_v, d_v, rfl, h_vn_9, h_vd_9, hb⟩
  clear c
  have B9 := B8.trans (hb.mono B8.size)
  have h_xn_9 := h_xn_8.below hb
  have h_xd_9 := h_xd_8.below hb
  have h_x_9 := h_x_8.later hb
  have h_rn_9 := h_rn_8.below hb
  have h_rd_9 := h_rd_8.below hb
  have h_r_9 := h_r_8.later hb
  have h_y_9 := h_y_8.later hb
  have h_yn_9 := h_yn_8.below hb
  have h_yd_9 := h_yd_8.below hb
  clear hb B8 h_xn_8 h_xd_8 h_x_8 h_rn_8 h_rd_8 h_r_8 h_y_8 h_yn_8 h_yd_8
  go_wp2_with fail
  clear hHeld
  refine hK.out _ _ ?_ (fun hHeld => ?_)
  · exact ⟨h_y_9.cell 0 _ rfl, h_y_9.cell 1 _ rfl, h_y_9.cell 2 _ rfl, trivial⟩
  clear hK K
  try simp only [Act.put, List.setIfInBounds_toArray, List.set_cons_zero, List.set_cons_succ]
  refine wpAnyH_ready (rs := [2]) (by kernel_rfl) (by simp) ?_
  refine AllReadyH.cons (o := ?or39_2) ?hor39_2 (fun K hK => ?kr39_2) AllReadyH.nil
  case hor39_2 => simp only [List.getElem?_toArray, List.getElem?_cons_succ, List.getElem?_cons_zero]; rfl
  go_simp
  have c := ratCmp_any w9 (g1 := (fr z B).neg) (g2 := ((ofC 1000000000000001 1).1).neg) h_yn_9 h_yd_9 h_vn_9 h_vd_9
  rw [show (⟨(fr z B).neg, (fr z B).num, (fr z B).den⟩ : QV) = fr z B from rfl] at c
  rw [show (⟨((ofC 1000000000000001 1).1).neg, ((ofC 1000000000000001 1).1).num, ((ofC 1000000000000001 1).1).den⟩ : QV) = (ofC 1000000000000001 1).1 from rfl] at c
  rw [C1.out] at c
  refine c.mono ?_
  rintro e w10 ⟨rfl, hb⟩
  clear c
  have B10 := B9.trans (hb.mono B9.size)
  have h_xn_10 := h_xn_9.below hb
  have h_xd_10 := h_xd_9.below hb
  have h_x_10 := h_x_9.later hb
  have h_rn_10 := h_rn_9.below hb
  have h_rd_10 := h_rd_9.below hb
  have h_r_10 := h_r_9.later hb
  have h_y_10 := h_y_9.later hb
  have h_yn_10 := h_yn_9.below hb
  have h_yd_10 := h_yd_9.below hb
  clear hb B9 h_xn_9 h_xd_9 h_x_9 h_rn_9 h_rd_9 h_r_9 h_y_9 h_yn_9 h_yd_9 h_vn_9 h_vd_9
  go_wp2_with fail
  clear hHeld
  refine hK.out _ _ ?_ (fun hHeld => ?_)
  · exact ⟨h_y_10.cell 0 _ rfl, h_y_10.cell 1 _ rfl, h_y_10.cell 2 _ rfl, trivial⟩
  clear hK K
  try simp only [Act.put, List.setIfInBounds_toArray, List.set_cons_zero, List.set_cons_succ]
  refine wpAnyH_take (i := 3) (oi := ?oir40_3) (v := ?vr40_3) ?hir40_3 (by kernel_rfl) (by kernel_rfl) (by kernel_rfl) ?hqr40_3 ?hyr40_3 (by assumption) ?restr40_3
  case hir40_3 => simp only [List.getElem?_toArray, List.getElem?_cons_succ, List.getElem?_cons_zero]; rfl
  case hqr40_3 => exact fun _ _ _ h => h
  case hyr40_3 => (refine Or.inl ⟨by rfl, ?_⟩; intro w hSw; (try dsimp only at hSw); go_simp; all_goals with_reducible rfl)
  try simp only [Act.put, List.setIfInBounds_toArray, List.set_cons_zero, List.set_cons_succ]
  refine wpAnyH_take (i := 4) (oi := ?oir40_4) (v := ?vr40_4) ?hir40_4 (by kernel_rfl) (by kernel_rfl) (by kernel_rfl) ?hqr40_4 ?hyr40_4 (by assumption) ?restr40_4
  case hir40_4 => simp only [List.getElem?_toArray, List.getElem?_cons_succ, List.getElem?_cons_zero]; rfl
  case hqr40_4 => exact fun _ _ _ h => h
  case hyr40_4 => (refine Or.inl ⟨by rfl, ?_⟩; intro w hSw; (try dsimp only at hSw); go_simp; all_goals with_reducible rfl)
  try simp only [Act.put, List.setIfInBounds_toArray, List.set_cons_zero, List.set_cons_succ]
  refine wpAnyH_take (i := 5) (oi := ?oir40_5) (v := ?vr40_5) ?hir40_5 (by kernel_rfl) (by kernel_rfl) (by kernel_rfl) ?hqr40_5 ?hyr40_5 (by assumption) ?restr40_5
  case hir40_5 => simp only [List.getElem?_toArray, List.getElem?_cons_succ, List.getElem?_cons_zero]; rfl
  case hqr40_5 => exact fun _ _ _ h => h
  case hyr40_5 => (refine Or.inl ⟨by rfl, ?_⟩; intro w hSw; (try dsimp only at hSw); go_simp; all_goals with_reducible rfl)
  try simp only [Act.put, List.setIfInBounds_toArray, List.set_cons_zero, List.set_cons_succ]
  refine wpAnyH_take (i := 6) (oi := ?oir40_6) (v := ?vr40_6) ?hir40_6 (by kernel_rfl) (by kernel_rfl) (by kernel_rfl) ?hqr40_6 ?hyr40_6 (by assumption) ?restr40_6
  case hir40_6 => simp only [List.getElem?_toArray, List.getElem?_cons_succ, List.getElem?_cons_zero]; rfl
  case hqr40_6 => exact fun _ _ _ h => h
  case hyr40_6 => (refine Or.inl ⟨by rfl, ?_⟩; intro w hSw; (try dsimp only at hSw); go_simp; all_goals with_reducible rfl)
  try simp only [Act.put, List.setIfInBounds_toArray, List.set_cons_zero, List.set_cons_succ]
  refine wpAnyH_take (i := 7) (oi := ?oir40_7) (v := ?vr40_7) ?hir40_7 (by kernel_rfl) (by kernel_rfl) (by kernel_rfl) ?hqr40_7 ?hyr40_7 (by assumption) ?restr40_7
  case hir40_7 => simp only [List.getElem?_toArray, List.getElem?_cons_succ, List.getElem?_cons_zero]; rfl
  case hqr40_7 => exact fun _ _ _ h => h
  case hyr40_7 => (refine Or.inl ⟨by rfl, ?_⟩; intro w hSw; (try dsimp only at hSw); go_simp; all_goals with_reducible rfl)
  try simp only [Act.put, List.setIfInBounds_toArray, List.set_cons_zero, List.set_cons_succ]
  refine wpAnyH_done (by kernel_rfl) ?_ _
  clear hHeld
  go_wp2_with fail
  have hb := (Below.refl w10.heap.size w10).drew
  have B11 := B10.trans (hb.mono B10.size)
  have h_xn_11 := h_xn_10.below hb
  have h_xd_11 := h_xd_10.below hb
  have h_x_11 := h_x_10.later hb
  have h_rn_11 := h_rn_10.below hb
  have h_rd_11 := h_rd_10.below hb
  have h_r_11 := h_r_10.later hb
  have h_y_11 := h_y_10.later hb
  have h_yn_11 := h_yn_10.below hb
  have h_yd_11 := h_yd_10.below hb
  clear hb B10 h_xn_10 h_xd_10 h_x_10 h_rn_10 h_rd_10 h_r_10 h_y_10 h_yn_10 h_yd_10
  refine wp_region_held_drew (S := (fun w' => w'.cell? ⟨g_y, 0, none⟩ = some (.bool (fr z B).neg) ∧ w'.cell? ⟨g_y, 1, none⟩ = some (.slice a_y n_y c_y) ∧ w'.cell? ⟨g_y, 2, none⟩ = some (.slice b_y m_y d_y) ∧ True)) (by kernel_rfl) ?_ (fun hHeld => ?_)
  · exact ⟨h_y_11.cell 0 _ rfl, h_y_11.cell 1 _ rfl, h_y_11.cell 2 _ rfl, trivial⟩
  generalize w10.drew = w11 at *
  refine wpAnyH_take (i := 0) (oi := ?oir41_0) (v := ?vr41_0) ?hir41_0 (by kernel_rfl) (by kernel_rfl) (by kernel_rfl) ?hqr41_0 ?hyr41_0 (by assumption) ?restr41_0
  case hir41_0 => simp only [List.getElem?_toArray, List.getElem?_cons_succ, List.getElem?_cons_zero]; rfl
  case hqr41_0 => exact fun _ _ _ h => h
  case hyr41_0 => (refine Or.inl ⟨by rfl, ?_⟩; intro w hSw; (try dsimp only at hSw); go_simp; all_goals with_reducible rfl)
  try simp only [Act.put, List.setIfInBounds_toArray, List.set_cons_zero, List.set_cons_succ]
  refine wpAnyH_take (i := 2) (oi := ?oir41_2) (v := ?vr41_2) ?hir41_2 (by kernel_rfl) (by kernel_rfl) (by kernel_rfl) ?hqr41_2 ?hyr41_2 (by assumption) ?restr41_2
  case hir41_2 => simp only [List.getElem?_toArray, List.getElem?_cons_succ, List.getElem?_cons_zero]; rfl
  case hqr41_2 => exact fun _ _ _ h => h
  case hyr41_2 => (refine Or.inl ⟨by rfl, ?_⟩; intro w hSw; (try dsimp only at hSw); go_simp; all_goals with_reducible rfl)
  try simp only [Act.put, List.setIfInBounds_toArray, List.set_cons_zero, List.set_cons_succ]
  refine wpAnyH_ready (rs := [1]) (by kernel_rfl) (by simp) ?_
  refine AllReadyH.cons (o := ?or42_1) ?hor42_1 (fun K hK => ?kr42_1) AllReadyH.nil
  case hor42_1 => simp only [List.getElem?_toArray, List.getElem?_cons_succ, List.getElem?_cons_zero]; rfl
  go_simp
  have c := whole_any w11 k k1 k2
  rw [WK.out] at c
  refine c.mono ?_
  rintro e w12 ⟨a_v, n_v, c_v, b_v, m_v, d_v, rfl, h_vn_12, h_vd_12, hb⟩
  clear c
  have B12 := B11.trans (hb.mono B11.size)
  have h_xn_12 := h_xn_11.below hb
  have h_xd_12 := h_xd_11.below hb
  have h_x_12 := h_x_11.later hb
  have h_rn_12 := h_rn_11.below hb
  have h_rd_12 := h_rd_11.below hb
  have h_r_12 := h_r_11.later hb
  have h_y_12 := h_y_11.later hb
  have h_yn_12 := h_yn_11.below hb
  have h_yd_12 := h_yd_11.below hb
  clear hb B11 h_xn_11 h_xd_11 h_x_11 h_rn_11 h_rd_11 h_r_11 h_y_11 h_yn_11 h_yd_11
  go_wp2_with fail
  clear hHeld
  refine hK.out _ _ ?_ (fun hHeld => ?_)
  · exact ⟨h_y_12.cell 0 _ rfl, h_y_12.cell 1 _ rfl, h_y_12.cell 2 _ rfl, trivial⟩
  clear hK K
  try simp only [Act.put, List.setIfInBounds_toArray, List.set_cons_zero, List.set_cons_succ]
  refine wpAnyH_ready (rs := [3]) (by kernel_rfl) (by simp) ?_
  refine AllReadyH.cons (o := ?or43_3) ?hor43_3 (fun K hK => ?kr43_3) AllReadyH.nil
  case hor43_3 => simp only [List.getElem?_toArray, List.getElem?_cons_succ, List.getElem?_cons_zero]; rfl
  go_simp
  have c := ratCmp_any w12 (g1 := (fr t 1).neg) (g2 := (fr z B).neg) h_vn_12 h_vd_12 h_yn_12 h_yd_12
  rw [show (⟨(fr t 1).neg, (fr t 1).num, (fr t 1).den⟩ : QV) = fr t 1 from rfl] at c
  rw [show (⟨(fr z B).neg, (fr z B).num, (fr z B).den⟩ : QV) = fr z B from rfl] at c
  rw [C2.out] at c
  refine c.mono ?_
  rintro e w13 ⟨rfl, hb⟩
  clear c
  have B13 := B12.trans (hb.mono B12.size)
  have h_xn_13 := h_xn_12.below hb
  have h_xd_13 := h_xd_12.below hb
  have h_x_13 := h_x_12.later hb
  have h_rn_13 := h_rn_12.below hb
  have h_rd_13 := h_rd_12.below hb
  have h_r_13 := h_r_12.later hb
  have h_y_13 := h_y_12.later hb
  have h_yn_13 := h_yn_12.below hb
  have h_yd_13 := h_yd_12.below hb
  clear hb B12 h_xn_12 h_xd_12 h_x_12 h_rn_12 h_rd_12 h_r_12 h_y_12 h_yn_12 h_yd_12 h_vn_12 h_vd_12
  go_wp2_with fail
  clear hHeld
  refine hK.out _ _ ?_ (fun hHeld => ?_)
  · exact ⟨h_y_13.cell 0 _ rfl, h_y_13.cell 1 _ rfl, h_y_13.cell 2 _ rfl, trivial⟩
  clear hK K
  try simp only [Act.put, List.setIfInBounds_toArray, List.set_cons_zero, List.set_cons_succ]
  refine wpAnyH_take (i := 4) (oi := ?oir44_4) (v := ?vr44_4) ?hir44_4 (by kernel_rfl) (by kernel_rfl) (by kernel_rfl) ?hqr44_4 ?hyr44_4 (by assumption) ?restr44_4
  case hir44_4 => simp only [List.getElem?_toArray, List.getElem?_cons_succ, List.getElem?_cons_zero]; rfl
  case hqr44_4 => exact fun _ _ _ h => h
  case hyr44_4 => (refine Or.inl ⟨by rfl, ?_⟩; intro w hSw; (try dsimp only at hSw); go_simp; all_goals with_reducible rfl)
  try simp only [Act.put, List.setIfInBounds_toArray, List.set_cons_zero, List.set_cons_succ]
  refine wpAnyH_take (i := 5) (oi := ?oir44_5) (v := ?vr44_5) ?hir44_5 (by kernel_rfl) (by kernel_rfl) (by kernel_rfl) ?hqr44_5 ?hyr44_5 (by assumption) ?restr44_5
  case hir44_5 => simp only [List.getElem?_toArray, List.getElem?_cons_succ, List.getElem?_cons_zero]; rfl
  case hqr44_5 => exact fun _ _ _ h => h
  case hyr44_5 => (refine Or.inl ⟨by rfl, ?_⟩; intro w hSw; (try dsimp only at hSw); go_simp; all_goals with_reducible rfl)
  try simp only [Act.put, List.setIfInBounds_toArray, List.set_cons_zero, List.set_cons_succ]
  refine wpAnyH_take (i := 6) (oi := ?oir44_6) (v := ?vr44_6) ?hir44_6 (by kernel_rfl) (by kernel_rfl) (by kernel_rfl) ?hqr44_6 ?hyr44_6 (by assumption) ?restr44_6
  case hir44_6 => simp only [List.getElem?_toArray, List.getElem?_cons_succ, List.getElem?_cons_zero]; rfl
  case hqr44_6 => exact fun _ _ _ h => h
  case hyr44_6 => (refine Or.inl ⟨by rfl, ?_⟩; intro w hSw; (try dsimp only at hSw); go_simp; all_goals with_reducible rfl)
  try simp only [Act.put, List.setIfInBounds_toArray, List.set_cons_zero, List.set_cons_succ]
  refine wpAnyH_take (i := 7) (oi := ?oir44_7) (v := ?vr44_7) ?hir44_7 (by kernel_rfl) (by kernel_rfl) (by kernel_rfl) ?hqr44_7 ?hyr44_7 (by assumption) ?restr44_7
  case hir44_7 => simp only [List.getElem?_toArray, List.getElem?_cons_succ, List.getElem?_cons_zero]; rfl
  case hqr44_7 => exact fun _ _ _ h => h
  case hyr44_7 => (refine Or.inl ⟨by rfl, ?_⟩; intro w hSw; (try dsimp only at hSw); go_simp; all_goals with_reducible rfl)
  try simp only [Act.put, List.setIfInBounds_toArray, List.set_cons_zero, List.set_cons_succ]
  refine wpAnyH_take (i := 8) (oi := ?oir44_8) (v := ?vr44_8) ?hir44_8 (by kernel_rfl) (by kernel_rfl) (by kernel_rfl) ?hqr44_8 ?hyr44_8 (by assumption) ?restr44_8
  case hir44_8 => simp only [List.getElem?_toArray, List.getElem?_cons_succ, List.getElem?_cons_zero]; rfl
  case hqr44_8 => exact fun _ _ _ h => h
  case hyr44_8 => (refine Or.inl ⟨by rfl, ?_⟩; intro w hSw; (try dsimp only at hSw); go_simp; all_goals with_reducible rfl)
  try simp only [Act.put, List.setIfInBounds_toArray, List.set_cons_zero, List.set_cons_succ]
  refine wpAnyH_done (by kernel_rfl) ?_ _
  clear hHeld
  go_wp2_with fail
  have hb := (Below.refl w13.heap.size w13).drew
  have B14 := B13.trans (hb.mono B13.size)
  have h_xn_14 := h_xn_13.below hb
  have h_xd_14 := h_xd_13.below hb
  have h_x_14 := h_x_13.later hb
  have h_rn_14 := h_rn_13.below hb
  have h_rd_14 := h_rd_13.below hb
  have h_r_14 := h_r_13.later hb
  have h_y_14 := h_y_13.later hb
  have h_yn_14 := h_yn_13.below hb
  have h_yd_14 := h_yd_13.below hb
  clear hb B13 h_xn_13 h_xd_13 h_x_13 h_rn_13 h_rd_13 h_r_13 h_y_13 h_yn_13 h_yd_13
  refine wp_region_held_drew (S := (fun w' => w'.cell? ⟨g_y, 0, none⟩ = some (.bool (fr z B).neg) ∧ w'.cell? ⟨g_y, 1, none⟩ = some (.slice a_y n_y c_y) ∧ w'.cell? ⟨g_y, 2, none⟩ = some (.slice b_y m_y d_y) ∧ True)) (by kernel_rfl) ?_ (fun hHeld => ?_)
  · exact ⟨h_y_14.cell 0 _ rfl, h_y_14.cell 1 _ rfl, h_y_14.cell 2 _ rfl, trivial⟩
  generalize w13.drew = w14 at *
  refine wpAnyH_take (i := 0) (oi := ?oir45_0) (v := ?vr45_0) ?hir45_0 (by kernel_rfl) (by kernel_rfl) (by kernel_rfl) ?hqr45_0 ?hyr45_0 (by assumption) ?restr45_0
  case hir45_0 => simp only [List.getElem?_toArray, List.getElem?_cons_succ, List.getElem?_cons_zero]; rfl
  case hqr45_0 => exact fun _ _ _ h => h
  case hyr45_0 => (refine Or.inl ⟨by rfl, ?_⟩; intro w hSw; (try dsimp only at hSw); go_simp; all_goals with_reducible rfl)
  try simp only [Act.put, List.setIfInBounds_toArray, List.set_cons_zero, List.set_cons_succ]
  refine wpAnyH_take (i := 1) (oi := ?oir45_1) (v := ?vr45_1) ?hir45_1 (by kernel_rfl) (by kernel_rfl) (by kernel_rfl) ?hqr45_1 ?hyr45_1 (by assumption) ?restr45_1
  case hir45_1 => simp only [List.getElem?_toArray, List.getElem?_cons_succ, List.getElem?_cons_zero]; rfl
  case hqr45_1 => exact fun _ _ _ h => h
  case hyr45_1 => (refine Or.inl ⟨by rfl, ?_⟩; intro w hSw; (try dsimp only at hSw); go_simp; all_goals with_reducible rfl)
  try simp only [Act.put, List.setIfInBounds_toArray, List.set_cons_zero, List.set_cons_succ]
  refine wpAnyH_take (i := 3) (oi := ?oir45_3) (v := ?vr45_3) ?hir45_3 (by kernel_rfl) (by kernel_rfl) (by kernel_rfl) ?hqr45_3 ?hyr45_3 (by assumption) ?restr45_3
  case hir45_3 => simp only [List.getElem?_toArray, List.getElem?_cons_succ, List.getElem?_cons_zero]; rfl
  case hqr45_3 => exact fun _ _ _ h => h
  case hyr45_3 => (refine Or.inl ⟨by rfl, ?_⟩; intro w hSw; (try dsimp only at hSw); go_simp; all_goals with_reducible rfl)
  try simp only [Act.put, List.setIfInBounds_toArray, List.set_cons_zero, List.set_cons_succ]
  refine wpAnyH_ready (rs := [2]) (by kernel_rfl) (by simp) ?_
  refine AllReadyH.cons (o := ?or46_2) ?hor46_2 (fun K hK => ?kr46_2) AllReadyH.nil
  case hor46_2 => simp only [List.getElem?_toArray, List.getElem?_cons_succ, List.getElem?_cons_zero]; rfl
  go_simp
  have c := whole_any w14 m m1 m2
  rw [WM.out] at c
  refine c.mono ?_
  rintro e w15 ⟨a_v, n_v, c_v, b_v, m_v, d_v, rfl, h_vn_15, h_vd_15, hb⟩
  clear c
  have B15 := B14.trans (hb.mono B14.size)
  have h_xn_15 := h_xn_14.below hb
  have h_xd_15 := h_xd_14.below hb
  have h_x_15 := h_x_14.later hb
  have h_rn_15 := h_rn_14.below hb
  have h_rd_15 := h_rd_14.below hb
  have h_r_15 := h_r_14.later hb
  have h_y_15 := h_y_14.later hb
  have h_yn_15 := h_yn_14.below hb
  have h_yd_15 := h_yd_14.below hb
  clear hb B14 h_xn_14 h_xd_14 h_x_14 h_rn_14 h_rd_14 h_r_14 h_y_14 h_yn_14 h_yd_14
  go_wp2_with fail
  clear hHeld
  refine hK.out _ _ ?_ (fun hHeld => ?_)
  · exact ⟨h_y_15.cell 0 _ rfl, h_y_15.cell 1 _ rfl, h_y_15.cell 2 _ rfl, trivial⟩
  clear hK K
  try simp only [Act.put, List.setIfInBounds_toArray, List.set_cons_zero, List.set_cons_succ]
  refine wpAnyH_ready (rs := [4]) (by kernel_rfl) (by simp) ?_
  refine AllReadyH.cons (o := ?or47_4) ?hor47_4 (fun K hK => ?kr47_4) AllReadyH.nil
  case hor47_4 => simp only [List.getElem?_toArray, List.getElem?_cons_succ, List.getElem?_cons_zero]; rfl
  go_simp
  have c := ratCmp_any w15 (g1 := (fr (t + 1) 1).neg) (g2 := (fr z B).neg) h_vn_15 h_vd_15 h_yn_15 h_yd_15
  rw [show (⟨(fr (t + 1) 1).neg, (fr (t + 1) 1).num, (fr (t + 1) 1).den⟩ : QV) = fr (t + 1) 1 from rfl] at c
  rw [show (⟨(fr z B).neg, (fr z B).num, (fr z B).den⟩ : QV) = fr z B from rfl] at c
  rw [C3.out] at c
  refine c.mono ?_
  rintro e w16 ⟨rfl, hb⟩
  clear c
  have B16 := B15.trans (hb.mono B15.size)
  have h_xn_16 := h_xn_15.below hb
  have h_xd_16 := h_xd_15.below hb
  have h_x_16 := h_x_15.later hb
  have h_rn_16 := h_rn_15.below hb
  have h_rd_16 := h_rd_15.below hb
  have h_r_16 := h_r_15.later hb
  have h_y_16 := h_y_15.later hb
  have h_yn_16 := h_yn_15.below hb
  have h_yd_16 := h_yd_15.below hb
  clear hb B15 h_xn_15 h_xd_15 h_x_15 h_rn_15 h_rd_15 h_r_15 h_y_15 h_yn_15 h_yd_15 h_vn_15 h_vd_15
  go_wp2_with fail
  clear hHeld
  refine hK.out _ _ ?_ (fun hHeld => ?_)
  · exact ⟨h_y_16.cell 0 _ rfl, h_y_16.cell 1 _ rfl, h_y_16.cell 2 _ rfl, trivial⟩
  clear hK K
  try simp only [Act.put, List.setIfInBounds_toArray, List.set_cons_zero, List.set_cons_succ]
  refine wpAnyH_take (i := 5) (oi := ?oir48_5) (v := ?vr48_5) ?hir48_5 (by kernel_rfl) (by kernel_rfl) (by kernel_rfl) ?hqr48_5 ?hyr48_5 (by assumption) ?restr48_5
  case hir48_5 => simp only [List.getElem?_toArray, List.getElem?_cons_succ, List.getElem?_cons_zero]; rfl
  case hqr48_5 => exact fun _ _ _ h => h
  case hyr48_5 => (refine Or.inl ⟨by rfl, ?_⟩; intro w hSw; (try dsimp only at hSw); go_simp; all_goals with_reducible rfl)
  try simp only [Act.put, List.setIfInBounds_toArray, List.set_cons_zero, List.set_cons_succ]
  refine wpAnyH_take (i := 6) (oi := ?oir48_6) (v := ?vr48_6) ?hir48_6 (by kernel_rfl) (by kernel_rfl) (by kernel_rfl) ?hqr48_6 ?hyr48_6 (by assumption) ?restr48_6
  case hir48_6 => simp only [List.getElem?_toArray, List.getElem?_cons_succ, List.getElem?_cons_zero]; rfl
  case hqr48_6 => exact fun _ _ _ h => h
  case hyr48_6 => (refine Or.inl ⟨by rfl, ?_⟩; intro w hSw; (try dsimp only at hSw); go_simp; all_goals with_reducible rfl)
  try simp only [Act.put, List.setIfInBounds_toArray, List.set_cons_zero, List.set_cons_succ]
  refine wpAnyH_take (i := 7) (oi := ?oir48_7) (v := ?vr48_7) ?hir48_7 (by kernel_rfl) (by kernel_rfl) (by kernel_rfl) ?hqr48_7 ?hyr48_7 (by assumption) ?restr48_7
  case hir48_7 => simp only [List.getElem?_toArray, List.getElem?_cons_succ, List.getElem?_cons_zero]; rfl
  case hqr48_7 => exact fun _ _ _ h => h
  case hyr48_7 => (refine Or.inl ⟨by rfl, ?_⟩; intro w hSw; (try dsimp only at hSw); go_simp; all_goals with_reducible rfl)
  try simp only [Act.put, List.setIfInBounds_toArray, List.set_cons_zero, List.set_cons_succ]
  refine wpAnyH_take (i := 8) (oi := ?oir48_8) (v := ?vr48_8) ?hir48_8 (by kernel_rfl) (by kernel_rfl) (by kernel_rfl) ?hqr48_8 ?hyr48_8 (by assumption) ?restr48_8
  case hir48_8 => simp only [List.getElem?_toArray, List.getElem?_cons_succ, List.getElem?_cons_zero]; rfl
  case hqr48_8 => exact fun _ _ _ h => h
  case hyr48_8 => (refine Or.inl ⟨by rfl, ?_⟩; intro w hSw; (try dsimp only at hSw); go_simp; all_goals with_reducible rfl)
  try simp only [Act.put, List.setIfInBounds_toArray, List.set_cons_zero, List.set_cons_succ]
  refine wpAnyH_take (i := 9) (oi := ?oir48_9) (v := ?vr48_9) ?hir48_9 (by kernel_rfl) (by kernel_rfl) (by kernel_rfl) ?hqr48_9 ?hyr48_9 (by assumption) ?restr48_9
  case hir48_9 => simp only [List.getElem?_toArray, List.getElem?_cons_succ, List.getElem?_cons_zero]; rfl
  case hqr48_9 => exact fun _ _ _ h => h
  case hyr48_9 => (refine Or.inl ⟨by rfl, ?_⟩; intro w hSw; (try dsimp only at hSw); go_simp; all_goals with_reducible rfl)
  try simp only [Act.put, List.setIfInBounds_toArray, List.set_cons_zero, List.set_cons_succ]
  refine wpAnyH_done (by kernel_rfl) ?_ _
  clear hHeld
  go_wp2_with fail
  have c := wakes_any w16
  refine c.mono ?_
  rintro e w17 ⟨rfl, hb⟩
  clear c
  have B17 := B16.trans (hb.mono B16.size)
  have h_xn_17 := h_xn_16.below hb
  have h_xd_17 := h_xd_16.below hb
  have h_x_17 := h_x_16.later hb
  have h_rn_17 := h_rn_16.below hb
  have h_rd_17 := h_rd_16.below hb
  have h_r_17 := h_r_16.later hb
  have h_y_17 := h_y_16.later hb
  have h_yn_17 := h_yn_16.below hb
  have h_yd_17 := h_yd_16.below hb
  clear hb B16 h_xn_16 h_xd_16 h_x_16 h_rn_16 h_rd_16 h_r_16 h_y_16 h_yn_16 h_yd_16
  go_wp2_with fail
  go_ret
  exact ⟨rfl, B17⟩

end Go.Proofs.Ytfcejgeckcoefaa
