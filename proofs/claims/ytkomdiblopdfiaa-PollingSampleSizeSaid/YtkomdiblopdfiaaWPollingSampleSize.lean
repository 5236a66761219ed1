/- The walk of the law PollingSampleSize: it returns true and turns nothing that was there. No condition. Printed by gen_pollaws.py. -/
import Derived.Test.YtkomdiblopdfiaaPolU
import Derived.Test.YtkomdiblopdfiaaPolT
import Derived.Deep.CutRange
import Derived.BigQuiet
namespace Go.Proofs.Ytkomdiblopdfiaa
open Go.RowKit Go.Suf
set_option linter.unusedVariables false
set_option linter.unusedSimpArgs false

set_option maxRecDepth 100000 in
set_option maxHeartbeats 8000000 in
theorem pollingSampleSize_walk (w : World) (bet : Int) (h_bet1 : -9223372036854775808 ≤ bet) (h_bet2 : bet ≤ 9223372036854775807) {g_x : Bool} {a_x b_x : Option Addr} {n_x c_x m_x d_x : Nat} {xn xd : List Nat} (h_xn : Rd .u32 w a_x n_x c_x xn) (h_xd : Rd .u32 w b_x m_x d_x xd) {g_y : Bool} {a_y b_y : Option Addr} {n_y c_y m_y d_y : Nat} {yn yd : List Nat} (h_yn : Rd .u32 w a_y n_y c_y yn) (h_yd : Rd .u32 w b_y m_y d_y yd) :
    Calls Try.prog 9 #[.int .i64 bet, ratV g_x a_x n_x c_x b_x m_x d_x, ratV g_y a_y n_y c_y b_y m_y d_y] w fun e w' => e = .returned (.bool true) ∧ Below w.heap.size w w' := by
  have B0 : Below w.heap.size w w := Below.refl _ _
  have h_xn_0 := h_xn
  have h_xd_0 := h_xd
  have h_yn_0 := h_yn
  have h_yd_0 := h_yd
  by_cases e1 : bet < 50
  case pos =>
    have d1 : decide (bet < 50) = true := decide_eq_true e1
    clear e1
    go_enter Try.func9, Try.ntmps9
    have hb := below_al w (.cells #[.bool g_x, .slice a_x n_x c_x, .slice b_x m_x d_x] 33)
    have B1 := B0.trans (hb.mono B0.size)
    have h_xn_1 := h_xn_0.below hb
    have h_xd_1 := h_xd_0.below hb
    have h_yn_1 := h_yn_0.below hb
    have h_yd_1 := h_yd_0.below hb
    clear hb B0 h_xn_0 h_xd_0 h_yn_0 h_yd_0
    have h_x_1 := Has.new w #[.bool g_x, .slice a_x n_x c_x, .slice b_x m_x d_x] 33
    have hb := below_al (w.alloc (.cells #[.bool g_x, .slice a_x n_x c_x, .slice b_x m_x d_x] 33)) (.cells #[.bool g_y, .slice a_y n_y c_y, .slice b_y m_y d_y] 33)
    have B2 := B1.trans (hb.mono B1.size)
    have h_xn_2 := h_xn_1.below hb
    have h_xd_2 := h_xd_1.below hb
    have h_yn_2 := h_yn_1.below hb
    have h_yd_2 := h_yd_1.below hb
    have h_x_2 := h_x_1.later hb
    clear hb B1 h_xn_1 h_xd_1 h_yn_1 h_yd_1 h_x_1
    have h_y_2 := Has.new (w.alloc (.cells #[.bool g_x, .slice a_x n_x c_x, .slice b_x m_x d_x] 33)) #[.bool g_y, .slice a_y n_y c_y, .slice b_y m_y d_y] 33
    simp only [World.size_alloc] at h_y_2
    go_wp2_with fail
    generalize ((w.alloc (.cells #[.bool g_x, .slice a_x n_x c_x, .slice b_x m_x d_x] 33)).alloc (.cells #[.bool g_y, .slice a_y n_y c_y, .slice b_y m_y d_y] 33)) = w2 at *
    go_wp2_with fail
    have c := examples_any w2
    refine c.mono ?_
    rintro e w3 ⟨rfl, hb⟩
    clear c
    have B3 := B2.trans (hb.mono B2.size)
    have h_xn_3 := h_xn_2.below hb
    have h_xd_3 := h_xd_2.below hb
    have h_yn_3 := h_yn_2.below hb
    have h_yd_3 := h_yd_2.below hb
    have h_x_3 := h_x_2.later hb
    have h_y_3 := h_y_2.later hb
    clear hb B2 h_xn_2 h_xd_2 h_yn_2 h_yd_2 h_x_2 h_y_2
    go_wp2_with fail
    go_ret
    exact ⟨rfl, B3⟩
  have d1 : decide (bet < 50) = false := decide_eq_false e1
  by_cases e2 : 999 < bet
  case pos =>
    have d2 : decide (999 < bet) = true := decide_eq_true e2
    clear e1 e2
    go_enter Try.func9, Try.ntmps9
    have hb := below_al w (.cells #[.bool g_x, .slice a_x n_x c_x, .slice b_x m_x d_x] 33)
    have B1 := B0.trans (hb.mono B0.size)
    have h_xn_1 := h_xn_0.below hb
    have h_xd_1 := h_xd_0.below hb
    have h_yn_1 := h_yn_0.below hb
    have h_yd_1 := h_yd_0.below hb
    clear hb B0 h_xn_0 h_xd_0 h_yn_0 h_yd_0
    have h_x_1 := Has.new w #[.bool g_x, .slice a_x n_x c_x, .slice b_x m_x d_x] 33
    have hb := below_al (w.alloc (.cells #[.bool g_x, .slice a_x n_x c_x, .slice b_x m_x d_x] 33)) (.cells #[.bool g_y, .slice a_y n_y c_y, .slice b_y m_y d_y] 33)
    have B2 := B1.trans (hb.mono B1.size)
    have h_xn_2 := h_xn_1.below hb
    have h_xd_2 := h_xd_1.below hb
    have h_yn_2 := h_yn_1.below hb
    have h_yd_2 := h_yd_1.below hb
    have h_x_2 := h_x_1.later hb
    clear hb B1 h_xn_1 h_xd_1 h_yn_1 h_yd_1 h_x_1
    have h_y_2 := Has.new (w.alloc (.cells #[.bool g_x, .slice a_x n_x c_x, .slice b_x m_x d_x] 33)) #[.bool g_y, .slice a_y n_y c_y, .slice b_y m_y d_y] 33
    simp only [World.size_alloc] at h_y_2
    go_wp2_with fail
    generalize ((w.alloc (.cells #[.bool g_x, .slice a_x n_x c_x, .slice b_x m_x d_x] 33)).alloc (.cells #[.bool g_y, .slice a_y n_y c_y, .slice b_y m_y d_y] 33)) = w2 at *
    go_wp2_with fail
    have c := examples_any w2
    refine c.mono ?_
    rintro e w3 ⟨rfl, hb⟩
    clear c
    have B3 := B2.trans (hb.mono B2.size)
    have h_xn_3 := h_xn_2.below hb
    have h_xd_3 := h_xd_2.below hb
    have h_yn_3 := h_yn_2.below hb
    have h_yd_3 := h_yd_2.below hb
    have h_x_3 := h_x_2.later hb
    have h_y_3 := h_y_2.later hb
    clear hb B2 h_xn_2 h_xd_2 h_yn_2 h_yd_2 h_x_2 h_y_2
    go_wp2_with fail
    go_ret
    exact ⟨rfl, B3⟩
  have d2 : decide (999 < bet) = false := decide_eq_false e2
  have BO := Lib.hid (show betOk bet = true from decide_eq_true ⟨by omega, by omega⟩)
  clear e1 e2
  by_cases e4 : limC ⟨g_x, xn, xd⟩ = 0
  case neg =>
    obtain ⟨z, hz⟩ : ∃ z, z = limC ⟨g_x, xn, xd⟩ := ⟨_, rfl⟩
    rw [← hz] at e4
    have HZ := Lib.hid hz.symm
    have dz : (z != 0) = true := by rw [bne_iff_ne]; exact e4
    clear hz e4
    go_enter Try.func9, Try.ntmps9
    have hb := below_al w (.cells #[.bool g_x, .slice a_x n_x c_x, .slice b_x m_x d_x] 33)
    have B1 := B0.trans (hb.mono B0.size)
    have h_xn_1 := h_xn_0.below hb
    have h_xd_1 := h_xd_0.below hb
    have h_yn_1 := h_yn_0.below hb
    have h_yd_1 := h_yd_0.below hb
    clear hb B0 h_xn_0 h_xd_0 h_yn_0 h_yd_0
    have h_x_1 := Has.new w #[.bool g_x, .slice a_x n_x c_x, .slice b_x m_x d_x] 33
    have hb := below_al (w.alloc (.cells #[.bool g_x, .slice a_x n_x c_x, .slice b_x m_x d_x] 33)) (.cells #[.bool g_y, .slice a_y n_y c_y, .slice b_y m_y d_y] 33)
    have B2 := B1.trans (hb.mono B1.size)
    have h_xn_2 := h_xn_1.below hb
    have h_xd_2 := h_xd_1.below hb
    have h_yn_2 := h_yn_1.below hb
    have h_yd_2 := h_yd_1.below hb
    have h_x_2 := h_x_1.later hb
    clear hb B1 h_xn_1 h_xd_1 h_yn_1 h_yd_1 h_x_1
    have h_y_2 := Has.new (w.alloc (.cells #[.bool g_x, .slice a_x n_x c_x, .slice b_x m_x d_x] 33)) #[.bool g_y, .slice a_y n_y c_y, .slice b_y m_y d_y] 33
    simp only [World.size_alloc] at h_y_2
    have k_x_0 := h_x_2.cell 0 _ rfl
    have k_x_1 := h_x_2.cell 1 _ rfl
    have k_x_2 := h_x_2.cell 2 _ rfl
    go_wp2_with fail
    clear k_x_0 k_x_1 k_x_2
    generalize ((w.alloc (.cells #[.bool g_x, .slice a_x n_x c_x, .slice b_x m_x d_x] 33)).alloc (.cells #[.bool g_y, .slice a_y n_y c_y, .slice b_y m_y d_y] 33)) = w2 at *
    have c := refCheckLimit_any w2 (g := g_x) h_xn_2 h_xd_2
    rw [HZ.out] at c
    refine c.mono ?_
    rintro e w3 ⟨rfl, hb⟩
    clear c
    have B3 := B2.trans (hb.mono B2.size)
    have h_xn_3 := h_xn_2.below hb
    have h_xd_3 := h_xd_2.below hb
    have h_yn_3 := h_yn_2.below hb
    have h_yd_3 := h_yd_2.below hb
    have h_x_3 := h_x_2.later hb
    have h_y_3 := h_y_2.later hb
    clear hb B2 h_xn_2 h_xd_2 h_yn_2 h_yd_2 h_x_2 h_y_2
    go_wp2_with fail
    have c := examples_any w3
    refine c.mono ?_
    rintro e w4 ⟨rfl, hb⟩
    clear c
    have B4 := B3.trans (hb.mono B3.size)
    have h_xn_4 := h_xn_3.below hb
    have h_xd_4 := h_xd_3.below hb
    have h_yn_4 := h_yn_3.below hb
    have h_yd_4 := h_yd_3.below hb
    have h_x_4 := h_x_3.later hb
    have h_y_4 := h_y_3.later hb
    clear hb B3 h_xn_3 h_xd_3 h_yn_3 h_yd_3 h_x_3 h_y_3
    go_wp2_with fail
    go_ret
    exact ⟨rfl, B4⟩
  have E4 := Lib.hid e4
  clear e4
  by_cases e5 : limC ⟨g_y, yn, yd⟩ = 0
  case neg =>
    obtain ⟨z, hz⟩ : ∃ z, z = limC ⟨g_y, yn, yd⟩ := ⟨_, rfl⟩
    rw [← hz] at e5
    have HZ := Lib.hid hz.symm
    have dz : (z != 0) = true := by rw [bne_iff_ne]; exact e5
    clear hz e5
    go_enter Try.func9, Try.ntmps9
    have hb := below_al w (.cells #[.bool g_x, .slice a_x n_x c_x, .slice b_x m_x d_x] 33)
    have B1 := B0.trans (hb.mono B0.size)
    have h_xn_1 := h_xn_0.below hb
    have h_xd_1 := h_xd_0.below hb
    have h_yn_1 := h_yn_0.below hb
    have h_yd_1 := h_yd_0.below hb
    clear hb B0 h_xn_0 h_xd_0 h_yn_0 h_yd_0
    have h_x_1 := Has.new w #[.bool g_x, .slice a_x n_x c_x, .slice b_x m_x d_x] 33
    have hb := below_al (w.alloc (.cells #[.bool g_x, .slice a_x n_x c_x, .slice b_x m_x d_x] 33)) (.cells #[.bool g_y, .slice a_y n_y c_y, .slice b_y m_y d_y] 33)
    have B2 := B1.trans (hb.mono B1.size)
    have h_xn_2 := h_xn_1.below hb
    have h_xd_2 := h_xd_1.below hb
    have h_yn_2 := h_yn_1.below hb
    have h_yd_2 := h_yd_1.below hb
    have h_x_2 := h_x_1.later hb
    clear hb B1 h_xn_1 h_xd_1 h_yn_1 h_yd_1 h_x_1
    have h_y_2 := Has.new (w.alloc (.cells #[.bool g_x, .slice a_x n_x c_x, .slice b_x m_x d_x] 33)) #[.bool g_y, .slice a_y n_y c_y, .slice b_y m_y d_y] 33
    simp only [World.size_alloc] at h_y_2
    have k_x_0 := h_x_2.cell 0 _ rfl
    have k_x_1 := h_x_2.cell 1 _ rfl
    have k_x_2 := h_x_2.cell 2 _ rfl
    go_wp2_with fail
    clear k_x_0 k_x_1 k_x_2
    generalize ((w.alloc (.cells #[.bool g_x, .slice a_x n_x c_x, .slice b_x m_x d_x] 33)).alloc (.cells #[.bool g_y, .slice a_y n_y c_y, .slice b_y m_y d_y] 33)) = w2 at *
    have c := refCheckLimit_any w2 (g := g_x) h_xn_2 h_xd_2
    rw [E4.out] at c
    refine c.mono ?_
    rintro e w3 ⟨rfl, hb⟩
    clear c
    have B3 := B2.trans (hb.mono B2.size)
    have h_xn_3 := h_xn_2.below hb
    have h_xd_3 := h_xd_2.below hb
    have h_yn_3 := h_yn_2.below hb
    have h_yd_3 := h_yd_2.below hb
    have h_x_3 := h_x_2.later hb
    have h_y_3 := h_y_2.later hb
    clear hb B2 h_xn_2 h_xd_2 h_yn_2 h_yd_2 h_x_2 h_y_2
    have k_y_0 := h_y_3.cell 0 _ rfl
    have k_y_1 := h_y_3.cell 1 _ rfl
    have k_y_2 := h_y_3.cell 2 _ rfl
    go_wp2_with fail
    clear k_y_0 k_y_1 k_y_2
    have c := refCheckLimit_any w3 (g := g_y) h_yn_3 h_yd_3
    rw [HZ.out] at c
    refine c.mono ?_
    rintro e w4 ⟨rfl, hb⟩
    clear c
    have B4 := B3.trans (hb.mono B3.size)
    have h_xn_4 := h_xn_3.below hb
    have h_xd_4 := h_xd_3.below hb
    have h_yn_4 := h_yn_3.below hb
    have h_yd_4 := h_yd_3.below hb
    have h_x_4 := h_x_3.later hb
    have h_y_4 := h_y_3.later hb
    clear hb B3 h_xn_3 h_xd_3 h_yn_3 h_yd_3 h_x_3 h_y_3
    go_wp2_with fail
    have c := examples_any w4
    refine c.mono ?_
    rintro e w5 ⟨rfl, hb⟩
    clear c
    have B5 := B4.trans (hb.mono B4.size)
    have h_xn_5 := h_xn_4.below hb
    have h_xd_5 := h_xd_4.below hb
    have h_yn_5 := h_yn_4.below hb
    have h_yd_5 := h_yd_4.below hb
    have h_x_5 := h_x_4.later hb
    have h_y_5 := h_y_4.later hb
    clear hb B4 h_xn_4 h_xd_4 h_yn_4 h_yd_4 h_x_4 h_y_4
    go_wp2_with fail
    go_ret
    exact ⟨rfl, B5⟩
  have E5 := Lib.hid e5
  clear e5
  obtain ⟨n1, d1', lx⟩ := limC_get (x := ⟨g_x, xn, xd⟩) h_xn.bd h_xd.bd E4.out
  obtain ⟨n2, d2', ly⟩ := limC_get (x := ⟨g_y, yn, yd⟩) h_yn.bd h_yd.bd E5.out
  obtain ⟨ls, hls, le0, -⟩ := cmp_frac (lx.frac E4.out) (ly.frac E5.out)
  have CL := Lib.hid hls
  have xnum : xn = limbs n1 := lx.num
  have xden : xd = limbs d1' := lx.den
  have ynum : yn = limbs n2 := ly.num
  have yden : yd = limbs d2' := ly.den
  have SX := Lib.hid (show sizeC bet ⟨g_x, xn, xd⟩ = seekN bet n1 d1' 4097 0 by rw [sizeC_ok BO.out E4.out]; show seekN bet (val xn) (val xd) 4097 0 = _; rw [xnum, xden, val_limbs, val_limbs])
  have SY := Lib.hid (show sizeC bet ⟨g_y, yn, yd⟩ = seekN bet n2 d2' 4097 0 by rw [sizeC_ok BO.out E5.out]; show seekN bet (val yn) (val yd) 4097 0 = _; rw [ynum, yden, val_limbs, val_limbs])
  have bt := Lib.hid (betOk_get BO.out)
  have NQ := Lib.hid (new_qN BO.out)
  have CF := Lib.hid (fun (k : Nat) (hk : k ≤ 1000000) => (show confC (qN bet k) ⟨g_x, xn, xd⟩ = (sureN (levN bet k) n1 d1', 0) by
    rw [confC_ok (qN_vld bt.out hk).chk E4.out]
    show (sureC (limbs (levN bet k)) xn xd, (0 : Int)) = _
    rw [show sureC (limbs (levN bet k)) xn xd = sureN (levN bet k) n1 d1' from lx.sure (levN_le _ _)]))
  have dpos : 0 < d1' := Nat.lt_of_lt_of_le lx.pos lx.le
  have UP := Lib.hid (fun (h : ls ≤ 0) (k : Nat) (hs : sureN (levN bet k) n1 d1' = true) => (sure_up dpos (le0.1 h) hs : sureN (levN bet k) n2 d2' = true))
  have PX := Lib.hid (seek_spec (bet := bet) (N := n1) (D := d1') 4097 0)
  have PY := Lib.hid (seek_spec (bet := bet) (N := n2) (D := d2') 4097 0)
  obtain ⟨sx, hsx⟩ : ∃ t, t = seekN bet n1 d1' 4097 0 := ⟨_, rfl⟩
  obtain ⟨sy, hsy⟩ : ∃ t, t = seekN bet n2 d2' 4097 0 := ⟨_, rfl⟩
  have SX := Lib.hid (SX.out.trans hsx.symm)
  have SY := Lib.hid (SY.out.trans hsy.symm)
  have HX := Lib.hid hsx
  have HY := Lib.hid hsy
  clear hsx hsy lx ly hls le0 xnum xden ynum yden dpos
  rcases PX.out with ⟨hx, -⟩ | ⟨J, -, hJ, hx, hsure, hfirst⟩
  case inl =>
    obtain rfl : sx = (0, 6) := HX.out.trans hx
    clear hx
    go_enter Try.func9, Try.ntmps9
    have hb := below_al w (.cells #[.bool g_x, .slice a_x n_x c_x, .slice b_x m_x d_x] 33)
    have B1 := B0.trans (hb.mono B0.size)
    have h_xn_1 := h_xn_0.below hb
    have h_xd_1 := h_xd_0.below hb
    have h_yn_1 := h_yn_0.below hb
    have h_yd_1 := h_yd_0.below hb
    clear hb B0 h_xn_0 h_xd_0 h_yn_0 h_yd_0
    have h_x_1 := Has.new w #[.bool g_x, .slice a_x n_x c_x, .slice b_x m_x d_x] 33
    have hb := below_al (w.alloc (.cells #[.bool g_x, .slice a_x n_x c_x, .slice b_x m_x d_x] 33)) (.cells #[.bool g_y, .slice a_y n_y c_y, .slice b_y m_y d_y] 33)
    have B2 := B1.trans (hb.mono B1.size)
    have h_xn_2 := h_xn_1.below hb
    have h_xd_2 := h_xd_1.below hb
    have h_yn_2 := h_yn_1.below hb
    have h_yd_2 := h_yd_1.below hb
    have h_x_2 := h_x_1.later hb
    clear hb B1 h_xn_1 h_xd_1 h_yn_1 h_yd_1 h_x_1
    have h_y_2 := Has.new (w.alloc (.cells #[.bool g_x, .slice a_x n_x c_x, .slice b_x m_x d_x] 33)) #[.bool g_y, .slice a_y n_y c_y, .slice b_y m_y d_y] 33
    simp only [World.size_alloc] at h_y_2
    have k_x_0 := h_x_2.cell 0 _ rfl
    have k_x_1 := h_x_2.cell 1 _ rfl
    have k_x_2 := h_x_2.cell 2 _ rfl
    go_wp2_with fail
    clear k_x_0 k_x_1 k_x_2
    generalize ((w.alloc (.cells #[.bool g_x, .slice a_x n_x c_x, .slice b_x m_x d_x] 33)).alloc (.cells #[.bool g_y, .slice a_y n_y c_y, .slice b_y m_y d_y] 33)) = w2 at *
    have c := refCheckLimit_any w2 (g := g_x) h_xn_2 h_xd_2
    rw [E4.out] at c
    refine c.mono ?_
    rintro e w3 ⟨rfl, hb⟩
    clear c
    have B3 := B2.trans (hb.mono B2.size)
    have h_xn_3 := h_xn_2.below hb
    have h_xd_3 := h_xd_2.below hb
    have h_yn_3 := h_yn_2.below hb
    have h_yd_3 := h_yd_2.below hb
    have h_x_3 := h_x_2.later hb
    have h_y_3 := h_y_2.later hb
    clear hb B2 h_xn_2 h_xd_2 h_yn_2 h_yd_2 h_x_2 h_y_2
    have k_y_0 := h_y_3.cell 0 _ rfl
    have k_y_1 := h_y_3.cell 1 _ rfl
    have k_y_2 := h_y_3.cell 2 _ rfl
    go_wp2_with fail
    clear k_y_0 k_y_1 k_y_2
    have c := refCheckLimit_any w3 (g := g_y) h_yn_3 h_yd_3
    rw [E5.out] at c
    refine c.mono ?_
    rintro e w4 ⟨rfl, hb⟩
    clear c
    have B4 := B3.trans (hb.mono B3.size)
    have h_xn_4 := h_xn_3.below hb
    have h_xd_4 := h_xd_3.below hb
    have h_yn_4 := h_yn_3.below hb
    have h_yd_4 := h_yd_3.below hb
    have h_x_4 := h_x_3.later hb
    have h_y_4 := h_y_3.later hb
    clear hb B3 h_xn_3 h_xd_3 h_yn_3 h_yd_3 h_x_3 h_y_3
    have k_x_0 := h_x_4.cell 0 _ rfl
    have k_x_1 := h_x_4.cell 1 _ rfl
    have k_x_2 := h_x_4.cell 2 _ rfl
    go_wp2_with fail
    clear k_x_0 k_x_1 k_x_2
    have c := sampleSize_any w4 bet (g := g_x) h_xn_4 h_xd_4
    rw [SX.out] at c
    refine c.mono ?_
    rintro e w5 ⟨rfl, hb⟩
    clear c
    have B5 := B4.trans (hb.mono B4.size)
    have h_xn_5 := h_xn_4.below hb
    have h_xd_5 := h_xd_4.below hb
    have h_yn_5 := h_yn_4.below hb
    have h_yd_5 := h_yd_4.below hb
    have h_x_5 := h_x_4.later hb
    have h_y_5 := h_y_4.later hb
    clear hb B4 h_xn_4 h_xd_4 h_yn_4 h_yd_4 h_x_4 h_y_4
    have k_y_0 := h_y_5.cell 0 _ rfl
    have k_y_1 := h_y_5.cell 1 _ rfl
    have k_y_2 := h_y_5.cell 2 _ rfl
    go_wp2_with fail
    clear k_y_0 k_y_1 k_y_2
    have c := sampleSize_any w5 bet (g := g_y) h_yn_5 h_yd_5
    rw [SY.out] at c
    refine c.mono ?_
    rintro e w6 ⟨rfl, hb⟩
    clear c
    have B6 := B5.trans (hb.mono B5.size)
    have h_xn_6 := h_xn_5.below hb
    have h_xd_6 := h_xd_5.below hb
    have h_yn_6 := h_yn_5.below hb
    have h_yd_6 := h_yd_5.below hb
    have h_x_6 := h_x_5.later hb
    have h_y_6 := h_y_5.later hb
    clear hb B5 h_xn_5 h_xd_5 h_yn_5 h_yd_5 h_x_5 h_y_5
    have k_x_0 := h_x_6.cell 0 _ rfl
    have k_x_1 := h_x_6.cell 1 _ rfl
    have k_x_2 := h_x_6.cell 2 _ rfl
    have k_y_0 := h_y_6.cell 0 _ rfl
    have k_y_1 := h_y_6.cell 1 _ rfl
    have k_y_2 := h_y_6.cell 2 _ rfl
    go_wp2_with fail
    clear k_x_0 k_x_1 k_x_2 k_y_0 k_y_1 k_y_2
    have c := refRatCmp_any w6 (g1 := g_x) (g2 := g_y) h_xn_6 h_xd_6 h_yn_6 h_yd_6
    rw [CL.out] at c
    refine c.mono ?_
    rintro e w7 ⟨rfl, hb⟩
    clear c
    have B7 := B6.trans (hb.mono B6.size)
    have h_xn_7 := h_xn_6.below hb
    have h_xd_7 := h_xd_6.below hb
    have h_yn_7 := h_yn_6.below hb
    have h_yd_7 := h_yd_6.below hb
    have h_x_7 := h_x_6.later hb
    have h_y_7 := h_y_6.later hb
    clear hb B6 h_xn_6 h_xd_6 h_yn_6 h_yd_6 h_x_6 h_y_6
    go_wp2_with fail
    have c := examples_any w7
    refine c.mono ?_
    rintro e w8 ⟨rfl, hb⟩
    clear c
    have B8 := B7.trans (hb.mono B7.size)
    have h_xn_8 := h_xn_7.below hb
    have h_xd_8 := h_xd_7.below hb
    have h_yn_8 := h_yn_7.below hb
    have h_yd_8 := h_yd_7.below hb
    have h_x_8 := h_x_7.later hb
    have h_y_8 := h_y_7.later hb
    clear hb B7 h_xn_7 h_xd_7 h_yn_7 h_yd_7 h_x_7 h_y_7
    go_wp2_with fail
    go_ret
    exact ⟨rfl, B8⟩
  case inr =>
  obtain rfl : sx = ((J : Int), 0) := HX.out.trans hx
  have HS := Lib.hid hsure
  have HF := Lib.hid hfirst
  have HJ := Lib.hid (show J < 4097 by omega)
  clear hx hsure hfirst hJ
  go_enter Try.func9, Try.ntmps9
  have hb := below_al w (.cells #[.bool g_x, .slice a_x n_x c_x, .slice b_x m_x d_x] 33)
  have B1 := B0.trans (hb.mono B0.size)
  have h_xn_1 := h_xn_0.below hb
  have h_xd_1 := h_xd_0.below hb
  have h_yn_1 := h_yn_0.below hb
  have h_yd_1 := h_yd_0.below hb
  clear hb B0 h_xn_0 h_xd_0 h_yn_0 h_yd_0
  have h_x_1 := Has.new w #[.bool g_x, .slice a_x n_x c_x, .slice b_x m_x d_x] 33
  have hb := below_al (w.alloc (.cells #[.bool g_x, .slice a_x n_x c_x, .slice b_x m_x d_x] 33)) (.cells #[.bool g_y, .slice a_y n_y c_y, .slice b_y m_y d_y] 33)
  have B2 := B1.trans (hb.mono B1.size)
  have h_xn_2 := h_xn_1.below hb
  have h_xd_2 := h_xd_1.below hb
  have h_yn_2 := h_yn_1.below hb
  have h_yd_2 := h_yd_1.below hb
  have h_x_2 := h_x_1.later hb
  clear hb B1 h_xn_1 h_xd_1 h_yn_1 h_yd_1 h_x_1
  have h_y_2 := Has.new (w.alloc (.cells #[.bool g_x, .slice a_x n_x c_x, .slice b_x m_x d_x] 33)) #[.bool g_y, .slice a_y n_y c_y, .slice b_y m_y d_y] 33
  simp only [World.size_alloc] at h_y_2
  have k_x_0 := h_x_2.cell 0 _ rfl
  have k_x_1 := h_x_2.cell 1 _ rfl
  have k_x_2 := h_x_2.cell 2 _ rfl
  go_wp2_with fail
  clear k_x_0 k_x_1 k_x_2
  generalize ((w.alloc (.cells #[.bool g_x, .slice a_x n_x c_x, .slice b_x m_x d_x] 33)).alloc (.cells #[.bool g_y, .slice a_y n_y c_y, .slice b_y m_y d_y] 33)) = w2 at *
  have c := refCheckLimit_any w2 (g := g_x) h_xn_2 h_xd_2
  rw [E4.out] at c
  refine c.mono ?_
  rintro e w3 ⟨rfl, hb⟩
  clear c
  have B3 := B2.trans (hb.mono B2.size)
  have h_xn_3 := h_xn_2.below hb
  have h_xd_3 := h_xd_2.below hb
  have h_yn_3 := h_yn_2.below hb
  have h_yd_3 := h_yd_2.below hb
  have h_x_3 := h_x_2.later hb
  have h_y_3 := h_y_2.later hb
  clear hb B2 h_xn_2 h_xd_2 h_yn_2 h_yd_2 h_x_2 h_y_2
  have k_y_0 := h_y_3.cell 0 _ rfl
  have k_y_1 := h_y_3.cell 1 _ rfl
  have k_y_2 := h_y_3.cell 2 _ rfl
  go_wp2_with fail
  clear k_y_0 k_y_1 k_y_2
  have c := refCheckLimit_any w3 (g := g_y) h_yn_3 h_yd_3
  rw [E5.out] at c
  refine c.mono ?_
  rintro e w4 ⟨rfl, hb⟩
  clear c
  have B4 := B3.trans (hb.mono B3.size)
  have h_xn_4 := h_xn_3.below hb
  have h_xd_4 := h_xd_3.below hb
  have h_yn_4 := h_yn_3.below hb
  have h_yd_4 := h_yd_3.below hb
  have h_x_4 := h_x_3.later hb
  have h_y_4 := h_y_3.later hb
  clear hb B3 h_xn_3 h_xd_3 h_yn_3 h_yd_3 h_x_3 h_y_3
  have k_x_0 := h_x_4.cell 0 _ rfl
  have k_x_1 := h_x_4.cell 1 _ rfl
  have k_x_2 := h_x_4.cell 2 _ rfl
  go_wp2_with fail
  clear k_x_0 k_x_1 k_x_2
  have c := sampleSize_any w4 bet (g := g_x) h_xn_4 h_xd_4
  rw [SX.out] at c
  refine c.mono ?_
  rintro e w5 ⟨rfl, hb⟩
  clear c
  have B5 := B4.trans (hb.mono B4.size)
  have h_xn_5 := h_xn_4.below hb
  have h_xd_5 := h_xd_4.below hb
  have h_yn_5 := h_yn_4.below hb
  have h_yd_5 := h_yd_4.below hb
  have h_x_5 := h_x_4.later hb
  have h_y_5 := h_y_4.later hb
  clear hb B4 h_xn_4 h_xd_4 h_yn_4 h_yd_4 h_x_4 h_y_4
  have k_y_0 := h_y_5.cell 0 _ rfl
  have k_y_1 := h_y_5.cell 1 _ rfl
  have k_y_2 := h_y_5.cell 2 _ rfl
  go_wp2_with fail
  clear k_y_0 k_y_1 k_y_2
  have c := sampleSize_any w5 bet (g := g_y) h_yn_5 h_yd_5
  rw [SY.out] at c
  refine c.mono ?_
  rintro e w6 ⟨rfl, hb⟩
  clear c
  have B6 := B5.trans (hb.mono B5.size)
  have h_xn_6 := h_xn_5.below hb
  have h_xd_6 := h_xd_5.below hb
  have h_yn_6 := h_yn_5.below hb
  have h_yd_6 := h_yd_5.below hb
  have h_x_6 := h_x_5.later hb
  have h_y_6 := h_y_5.later hb
  clear hb B5 h_xn_5 h_xd_5 h_yn_5 h_yd_5 h_x_5 h_y_5
  have k_x_0 := h_x_6.cell 0 _ rfl
  have k_x_1 := h_x_6.cell 1 _ rfl
  have k_x_2 := h_x_6.cell 2 _ rfl
  have k_y_0 := h_y_6.cell 0 _ rfl
  have k_y_1 := h_y_6.cell 1 _ rfl
  have k_y_2 := h_y_6.cell 2 _ rfl
  go_wp2_with fail
  clear k_x_0 k_x_1 k_x_2 k_y_0 k_y_1 k_y_2
  have c := refRatCmp_any w6 (g1 := g_x) (g2 := g_y) h_xn_6 h_xd_6 h_yn_6 h_yd_6
  rw [CL.out] at c
  refine c.mono ?_
  rintro e w7 ⟨rfl, hb⟩
  clear c
  have B7 := B6.trans (hb.mono B6.size)
  have h_xn_7 := h_xn_6.below hb
  have h_xd_7 := h_xd_6.below hb
  have h_yn_7 := h_yn_6.below hb
  have h_yd_7 := h_yd_6.below hb
  have h_x_7 := h_x_6.later hb
  have h_y_7 := h_y_6.later hb
  clear hb B6 h_xn_6 h_xd_6 h_yn_6 h_yd_6 h_x_6 h_y_6
  go_upto_region 6 with fail
  go_cut [82] from 56 to 82 (fun t wx => t = Value.bool false ∧ wx = w7)
  case first =>
    have PYo := PY.out
    rw [← HY.out] at PYo
    by_cases hl : ls ≤ 0
    · have dl : decide (ls ≤ 0) = true := decide_eq_true hl
      rcases PYo with ⟨hy, hno⟩ | ⟨I, -, hI, hy, -, hfy⟩
      · exact absurd (UP.out hl J HS.out) (hno J (Nat.zero_le _) (by have := HJ.out; omega))
      · have dij : decide ((J : Int) < (I : Int)) = false := decide_eq_false (fun h => hfy J (Nat.zero_le _) (by omega) (UP.out hl J HS.out))
        have dijN : decide (J < I) = false := decide_eq_false (fun h => hfy J (Nat.zero_le _) h (UP.out hl J HS.out))
        subst hy
        clear hl hI hfy UP PY PX
        go_wp2_with fail
        go_meet
        exact ⟨by first | rfl | (rw [dijN]), rfl⟩
    · have dl : decide (ls ≤ 0) = false := decide_eq_false hl
      clear hl
      rcases PYo with ⟨hy, -⟩ | ⟨I, -, -, hy, -, -⟩
      · subst hy
        go_wp2_with fail
        go_meet
        exact ⟨rfl, rfl⟩
      · subst hy
        go_wp2_with fail
        go_meet
        exact ⟨rfl, rfl⟩
  case rest =>
  obtain ⟨rfl, hw⟩ := hcut
  have hw := hw.symm
  subst hw
  have dn1 : decide ((J : Int) < 0) = false := decide_eq_false (by omega)
  have dn2 : decide (4096 < (J : Int)) = false := decide_eq_false (by have := HJ.out; omega)
  go_wp2_with fail
  have c := new_any w7 bet
  rw [NQ.out] at c
  refine c.mono ?_
  rintro e w8 ⟨a_a, n_a, c_a, b_a, m_a, d_a, rfl, h_al_8, h_ab_8, hb⟩
  clear c
  have B8 := B7.trans (hb.mono B7.size)
  have h_xn_8 := h_xn_7.below hb
  have h_xd_8 := h_xd_7.below hb
  have h_yn_8 := h_yn_7.below hb
  have h_yd_8 := h_yd_7.below hb
  have h_x_8 := h_x_7.later hb
  have h_y_8 := h_y_7.later hb
  clear hb B7 h_xn_7 h_xd_7 h_yn_7 h_yd_7 h_x_7 h_y_7
  have hA := below_al w8 (.cells (polC (qN bet 0) a_a n_a c_a b_a m_a d_a) 25)
  have start : SzI w8 (w8.alloc (.cells (polC (qN bet 0) a_a n_a c_a b_a m_a d_a) 25)) w8.heap.size bet 0 := ⟨a_a, n_a, c_a, b_a, m_a, d_a, PRow.new 25 w8 _, h_al_8.below hA, h_ab_8.below hA⟩
  clear hA
  go_wp2_with first | refine wpList_store_new rfl 25 _ _ rfl atPol _ _ _ rfl rfl rfl rfl (pol_one (qN bet 0) _ _ _ _ _ _) ?_
  go_loopw [16] (fun i wr => ∃ (k : Nat), k ≤ J ∧ i = .int .i64 (k : Nat) ∧ SzI w8 wr w8.heap.size bet k) (fun i _ => J - (intOf i).toNat)
  case atStart => exact ⟨0, Nat.zero_le _, rfl, start⟩
  case round =>
    obtain ⟨k, hk, rfl, ⟨a3, n3, c3, b3, m3, d3, R, z1, z2⟩⟩ := hrel
    clear start
    have L3 := h_x_8.later R.below
    have y1 := h_xn_8.below R.below
    have y2 := h_xd_8.below R.below
    have k0 := R.cell 0 _ rfl
    have k1 := R.cell 1 _ rfl
    have k2 := R.cell 2 _ rfl
    have k3 := R.cell 3 _ rfl
    have k4 := R.cell 4 _ rfl
    have k5 := R.cell 5 _ rfl
    have x0 := L3.cell 0 _ rfl
    have x1 := L3.cell 1 _ rfl
    have x2 := L3.cell 2 _ rfl
    by_cases hlt : k < J
    · have HLT := Lib.hid hlt
      have jb := HJ.out
      go_wp2_with fail
      have c := confirmed_any wr z1 z2 (qN_pw bt.out (by have := HLT.out; have := HJ.out; omega)) (g := g_x) y1 y2
      rw [CF.out k (by have := HLT.out; have := HJ.out; omega), show sureN (levN bet k) n1 d1' = false by simpa using HF.out k (Nat.zero_le _) HLT.out] at c
      refine c.mono ?_
      rintro e w3 ⟨rfl, hb⟩
      clear c k0 k1 k2 k3 k4 k5 x0 x1 x2
      have R := R.later hb
      have z1 := z1.below hb
      have z2 := z2.below hb
      have k0 := R.cell 0 _ rfl
      have k1 := R.cell 1 _ rfl
      have k2 := R.cell 2 _ rfl
      have k3 := R.cell 3 _ rfl
      have k4 := R.cell 4 _ rfl
      have k5 := R.cell 5 _ rfl
      have hA := below_al w3 (.cells #[.int .i64 2] 3)
      clear hb
      go_wp2_with fail
      have c := observe_any (p := qN bet k) (w3.alloc (.cells #[.int .i64 2] 3)) (z1.below hA) (z2.below hA) (qN_pw bt.out (by have := HLT.out; have := HJ.out; omega)) (rdI_one w3 2 (by unfold wide64; decide))
      rw [qN_obs bt.out (by have := HLT.out; have := HJ.out; omega)] at c
      refine c.mono ?_
      rintro e w4 ⟨a4, n4, c4, b4, m4, d4, rfl, q1, q2, hb⟩
      have hA2 := below_al w4 (.cells (polC (qN bet (k + 1)) a4 n4 c4 b4 m4 d4) 25)
      have H4 := Has.new w4 (polC (qN bet (k + 1)) a4 n4 c4 b4 m4 d4) 25
      have R4 := ((R.later hA).later hb).later hA2
      have row := R4.row
      have FIN : Hid (SzI w8 ((w4.alloc (.cells (polC (qN bet (k + 1)) a4 n4 c4 b4 m4 d4) 25)).setRow w8.heap.size (polC (qN bet (k + 1)) a4 n4 c4 b4 m4 d4)) w8.heap.size bet (k + 1)) := Lib.hid ⟨a4, n4, c4, b4, m4, d4, R4.put _, rd_rowset (q1.below hA2) row (pol_noint _ _ _ _ _ _ _) _, rd_rowset (q2.below hA2) row (pol_noint _ _ _ _ _ _ _) _⟩
      clear c k0 k1 k2 k3 k4 k5
      have k0 := H4.cell 0 _ rfl
      have k1 := H4.cell 1 _ rfl
      have k2 := H4.cell 2 _ rfl
      have k3 := H4.cell 3 _ rfl
      have k4 := H4.cell 4 _ rfl
      have k5 := H4.cell 5 _ rfl
      clear hA hA2 H4 R R4 z1 z2 q1 q2 hb
      go_wp2_with first | refine wpList_store_new rfl 25 _ _ rfl atPol _ _ _ rfl rfl rfl rfl (pol_one (qN bet (k + 1)) _ _ _ _ _ _) ?_ | refine wpList_store_whole rfl 25 _ _ rfl atPol _ _ _ row rfl rfl rfl rfl (pol_one (qN bet (k + 1)) _ _ _ _ _ _) ?_
      go_roundw
      case rel => exact ⟨k + 1, by have := HLT.out; omega, by go_num, FIN.out⟩
      case measure => simp [intOf]; have := HLT.out; omega
    · obtain rfl : k = J := by omega
      go_wp2_with fail
      have c := confirmed_any wr z1 z2 (qN_pw bt.out (by have := HJ.out; omega)) (g := g_x) y1 y2
      rw [CF.out k (by have := HJ.out; omega), HS.out] at c
      refine c.mono ?_
      rintro e w3 ⟨rfl, hb⟩
      clear c
      have BX := B8.trans ((R.below.trans (hb.mono R.below.size)).mono B8.size)
      go_wp2_with fail
      refine (examples_any w3).mono ?_
      rintro e w4 ⟨rfl, hb2⟩
      go_wp2_with fail
      go_ret
      exact ⟨rfl, BX.trans (hb2.mono BX.size)⟩

end Go.Proofs.Ytkomdiblopdfiaa
