/- The walk of the law CompareSizeMatches: it returns true and turns nothing that was there. No condition. Printed by gen_cmplaws.py. -/
import Derived.Test.YtmkcdlhhbnakiaaCmpT
import Derived.BigQuiet
import Derived.Deep.CutRange
namespace Go.Proofs.Ytmkcdlhhbnakiaa
open Go.RowKit Go.Suf
set_option linter.unusedVariables false
set_option linter.unusedSimpArgs false

set_option maxRecDepth 100000 in
set_option maxHeartbeats 8000000 in
theorem compareSizeMatches_walk (w : World) (bet : Int) (h_bet1 : -9223372036854775808 ≤ bet) (h_bet2 : bet ≤ 9223372036854775807) (bal : Int) (h_bal1 : -9223372036854775808 ≤ bal) (h_bal2 : bal ≤ 9223372036854775807) (mar : Int) (h_mar1 : -9223372036854775808 ≤ mar) (h_mar2 : mar ≤ 9223372036854775807) {g_x : Bool} {a_x b_x : Option Addr} {n_x c_x m_x d_x : Nat} {xn xd : List Nat} (h_xn : Rd .u32 w a_x n_x c_x xn) (h_xd : Rd .u32 w b_x m_x d_x xd) :
    Calls Try.prog 4 #[.int .i64 bet, .int .i64 bal, .int .i64 mar, ratV g_x a_x n_x c_x b_x m_x d_x] w fun e w' => e = .returned (.bool true) ∧ Below w.heap.size w w' := by
  have B0 : Below w.heap.size w w := Below.refl _ _
  have h_xn_0 := h_xn
  have h_xd_0 := h_xd
  by_cases hL : longV ⟨g_x, xn, xd⟩ = true
  case pos =>
    go_enter Try.func4, Try.ntmps4
    have hb := below_al w (.cells #[.bool g_x, .slice a_x n_x c_x, .slice b_x m_x d_x] 34)
    have B1 := B0.trans (hb.mono B0.size)
    have h_xn_1 := h_xn_0.below hb
    have h_xd_1 := h_xd_0.below hb
    clear hb B0 h_xn_0 h_xd_0
    have h_x_1 := Has.new w #[.bool g_x, .slice a_x n_x c_x, .slice b_x m_x d_x] 34
    have k_x_0 := h_x_1.cell 0 _ rfl
    have k_x_1 := h_x_1.cell 1 _ rfl
    have k_x_2 := h_x_1.cell 2 _ rfl
    go_wp2_with fail
    clear k_x_0 k_x_1 k_x_2
    generalize (w.alloc (.cells #[.bool g_x, .slice a_x n_x c_x, .slice b_x m_x d_x] 34)) = w1 at *
    have c := refRatLong_any w1 (neg := g_x) h_xn_1 h_xd_1
    rw [hL] at c
    refine c.mono ?_
    rintro e w2 ⟨rfl, hb⟩
    clear c
    have B2 := B1.trans (hb.mono B1.size)
    have h_xn_2 := h_xn_1.below hb
    have h_xd_2 := h_xd_1.below hb
    have h_x_2 := h_x_1.later hb
    clear hb B1 h_xn_1 h_xd_1 h_x_1
    go_wp2_with fail
    have c := examples_any w2
    refine c.mono ?_
    rintro e w3 ⟨rfl, hb⟩
    clear c
    have B3 := B2.trans (hb.mono B2.size)
    have h_xn_3 := h_xn_2.below hb
    have h_xd_3 := h_xd_2.below hb
    have h_x_3 := h_x_2.later hb
    clear hb B2 h_xn_2 h_xd_2 h_x_2
    go_wp2_with fail
    go_ret
    exact ⟨rfl, B3⟩
  have hL2 := Lib.hid (show longV ⟨g_x, xn, xd⟩ = false by simpa using hL)
  clear hL
  go_enter Try.func4, Try.ntmps4
  have hb := below_al w (.cells #[.bool g_x, .slice a_x n_x c_x, .slice b_x m_x d_x] 34)
  have B1 := B0.trans (hb.mono B0.size)
  have h_xn_1 := h_xn_0.below hb
  have h_xd_1 := h_xd_0.below hb
  clear hb B0 h_xn_0 h_xd_0
  have h_x_1 := Has.new w #[.bool g_x, .slice a_x n_x c_x, .slice b_x m_x d_x] 34
  have k_x_0 := h_x_1.cell 0 _ rfl
  have k_x_1 := h_x_1.cell 1 _ rfl
  have k_x_2 := h_x_1.cell 2 _ rfl
  go_wp2_with fail
  clear k_x_0 k_x_1 k_x_2
  generalize (w.alloc (.cells #[.bool g_x, .slice a_x n_x c_x, .slice b_x m_x d_x] 34)) = w1 at *
  have c := refRatLong_any w1 (neg := g_x) h_xn_1 h_xd_1
  rw [hL2.out] at c
  refine c.mono ?_
  rintro e w2 ⟨rfl, hb⟩
  clear c
  have B2 := B1.trans (hb.mono B1.size)
  have h_xn_2 := h_xn_1.below hb
  have h_xd_2 := h_xd_1.below hb
  have h_x_2 := h_x_1.later hb
  clear hb B1 h_xn_1 h_xd_1 h_x_1
  have k_x_0 := h_x_2.cell 0 _ rfl
  have k_x_1 := h_x_2.cell 1 _ rfl
  have k_x_2 := h_x_2.cell 2 _ rfl
  go_wp2_with fail
  clear k_x_0 k_x_1 k_x_2
  have c := cmSampleSize_any w2 bet bal mar (g := g_x) h_xn_2 h_xd_2
  refine c.mono ?_
  rintro e w3 ⟨rfl, hb⟩
  clear c
  have B3 := B2.trans (hb.mono B2.size)
  have h_xn_3 := h_xn_2.below hb
  have h_xd_3 := h_xd_2.below hb
  have h_x_3 := h_x_2.later hb
  clear hb B2 h_xn_2 h_xd_2 h_x_2
  have k_x_0 := h_x_3.cell 0 _ rfl
  have k_x_1 := h_x_3.cell 1 _ rfl
  have k_x_2 := h_x_3.cell 2 _ rfl
  go_wp2_with fail
  clear k_x_0 k_x_1 k_x_2
  have c := refCmSampleSize_any w3 bet bal mar (g := g_x) h_xn_3 h_xd_3
  refine c.mono ?_
  rintro e w4 ⟨rfl, hb⟩
  clear c
  have B4 := B3.trans (hb.mono B3.size)
  have h_xn_4 := h_xn_3.below hb
  have h_xd_4 := h_xd_3.below hb
  have h_x_4 := h_x_3.later hb
  clear hb B3 h_xn_3 h_xd_3 h_x_3
  go_wp2_with fail
  have c := examples_any w4
  refine c.mono ?_
  rintro e w5 ⟨rfl, hb⟩
  clear c
  have B5 := B4.trans (hb.mono B4.size)
  have h_xn_5 := h_xn_4.below hb
  have h_xd_5 := h_xd_4.below hb
  have h_x_5 := h_x_4.later hb
  clear hb B4 h_xn_4 h_xd_4 h_x_4
  go_wp2_with fail
  go_ret
  exact ⟨rfl, B5⟩

end Go.Proofs.Ytmkcdlhhbnakiaa
