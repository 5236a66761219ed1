/- The law's right: whether all numbers of a list are valid and short (lists of one, two, three). No condition. Printed by gen_raty.py. -/
import Derived.Test.YtdaajeklnhbhjaaGreatDoorRatW
import Derived.Test.YtdaajeklnhbhjaaGreatDoorBase
import Derived.ProofKit
import Derived.OpenShut
import Derived.ShutString
import Derived.ChangeOld
import Derived.Test.YtdaajeklnhbhjaaGreatDoorRatLaw
namespace Go.Proofs.YtdaajeklnhbhjaaGreatDoor
open Go.RowKit Go.Suf
set_option linter.unusedVariables false
set_option linter.unusedSimpArgs false

theorem ok_long1 {g : Bool} {xs ys : List Nat} (h : 6 < xs.length) : decide (okV ⟨g, xs, ys⟩) = false := decide_eq_false (fun k => by have : xs.length ≤ 6 := k.1; omega)
theorem ok_long2 {g : Bool} {xs ys : List Nat} (h : 6 < ys.length) : decide (okV ⟨g, xs, ys⟩) = false := decide_eq_false (fun k => by have : ys.length ≤ 6 := k.2.1; omega)
theorem ok_bad {x : QV} (h : ¬ chkV x = 0) : decide (okV x) = false := decide_eq_false (fun k => h k.2.2)
theorem ok_yes {g : Bool} {xs ys : List Nat} (h1 : ¬ 6 < xs.length) (h2 : ¬ 6 < ys.length) (h : chkV ⟨g, xs, ys⟩ = 0) : decide (okV ⟨g, xs, ys⟩) = true := decide_eq_true ⟨by show xs.length ≤ 6; omega, by show ys.length ≤ 6; omega, h⟩

set_option maxRecDepth 100000 in
set_option maxHeartbeats 4000000 in
theorem right1_any (w : World) {w0 : World} {g : Nat} {g_x : Bool} {a_x b_x : Option Addr} {n_x c_x m_x d_x : Nat} {xn xd : List Nat} (h_xn : Rd .u32 w a_x n_x c_x xn) (h_xd : Rd .u32 w b_x m_x d_x xd) (H : Has w0 w g #[.bool g_x, .slice a_x n_x c_x, .slice b_x m_x d_x]) :
    Calls Tryz.prog 39 #[.slice (some ⟨g, 0, none⟩) 1 1] w (RetBB w (decide (okV ⟨g_x, xn, xd⟩))) := by
  obtain ⟨o_x, ho_x⟩ : ∃ o, o = decide (okV ⟨g_x, xn, xd⟩) := ⟨_, rfl⟩
  rw [← ho_x]
  have O_x := Lib.hid ho_x
  clear ho_x
  go_enter Tryz.func39, Tryz.ntmps39
  go_wp2_with fail
  have HH := Lib.hid (fun w' (hb : Below w.heap.size w w') => H.later hb)
  clear H
  go_loopw [3] (fun i wr => ∃ k : Nat, k ≤ 1 ∧ i = .int .i64 (k : Nat) ∧ Below w.heap.size w wr ∧ (0 < k → o_x = true)) (fun i _ => 1 - (intOf i).toNat)
  case atStart => exact ⟨0, by decide, rfl, Below.refl _ _, fun h => absurd h (by decide)⟩
  case round =>
    obtain ⟨k, hk, rfl, BR, r_x⟩ := hrel
    have K := HH.out _ BR
    clear HH
    by_cases hlt : k < 1
    case neg =>
      obtain rfl : k = 1 := by omega
      have e_x := r_x (by decide)
      clear r_x hk hlt K
      subst e_x
      have HB := Lib.hid BR
      clear BR
      go_wp2_with fail
      go_ret
      exact ⟨rfl, HB.out⟩
    case pos =>
      have sv : k = 0 := by omega
      clear hlt hk
      subst sv
      · have k1 := K.cell 1 _ rfl
        have k2 := K.cell 2 _ rfl
        have k0 := K.cell 0 _ rfl
        clear K
        have HB := Lib.hid BR
        have RR := Lib.hid (show (0 < 0 → o_x = true) from r_x)
        clear BR r_x
        have l1 := h_xn.len
        have l2 := h_xd.len
        by_cases e1 : 6 < n_x
        case pos =>
          have d1 : decide ((6 : Int) < (n_x : Int)) = true := decide_eq_true (by omega)
          have NO := Lib.hid (show o_x = false from O_x.out.trans (ok_long1 (by omega)))
          clear e1 l1 l2
          go_wp2_with fail
          go_ret
          exact ⟨by rw [NO.out]; simp, HB.out⟩
        have d1 : decide ((6 : Int) < (n_x : Int)) = false := decide_eq_false (by omega)
        by_cases e2 : 6 < m_x
        case pos =>
          have d2 : decide ((6 : Int) < (m_x : Int)) = true := decide_eq_true (by omega)
          have NO := Lib.hid (show o_x = false from O_x.out.trans (ok_long2 (by omega)))
          clear e1 e2 l1 l2
          go_wp2_with fail
          go_ret
          exact ⟨by rw [NO.out]; simp, HB.out⟩
        have d2 : decide ((6 : Int) < (m_x : Int)) = false := decide_eq_false (by omega)
        have cc := refRatCheck_any wr (neg := g_x) (h_xn.below HB.out) (h_xd.below HB.out)
        by_cases hc : chkV ⟨g_x, xn, xd⟩ = 0
        case neg =>
          rw [(chkV_two _).resolve_left hc] at cc
          have NO := Lib.hid (show o_x = false from O_x.out.trans (ok_bad hc))
          clear e1 e2 l1 l2 hc
          go_wp2_with fail
          refine cc.mono ?_
          rintro e wq ⟨rfl, hb⟩
          clear cc
          have BX := Lib.hid (HB.out.trans (hb.mono HB.out.size))
          clear hb
          go_wp2_with fail
          go_ret
          exact ⟨by rw [NO.out]; simp, BX.out⟩
        rw [hc] at cc
        have NO := Lib.hid (show o_x = true from O_x.out.trans (ok_yes (by omega) (by omega) hc))
        clear e1 e2 l1 l2 hc
        go_wp2_with fail
        refine cc.mono ?_
        rintro e wq ⟨rfl, hb⟩
        clear cc
        have BX := Lib.hid (HB.out.trans (hb.mono HB.out.size))
        clear hb
        go_wp2_with fail
        go_roundw
        case rel => exact ⟨1, by decide, by go_num, BX.out, fun _ => NO.out⟩
        case measure => simp [intOf]

set_option maxRecDepth 100000 in
set_option maxHeartbeats 4000000 in
theorem right2_any (w : World) {w0 : World} {g : Nat} {g_x : Bool} {a_x b_x : Option Addr} {n_x c_x m_x d_x : Nat} {xn xd : List Nat} (h_xn : Rd .u32 w a_x n_x c_x xn) (h_xd : Rd .u32 w b_x m_x d_x xd) {g_y : Bool} {a_y b_y : Option Addr} {n_y c_y m_y d_y : Nat} {yn yd : List Nat} (h_yn : Rd .u32 w a_y n_y c_y yn) (h_yd : Rd .u32 w b_y m_y d_y yd) (H : Has w0 w g #[.bool g_x, .slice a_x n_x c_x, .slice b_x m_x d_x, .bool g_y, .slice a_y n_y c_y, .slice b_y m_y d_y]) :
    Calls Tryz.prog 39 #[.slice (some ⟨g, 0, none⟩) 2 2] w (RetBB w (decide (okV ⟨g_x, xn, xd⟩) && decide (okV ⟨g_y, yn, yd⟩))) := by
  obtain ⟨o_x, ho_x⟩ : ∃ o, o = decide (okV ⟨g_x, xn, xd⟩) := ⟨_, rfl⟩
  obtain ⟨o_y, ho_y⟩ : ∃ o, o = decide (okV ⟨g_y, yn, yd⟩) := ⟨_, rfl⟩
  rw [← ho_x, ← ho_y]
  have O_x := Lib.hid ho_x
  clear ho_x
  have O_y := Lib.hid ho_y
  clear ho_y
  go_enter Tryz.func39, Tryz.ntmps39
  go_wp2_with fail
  have HH := Lib.hid (fun w' (hb : Below w.heap.size w w') => H.later hb)
  clear H
  go_loopw [3] (fun i wr => ∃ k : Nat, k ≤ 2 ∧ i = .int .i64 (k : Nat) ∧ Below w.heap.size w wr ∧ (0 < k → o_x = true) ∧ (1 < k → o_y = true)) (fun i _ => 2 - (intOf i).toNat)
  case atStart => exact ⟨0, by decide, rfl, Below.refl _ _, fun h => absurd h (by decide), fun h => absurd h (by decide)⟩
  case round =>
    obtain ⟨k, hk, rfl, BR, r_x, r_y⟩ := hrel
    have K := HH.out _ BR
    clear HH
    by_cases hlt : k < 2
    case neg =>
      obtain rfl : k = 2 := by omega
      have e_x := r_x (by decide)
      have e_y := r_y (by decide)
      clear r_x r_y hk hlt K
      subst e_x
      subst e_y
      have HB := Lib.hid BR
      clear BR
      go_wp2_with fail
      go_ret
      exact ⟨rfl, HB.out⟩
    case pos =>
      have sv : k = 0 ∨ k = 1 := by omega
      clear hlt hk
      rcases sv with rfl | rfl
      · have k1 := K.cell 1 _ rfl
        have k2 := K.cell 2 _ rfl
        have k0 := K.cell 0 _ rfl
        clear K
        have HB := Lib.hid BR
        have RR := Lib.hid (show (0 < 0 → o_x = true) ∧ (1 < 0 → o_y = true) from ⟨r_x, r_y⟩)
        clear BR r_x r_y
        have l1 := h_xn.len
        have l2 := h_xd.len
        by_cases e1 : 6 < n_x
        case pos =>
          have d1 : decide ((6 : Int) < (n_x : Int)) = true := decide_eq_true (by omega)
          have NO := Lib.hid (show o_x = false from O_x.out.trans (ok_long1 (by omega)))
          clear e1 l1 l2
          go_wp2_with fail
          go_ret
          exact ⟨by rw [NO.out]; simp, HB.out⟩
        have d1 : decide ((6 : Int) < (n_x : Int)) = false := decide_eq_false (by omega)
        by_cases e2 : 6 < m_x
        case pos =>
          have d2 : decide ((6 : Int) < (m_x : Int)) = true := decide_eq_true (by omega)
          have NO := Lib.hid (show o_x = false from O_x.out.trans (ok_long2 (by omega)))
          clear e1 e2 l1 l2
          go_wp2_with fail
          go_ret
          exact ⟨by rw [NO.out]; simp, HB.out⟩
        have d2 : decide ((6 : Int) < (m_x : Int)) = false := decide_eq_false (by omega)
        have cc := refRatCheck_any wr (neg := g_x) (h_xn.below HB.out) (h_xd.below HB.out)
        by_cases hc : chkV ⟨g_x, xn, xd⟩ = 0
        case neg =>
          rw [(chkV_two _).resolve_left hc] at cc
          have NO := Lib.hid (show o_x = false from O_x.out.trans (ok_bad hc))
          clear e1 e2 l1 l2 hc
          go_wp2_with fail
          refine cc.mono ?_
          rintro e wq ⟨rfl, hb⟩
          clear cc
          have BX := Lib.hid (HB.out.trans (hb.mono HB.out.size))
          clear hb
          go_wp2_with fail
          go_ret
          exact ⟨by rw [NO.out]; simp, BX.out⟩
        rw [hc] at cc
        have NO := Lib.hid (show o_x = true from O_x.out.trans (ok_yes (by omega) (by omega) hc))
        clear e1 e2 l1 l2 hc
        go_wp2_with fail
        refine cc.mono ?_
        rintro e wq ⟨rfl, hb⟩
        clear cc
        have BX := Lib.hid (HB.out.trans (hb.mono HB.out.size))
        clear hb
        go_wp2_with fail
        go_roundw
        case rel => exact ⟨1, by decide, by go_num, BX.out, fun _ => NO.out, fun h => absurd h (by decide)⟩
        case measure => simp [intOf]
      · have k1 := K.cell 4 _ rfl
        have k2 := K.cell 5 _ rfl
        have k0 := K.cell 3 _ rfl
        clear K
        have HB := Lib.hid BR
        have RR := Lib.hid (show (0 < 1 → o_x = true) ∧ (1 < 1 → o_y = true) from ⟨r_x, r_y⟩)
        clear BR r_x r_y
        have l1 := h_yn.len
        have l2 := h_yd.len
        by_cases e1 : 6 < n_y
        case pos =>
          have d1 : decide ((6 : Int) < (n_y : Int)) = true := decide_eq_true (by omega)
          have NO := Lib.hid (show o_y = false from O_y.out.trans (ok_long1 (by omega)))
          clear e1 l1 l2
          go_wp2_with fail
          go_ret
          exact ⟨by rw [NO.out]; simp, HB.out⟩
        have d1 : decide ((6 : Int) < (n_y : Int)) = false := decide_eq_false (by omega)
        by_cases e2 : 6 < m_y
        case pos =>
          have d2 : decide ((6 : Int) < (m_y : Int)) = true := decide_eq_true (by omega)
          have NO := Lib.hid (show o_y = false from O_y.out.trans (ok_long2 (by omega)))
          clear e1 e2 l1 l2
          go_wp2_with fail
          go_ret
          exact ⟨by rw [NO.out]; simp, HB.out⟩
        have d2 : decide ((6 : Int) < (m_y : Int)) = false := decide_eq_false (by omega)
        have cc := refRatCheck_any wr (neg := g_y) (h_yn.below HB.out) (h_yd.below HB.out)
        by_cases hc : chkV ⟨g_y, yn, yd⟩ = 0
        case neg =>
          rw [(chkV_two _).resolve_left hc] at cc
          have NO := Lib.hid (show o_y = false from O_y.out.trans (ok_bad hc))
          clear e1 e2 l1 l2 hc
          go_wp2_with fail
          refine cc.mono ?_
          rintro e wq ⟨rfl, hb⟩
          clear cc
          have BX := Lib.hid (HB.out.trans (hb.mono HB.out.size))
          clear hb
          go_wp2_with fail
          go_ret
          exact ⟨by rw [NO.out]; simp, BX.out⟩
        rw [hc] at cc
        have NO := Lib.hid (show o_y = true from O_y.out.trans (ok_yes (by omega) (by omega) hc))
        clear e1 e2 l1 l2 hc
        go_wp2_with fail
        refine cc.mono ?_
        rintro e wq ⟨rfl, hb⟩
        clear cc
        have BX := Lib.hid (HB.out.trans (hb.mono HB.out.size))
        clear hb
        go_wp2_with fail
        go_roundw
        case rel => exact ⟨2, by decide, by go_num, BX.out, fun _ => RR.out.1 (by decide), fun _ => NO.out⟩
        case measure => simp [intOf]

set_option maxRecDepth 100000 in
set_option maxHeartbeats 4000000 in
theorem right3_any (w : World) {w0 : World} {g : Nat} {g_x : Bool} {a_x b_x : Option Addr} {n_x c_x m_x d_x : Nat} {xn xd : List Nat} (h_xn : Rd .u32 w a_x n_x c_x xn) (h_xd : Rd .u32 w b_x m_x d_x xd) {g_y : Bool} {a_y b_y : Option Addr} {n_y c_y m_y d_y : Nat} {yn yd : List Nat} (h_yn : Rd .u32 w a_y n_y c_y yn) (h_yd : Rd .u32 w b_y m_y d_y yd) {g_z : Bool} {a_z b_z : Option Addr} {n_z c_z m_z d_z : Nat} {zn zd : List Nat} (h_zn : Rd .u32 w a_z n_z c_z zn) (h_zd : Rd .u32 w b_z m_z d_z zd) (H : Has w0 w g #[.bool g_x, .slice a_x n_x c_x, .slice b_x m_x d_x, .bool g_y, .slice a_y n_y c_y, .slice b_y m_y d_y, .bool g_z, .slice a_z n_z c_z, .slice b_z m_z d_z]) :
    Calls Tryz.prog 39 #[.slice (some ⟨g, 0, none⟩) 3 3] w (RetBB w (decide (okV ⟨g_x, xn, xd⟩) && decide (okV ⟨g_y, yn, yd⟩) && decide (okV ⟨g_z, zn, zd⟩))) := by
  obtain ⟨o_x, ho_x⟩ : ∃ o, o = decide (okV ⟨g_x, xn, xd⟩) := ⟨_, rfl⟩
  obtain ⟨o_y, ho_y⟩ : ∃ o, o = decide (okV ⟨g_y, yn, yd⟩) := ⟨_, rfl⟩
  obtain ⟨o_z, ho_z⟩ : ∃ o, o = decide (okV ⟨g_z, zn, zd⟩) := ⟨_, rfl⟩
  rw [← ho_x, ← ho_y, ← ho_z]
  have O_x := Lib.hid ho_x
  clear ho_x
  have O_y := Lib.hid ho_y
  clear ho_y
  have O_z := Lib.hid ho_z
  clear ho_z
  go_enter Tryz.func39, Tryz.ntmps39
  go_wp2_with fail
  have HH := Lib.hid (fun w' (hb : Below w.heap.size w w') => H.later hb)
  clear H
  go_loopw [3] (fun i wr => ∃ k : Nat, k ≤ 3 ∧ i = .int .i64 (k : Nat) ∧ Below w.heap.size w wr ∧ (0 < k → o_x = true) ∧ (1 < k → o_y = true) ∧ (2 < k → o_z = true)) (fun i _ => 3 - (intOf i).toNat)
  case atStart => exact ⟨0, by decide, rfl, Below.refl _ _, fun h => absurd h (by decide), fun h => absurd h (by decide), fun h => absurd h (by decide)⟩
  case round =>
    obtain ⟨k, hk, rfl, BR, r_x, r_y, r_z⟩ := hrel
    have K := HH.out _ BR
    clear HH
    by_cases hlt : k < 3
    case neg =>
      obtain rfl : k = 3 := by omega
      have e_x := r_x (by decide)
      have e_y := r_y (by decide)
      have e_z := r_z (by decide)
      clear r_x r_y r_z hk hlt K
      subst e_x
      subst e_y
      subst e_z
      have HB := Lib.hid BR
      clear BR
      go_wp2_with fail
      go_ret
      exact ⟨rfl, HB.out⟩
    case pos =>
      have sv : k = 0 ∨ k = 1 ∨ k = 2 := by omega
      clear hlt hk
      rcases sv with rfl | rfl | rfl
      · have k1 := K.cell 1 _ rfl
        have k2 := K.cell 2 _ rfl
        have k0 := K.cell 0 _ rfl
        clear K
        have HB := Lib.hid BR
        have RR := Lib.hid (show (0 < 0 → o_x = true) ∧ (1 < 0 → o_y = true) ∧ (2 < 0 → o_z = true) from ⟨r_x, r_y, r_z⟩)
        clear BR r_x r_y r_z
        have l1 := h_xn.len
        have l2 := h_xd.len
        by_cases e1 : 6 < n_x
        case pos =>
          have d1 : decide ((6 : Int) < (n_x : Int)) = true := decide_eq_true (by omega)
          have NO := Lib.hid (show o_x = false from O_x.out.trans (ok_long1 (by omega)))
          clear e1 l1 l2
          go_wp2_with fail
          go_ret
          exact ⟨by rw [NO.out]; simp, HB.out⟩
        have d1 : decide ((6 : Int) < (n_x : Int)) = false := decide_eq_false (by omega)
        by_cases e2 : 6 < m_x
        case pos =>
          have d2 : decide ((6 : Int) < (m_x : Int)) = true := decide_eq_true (by omega)
          have NO := Lib.hid (show o_x = false from O_x.out.trans (ok_long2 (by omega)))
          clear e1 e2 l1 l2
          go_wp2_with fail
          go_ret
          exact ⟨by rw [NO.out]; simp, HB.out⟩
        have d2 : decide ((6 : Int) < (m_x : Int)) = false := decide_eq_false (by omega)
        have cc := refRatCheck_any wr (neg := g_x) (h_xn.below HB.out) (h_xd.below HB.out)
        by_cases hc : chkV ⟨g_x, xn, xd⟩ = 0
        case neg =>
          rw [(chkV_two _).resolve_left hc] at cc
          have NO := Lib.hid (show o_x = false from O_x.out.trans (ok_bad hc))
          clear e1 e2 l1 l2 hc
          go_wp2_with fail
          refine cc.mono ?_
          rintro e wq ⟨rfl, hb⟩
          clear cc
          have BX := Lib.hid (HB.out.trans (hb.mono HB.out.size))
          clear hb
          go_wp2_with fail
          go_ret
          exact ⟨by rw [NO.out]; simp, BX.out⟩
        rw [hc] at cc
        have NO := Lib.hid (show o_x = true from O_x.out.trans (ok_yes (by omega) (by omega) hc))
        clear e1 e2 l1 l2 hc
        go_wp2_with fail
        refine cc.mono ?_
        rintro e wq ⟨rfl, hb⟩
        clear cc
        have BX := Lib.hid (HB.out.trans (hb.mono HB.out.size))
        clear hb
        go_wp2_with fail
        go_roundw
        case rel => exact ⟨1, by decide, by go_num, BX.out, fun _ => NO.out, fun h => absurd h (by decide), fun h => absurd h (by decide)⟩
        case measure => simp [intOf]
      · have k1 := K.cell 4 _ rfl
        have k2 := K.cell 5 _ rfl
        have k0 := K.cell 3 _ rfl
        clear K
        have HB := Lib.hid BR
        have RR := Lib.hid (show (0 < 1 → o_x = true) ∧ (1 < 1 → o_y = true) ∧ (2 < 1 → o_z = true) from ⟨r_x, r_y, r_z⟩)
        clear BR r_x r_y r_z
        have l1 := h_yn.len
        have l2 := h_yd.len
        by_cases e1 : 6 < n_y
        case pos =>
          have d1 : decide ((6 : Int) < (n_y : Int)) = true := decide_eq_true (by omega)
          have NO := Lib.hid (show o_y = false from O_y.out.trans (ok_long1 (by omega)))
          clear e1 l1 l2
          go_wp2_with fail
          go_ret
          exact ⟨by rw [NO.out]; simp, HB.out⟩
        have d1 : decide ((6 : Int) < (n_y : Int)) = false := decide_eq_false (by omega)
        by_cases e2 : 6 < m_y
        case pos =>
          have d2 : decide ((6 : Int) < (m_y : Int)) = true := decide_eq_true (by omega)
          have NO := Lib.hid (show o_y = false from O_y.out.trans (ok_long2 (by omega)))
          clear e1 e2 l1 l2
          go_wp2_with fail
          go_ret
          exact ⟨by rw [NO.out]; simp, HB.out⟩
        have d2 : decide ((6 : Int) < (m_y : Int)) = false := decide_eq_false (by omega)
        have cc := refRatCheck_any wr (neg := g_y) (h_yn.below HB.out) (h_yd.below HB.out)
        by_cases hc : chkV ⟨g_y, yn, yd⟩ = 0
        case neg =>
          rw [(chkV_two _).resolve_left hc] at cc
          have NO := Lib.hid (show o_y = false from O_y.out.trans (ok_bad hc))
          clear e1 e2 l1 l2 hc
          go_wp2_with fail
          refine cc.mono ?_
          rintro e wq ⟨rfl, hb⟩
          clear cc
          have BX := Lib.hid (HB.out.trans (hb.mono HB.out.size))
          clear hb
          go_wp2_with fail
          go_ret
          exact ⟨by rw [NO.out]; simp, BX.out⟩
        rw [hc] at cc
        have NO := Lib.hid (show o_y = true from O_y.out.trans (ok_yes (by omega) (by omega) hc))
        clear e1 e2 l1 l2 hc
        go_wp2_with fail
        refine cc.mono ?_
        rintro e wq ⟨rfl, hb⟩
        clear cc
        have BX := Lib.hid (HB.out.trans (hb.mono HB.out.size))
        clear hb
        go_wp2_with fail
        go_roundw
        case rel => exact ⟨2, by decide, by go_num, BX.out, fun _ => RR.out.1 (by decide), fun _ => NO.out, fun h => absurd h (by decide)⟩
        case measure => simp [intOf]
      · have k1 := K.cell 7 _ rfl
        have k2 := K.cell 8 _ rfl
        have k0 := K.cell 6 _ rfl
        clear K
        have HB := Lib.hid BR
        have RR := Lib.hid (show (0 < 2 → o_x = true) ∧ (1 < 2 → o_y = true) ∧ (2 < 2 → o_z = true) from ⟨r_x, r_y, r_z⟩)
        clear BR r_x r_y r_z
        have l1 := h_zn.len
        have l2 := h_zd.len
        by_cases e1 : 6 < n_z
        case pos =>
          have d1 : decide ((6 : Int) < (n_z : Int)) = true := decide_eq_true (by omega)
          have NO := Lib.hid (show o_z = false from O_z.out.trans (ok_long1 (by omega)))
          clear e1 l1 l2
          go_wp2_with fail
          go_ret
          exact ⟨by rw [NO.out]; simp, HB.out⟩
        have d1 : decide ((6 : Int) < (n_z : Int)) = false := decide_eq_false (by omega)
        by_cases e2 : 6 < m_z
        case pos =>
          have d2 : decide ((6 : Int) < (m_z : Int)) = true := decide_eq_true (by omega)
          have NO := Lib.hid (show o_z = false from O_z.out.trans (ok_long2 (by omega)))
          clear e1 e2 l1 l2
          go_wp2_with fail
          go_ret
          exact ⟨by rw [NO.out]; simp, HB.out⟩
        have d2 : decide ((6 : Int) < (m_z : Int)) = false := decide_eq_false (by omega)
        have cc := refRatCheck_any wr (neg := g_z) (h_zn.below HB.out) (h_zd.below HB.out)
        by_cases hc : chkV ⟨g_z, zn, zd⟩ = 0
        case neg =>
          rw [(chkV_two _).resolve_left hc] at cc
          have NO := Lib.hid (show o_z = false from O_z.out.trans (ok_bad hc))
          clear e1 e2 l1 l2 hc
          go_wp2_with fail
          refine cc.mono ?_
          rintro e wq ⟨rfl, hb⟩
          clear cc
          have BX := Lib.hid (HB.out.trans (hb.mono HB.out.size))
          clear hb
          go_wp2_with fail
          go_ret
          exact ⟨by rw [NO.out]; simp, BX.out⟩
        rw [hc] at cc
        have NO := Lib.hid (show o_z = true from O_z.out.trans (ok_yes (by omega) (by omega) hc))
        clear e1 e2 l1 l2 hc
        go_wp2_with fail
        refine cc.mono ?_
        rintro e wq ⟨rfl, hb⟩
        clear cc
        have BX := Lib.hid (HB.out.trans (hb.mono HB.out.size))
        clear hb
        go_wp2_with fail
        go_roundw
        case rel => exact ⟨3, by decide, by go_num, BX.out, fun _ => RR.out.1 (by decide), fun _ => RR.out.2.1 (by decide), fun _ => NO.out⟩
        case measure => simp [intOf]

set_option maxRecDepth 100000 in
set_option maxHeartbeats 1000000 in
theorem qlong_any (w : World) {neg : Bool} {a_x b_x : Option Addr} {n_x c_x m_x d_x : Nat} {xn xd : List Nat} (h_xn : Rd .u32 w a_x n_x c_x xn) (h_xd : Rd .u32 w b_x m_x d_x xd) :
    Calls Tryz.prog 10 #[ratV neg a_x n_x c_x b_x m_x d_x] w (RetBB w (longV ⟨neg, xn, xd⟩)) := by
  go_enter Tryz.func10, Tryz.ntmps10
  have B0 : Below w.heap.size w w := Below.refl _ _
  have h_xn_0 := h_xn
  have h_xd_0 := h_xd
  have hb := below_al w (.cells #[.bool neg, .slice a_x n_x c_x, .slice b_x m_x d_x] 24)
  have B1 := B0.trans (hb.mono B0.size)
  have h_xn_1 := h_xn_0.below hb
  have h_xd_1 := h_xd_0.below hb
  clear hb B0 h_xn_0 h_xd_0
  have h_x_1 := Has.new w #[.bool neg, .slice a_x n_x c_x, .slice b_x m_x d_x] 24
  have k_x_0 := h_x_1.cell 0 _ rfl
  have k_x_1 := h_x_1.cell 1 _ rfl
  have k_x_2 := h_x_1.cell 2 _ rfl
  go_wp2_with fail
  clear k_x_0 k_x_1 k_x_2
  generalize (w.alloc (.cells #[.bool neg, .slice a_x n_x c_x, .slice b_x m_x d_x] 24)) = w1 at *
  have c := refRatLong_any w1 (neg := neg) h_xn_1 h_xd_1
  refine c.mono ?_
  rintro e w2 ⟨rfl, hb⟩
  clear c
  have B2 := B1.trans (hb.mono B1.size)
  have h_xn_2 := h_xn_1.below hb
  have h_xd_2 := h_xd_1.below hb
  have h_x_2 := h_x_1.later hb
  clear hb B1 h_xn_1 h_xd_1 h_x_1
  go_wp2_with fail
  go_ret
  exact ⟨rfl, B2⟩

end Go.Proofs.YtdaajeklnhbhjaaGreatDoor
/- How an argument of a law reads: what the form's reading gives, in this seat's own predicates. No condition. -/
namespace Go.Suf
open Go.ChangeShapes Go.WideShapes Go.ChangeAt Go.RowKit

def unsig : IntKind → Bool
  | .u8 | .u16 | .u32 | .u64 => true
  | _ => false

theorem unsig_bounds {k : IntKind} (hk : unsig k = true) {n : Int} (h : (Lit.int k n).wf = true) : 0 ≤ n ∧ n < (lim k : Int) := by
  cases k <;> simp [unsig] at hk
  · have := bounds_u8 h; simp [lim]; omega
  · have := bounds_u16 h; simp [lim]; omega
  · have := bounds_u32 h; simp [lim]; omega
  · have := bounds_u64 h; simp [lim]; omega

/-- A slice of unsigned integers that came in. -/
theorem rd_open {H : Type} {enc : TypeId × Value → H} {P : Program} {W : World} {t e : TypeId} {k : IntKind} {a : Option Addr} {n cap : Nat} {d : DataW H} {p : List MemPlace} (ht : P.underlying t = some (.slice e)) (he : P.underlying e = some (.int k)) (hc : P.cellsOf e = 1) (hk : unsig k = true)
    (h : DataW.Trod enc P W 0 (fun _ => true) true t (.slice a n cap) d p) : ∃ xs, Rd k W a n cap xs := by
  obtain ⟨fuel, hf⟩ := h
  rcases open_ints ht he hc hf with ⟨hcs, _⟩ | ⟨x, l, c, zs, hcs, _, hl, hm, hz, _, hcell, hwz⟩
  · simp [Value.cells] at hcs
    obtain ⟨rfl, rfl, rfl⟩ := hcs
    exact ⟨[], Rd.nil _ _⟩
  · simp [Value.cells] at hcs
    obtain ⟨rfl, rfl, rfl⟩ := hcs
    have hz' : zs.length = cap := by simpa using hz
    have hlen : ((zs.take n).map Int.toNat).length = n := by simp; omega
    refine ⟨(zs.take n).map Int.toNat, hlen, ⟨by simp; omega, hm, fun e => by simp at e, fun i v hv => ?_, nums_one _ _⟩, fun y hy => ?_⟩
    · have hi : i < n := by
        rcases Nat.lt_or_ge i n with h | h
        · exact h
        · rw [List.getElem?_eq_none (by simp; omega)] at hv; simp at hv
      rw [nums_at _ _ _ (by omega)] at hv
      simp only [Option.some.injEq] at hv
      subst hv
      have hcl := hcell i (by omega)
      have hb := unsig_bounds hk (hwz (zs[i]'(by omega)) (List.getElem_mem _))
      obtain ⟨b, off, spot⟩ := x
      have hspot : spot = none := by
        have := World.cell?_spot (hcell 0 (by omega))
        simpa [Addr.add] using this
      subst hspot
      refine ⟨b, off, rfl, ?_⟩
      have hadd : (⟨b, off, none⟩ : Addr).add i = ⟨b, off + i, none⟩ := by unfold Addr.add; split <;> simp_all
      rw [hadd] at hcl
      rw [hcl]
      simp [nth, hi, show i < zs.length by omega]
      omega
    · rw [List.mem_map] at hy
      obtain ⟨z, hzm, rfl⟩ := hy
      have hb := unsig_bounds hk (hwz z (List.mem_of_mem_take hzm))
      omega

/-- A slice of unsigned integers that came in, as a value whose shape is not known yet. -/
theorem rd_cell {H : Type} {enc : TypeId × Value → H} {P : Program} {W : World} {t e : TypeId} {k : IntKind} {v : Value} {fuel : Nat} {x : DataW H × List MemPlace} (ht : P.underlying t = some (.slice e)) (he : P.underlying e = some (.int k)) (hc : P.cellsOf e = 1) (hk : unsig k = true)
    (hf : DataW.trod enc P W 0 (fun _ => true) true fuel t [v] = some x) : ∃ a n cap xs, v = .slice a n cap ∧ Rd k W a n cap xs := by
  have key : ∃ a n cap, v = .slice a n cap := by
    rcases open_ints ht he hc hf with ⟨hcs, _⟩ | ⟨x, l, c, zs, hcs, _⟩
    · simp at hcs
      exact ⟨_, _, _, hcs⟩
    · simp at hcs
      exact ⟨_, _, _, hcs⟩
  obtain ⟨a, n, cap, rfl⟩ := key
  have h : DataW.Trod enc P W 0 (fun _ => true) true t (.slice a n cap) x.1 x.2 := ⟨fuel, by simpa [Value.cells] using hf⟩
  obtain ⟨xs, hxs⟩ := rd_open ht he hc hk h
  exact ⟨a, n, cap, xs, rfl, hxs⟩

theorem ofNat_open {k : IntKind} (hk : unsig k = true) {n : Int} (h : (Lit.int k n).wf = true) : ∃ m : Nat, n = (m : Int) ∧ m < lim k := by
  have := unsig_bounds hk h
  exact ⟨n.toNat, by omega, by omega⟩

end Go.Suf
/- How an argument that is a rational number reads. No condition. -/
namespace Go.Proofs.YtdaajeklnhbhjaaGreatDoor
open Go.ChangeShapes Go.WideShapes Go.ChangeAt Go.RowKit Go.Suf
set_option linter.unusedVariables false
set_option linter.unusedSimpArgs false

set_option maxRecDepth 100000 in
theorem rat_open {H : Type} {enc : TypeId × Value → H} {W : World} {r : Reach} {b0 : Nat} {v : Value} {d : DataW H} {p : List MemPlace} (hval : Value.okWide Tryz.prog W r b0 24 v) (h : DataW.Trod enc Tryz.prog W 0 (fun _ => true) true 24 v d p) :
    ∃ g a n c b m d xs ys, v = ratV g a n c b m d ∧ Rd .u32 W a n c xs ∧ Rd .u32 W b m d ys := by
  obtain ⟨cs, rfl, hsz⟩ := okWide_struct Tryz.underlying24 hval
  have h3 : Tryz.prog.cellsOf 24 = 3 := by kernel_rfl
  have cB : Tryz.prog.cellsOf 4 = 1 := by kernel_rfl
  have cS : Tryz.prog.cellsOf 22 = 1 := by kernel_rfl
  have cU : Tryz.prog.cellsOf 49 = 1 := by kernel_rfl
  rw [h3] at hsz
  obtain ⟨v0, v1, v2, rfl⟩ : ∃ v0 v1 v2, cs = #[v0, v1, v2] := by
    obtain ⟨l⟩ := cs
    match l, hsz with
    | [v0, v1, v2], _ => exact ⟨v0, v1, v2, rfl⟩
  obtain ⟨fuel, hf⟩ := h
  obtain ⟨xs, n, _, _, _, hlen, hfs⟩ := DataW.trod_struct Tryz.underlying24 hf
  match xs, hlen with
  | [y0, y1, y2], _ =>
    have h0 := hfs 0 _ rfl
    change DataW.trod _ _ _ _ _ _ _ 4 (List.take (Tryz.prog.cellsOf 4) [v0, v1, v2]) = some y0 at h0
    rw [cB] at h0
    have h1 := hfs 1 _ rfl
    change DataW.trod _ _ _ _ _ _ _ 22 (List.take (Tryz.prog.cellsOf 22) [v1, v2]) = some y1 at h1
    rw [cS] at h1
    have h2 := hfs 2 _ rfl
    change DataW.trod _ _ _ _ _ _ _ 22 (List.take (Tryz.prog.cellsOf 22) [v2]) = some y2 at h2
    rw [cS] at h2
    obtain ⟨g, e0, _⟩ := DataW.trod_bool Tryz.underlying4 h0
    obtain ⟨a, m, c, xs1, e1, r1⟩ := rd_cell Tryz.underlying22 Tryz.underlying49 cU rfl h1
    obtain ⟨b, k, d, xs2, e2, r2⟩ := rd_cell Tryz.underlying22 Tryz.underlying49 cU rfl h2
    simp at e0
    exact ⟨g, a, m, c, b, k, d, xs1, xs2, by rw [e0, e1, e2], r1, r2⟩

end Go.Proofs.YtdaajeklnhbhjaaGreatDoor
