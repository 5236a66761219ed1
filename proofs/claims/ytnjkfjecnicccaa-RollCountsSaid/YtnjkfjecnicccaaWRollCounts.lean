/- The walk of the law RollCounts: it returns true and turns nothing that was there. No condition. Printed by gen_rollaws.py. -/
import Derived.Test.YtnjkfjecnicccaaRolY
import Derived.BigQuiet
import Derived.Test.YtnjkfjecnicccaaRolM
import Derived.Test.YtnjkfjecnicccaaMem
import Derived.Deep.CutRange
namespace Go.Proofs.Ytnjkfjecnicccaa
open Go.RowKit Go.Suf
set_option linter.unusedVariables false
set_option linter.unusedSimpArgs false

set_option maxRecDepth 100000 in
set_option maxHeartbeats 8000000 in
theorem rollCounts_walk (w : World) {a_l : Option Addr} {n_l c_l : Nat} {vs : List VQ} (h_l : RdV w a_l n_l c_l vs) (name : ByteArray) (nl : name.size ≤ maxLen) (wh : Int) (h_wh1 : -9223372036854775808 ≤ wh) (h_wh2 : wh ≤ 9223372036854775807) :
    Calls Try.prog 8 #[.slice a_l n_l c_l, .string name, .int .i64 wh] w fun e w' => e = .returned (.bool true) ∧ Below w.heap.size w w' := by
  have HN := Lib.hid h_l.len
  have hll := h_l.lt
  have B0 : Below w.heap.size w w := Below.refl _ _
  have h_l_0 := h_l
  go_enter Try.func8, Try.ntmps8
  go_wp2_with fail
  have c := aliveR_any w
  refine c.mono ?_
  rintro e w1 ⟨rfl, hb⟩
  clear c
  have B1 := B0.trans (hb.mono B0.size)
  have h_l_1 := h_l_0.below hb
  clear hb B0 h_l_0
  go_wp2_with fail
  obtain ⟨gr, hgr⟩ : ∃ gr, greatV vs = gr := ⟨_, rfl⟩
  have GR := Lib.hid hgr
  clear hgr
  have c := Great_any w1 h_l_1
  rw [GR.out] at c
  refine c.mono ?_
  rintro e w2 ⟨rfl, hb⟩
  clear c
  have B2 := B1.trans (hb.mono B1.size)
  have h_l_2 := h_l_1.below hb
  clear hb B1 h_l_1
  cases gr with
  | true =>
    go_wp2_with fail
    go_ret
    exact ⟨rfl, B2⟩
  | false =>
    by_cases hbig : 1000 < name.size
    case pos =>
      go_wp2_with fail
      go_ret
      exact ⟨rfl, B2⟩
    have hbi : decide ((name.size : Int) > 1000) = false := decide_eq_false (by omega)
    have hn : n_l ≤ 100 := by have := great_len GR.out; have := HN.out; omega
    obtain ⟨ck, hck⟩ : ∃ ck, chkV vs = ck := ⟨_, rfl⟩
    have HCK := Lib.hid hck
    clear hck
    go_wp2_with fail
    have c := Check_any w2 h_l_2
    rw [HCK.out] at c
    refine c.mono ?_
    rintro e w3 ⟨rfl, hb⟩
    clear c
    have B3 := B2.trans (hb.mono B2.size)
    have h_l_3 := h_l_2.below hb
    clear hb B2 h_l_2
    by_cases hck : ck = 0
    case neg =>
      have e1 : (ck == (0 : Int)) = false := by simpa using hck
      have e2 : (ck != (0 : Int)) = true := by simpa using hck
      clear hck
      go_wp2_with fail
      go_ret
      exact ⟨rfl, B3⟩
    subst hck
    obtain ⟨f, g, u, s, c1, c2, c3, c4, c5, c6⟩ := cnt_all HCK.out
    have HC := Lib.hid c1
    have HS4 := Lib.hid (⟨c3, c4, c5, c6⟩ : f = manyV vs (-1) 1 ∧ g = manyV vs (-1) 2 ∧ u = manyV vs (-1) 3 ∧ s = manyV vs (-1) 4)
    have hsum : f + g + u + s = n_l := by rw [c2, HN.out]
    clear c1 c2 c3 c4 c5 c6
    go_wp2_with fail
    have c := Count_any w3 h_l_3 (-1) (by decide) (by decide)
    rw [HC.out] at c
    refine c.mono ?_
    rintro e w4 ⟨rfl, hb⟩
    clear c
    have B4 := B3.trans (hb.mono B3.size)
    have h_l_4 := h_l_3.below hb
    clear hb B3 h_l_3
    have hb := below_al w4 (.cells #[.int .i64 (((((f, g, u, s) : Nat × Nat × Nat × Nat)).1 : Nat) : Int), .int .i64 (((((f, g, u, s) : Nat × Nat × Nat × Nat)).2.1 : Nat) : Int), .int .i64 (((((f, g, u, s) : Nat × Nat × Nat × Nat)).2.2.1 : Nat) : Int), .int .i64 (((((f, g, u, s) : Nat × Nat × Nat × Nat)).2.2.2 : Nat) : Int)] 47)
    have B5 := B4.trans (hb.mono B4.size)
    have h_l_5 := h_l_4.below hb
    clear hb B4 h_l_4
    have h_a_5 := PRow.new 47 w4 #[.int .i64 (((((f, g, u, s) : Nat × Nat × Nat × Nat)).1 : Nat) : Int), .int .i64 (((((f, g, u, s) : Nat × Nat × Nat × Nat)).2.1 : Nat) : Int), .int .i64 (((((f, g, u, s) : Nat × Nat × Nat × Nat)).2.2.1 : Nat) : Int), .int .i64 (((((f, g, u, s) : Nat × Nat × Nat × Nat)).2.2.2 : Nat) : Int)]
    go_upto_region 5 with (first | refine wpList_store_new rfl 47 _ _ rfl atTur _ _ _ rfl rfl rfl rfl (tur_one _ _ _ _) ?_)
    generalize (w4.alloc (.cells #[.int .i64 (((((f, g, u, s) : Nat × Nat × Nat × Nat)).1 : Nat) : Int), .int .i64 (((((f, g, u, s) : Nat × Nat × Nat × Nat)).2.1 : Nat) : Int), .int .i64 (((((f, g, u, s) : Nat × Nat × Nat × Nat)).2.2.1 : Nat) : Int), .int .i64 (((((f, g, u, s) : Nat × Nat × Nat × Nat)).2.2.2 : Nat) : Int)] 47)) = w5 at *
    have HLK := Lib.hid h_l_5
    have HAK := Lib.hid h_a_5
    have HBK := Lib.hid B5
    have hb := below_al w5 (.cells #[.int .i64 0, .int .i64 0, .int .i64 0, .int .i64 0] 47)
    have B6 := B5.trans (hb.mono B5.size)
    have h_l_6 := h_l_5.below hb
    have h_a_6 := h_a_5.later hb
    clear hb B5 h_l_5 h_a_5
    have h_s_6 := PRow.new 47 w5 #[.int .i64 0, .int .i64 0, .int .i64 0, .int .i64 0]
    go_wp2_with fail
    generalize (w5.alloc (.cells #[.int .i64 0, .int .i64 0, .int .i64 0, .int .i64 0] 47)) = w6 at *
    have HBL := Lib.hid h_s_6.below
    go_loopw [11] (fun j wr => ∃ (p f1 g1 u1 s1 : Nat), p ≤ 8 ∧ j = .int .i64 (p : Nat) ∧ PRow 47 w5 wr (w5.heap.size) #[.int .i64 (((((f1, g1, u1, s1) : Nat × Nat × Nat × Nat)).1 : Nat) : Int), .int .i64 (((((f1, g1, u1, s1) : Nat × Nat × Nat × Nat)).2.1 : Nat) : Int), .int .i64 (((((f1, g1, u1, s1) : Nat × Nat × Nat × Nat)).2.2.1 : Nat) : Int), .int .i64 (((((f1, g1, u1, s1) : Nat × Nat × Nat × Nat)).2.2.2 : Nat) : Int)] ∧ Hid (LoS vs p f1 g1 u1 s1)) (fun j _ => 8 - (intOf j).toNat)
    case atStart => exact ⟨0, 0, 0, 0, 0, by decide, rfl, h_s_6, Lib.hid (loS_zero vs)⟩
    case round =>
      rename World => wr
      obtain ⟨p, f1, g1, u1, s1, hp, rfl, PS, hL⟩ := hrel
      obtain ⟨q1, q2, q3, q4⟩ := loS_le hL.out
      rw [HN.out] at q1 q2 q3 q4
      by_cases hlt : p < 8
      case pos =>
        have hd : decide (((p : Nat) : Int) < 8) = true := decide_eq_true (by omega)
        have BT := PS.below
        have B500 := Below.refl wr.heap.size wr
        have h_l_500 := HLK.out.below BT
        have h_s_500 := PS
        clear PS BT
        obtain ⟨a, b, c, d, hc, r1, r2, r3, r4⟩ := cnt_at HCK.out hlt
        rw [HN.out] at r1 r2 r3 r4
        have HCP := Lib.hid hc
        clear hc
        go_wp2_with fail
        have c := Count_any wr h_l_500 ((p : Nat) : Int) (by omega) (by omega)
        rw [HCP.out] at c
        refine c.mono ?_
        rintro e w501 ⟨rfl, hb⟩
        clear c
        have B501 := B500.trans (hb.mono B500.size)
        have h_l_501 := h_l_500.below hb
        have h_s_501 := h_s_500.later hb
        clear hb B500 h_l_500 h_s_500
        have hb := below_al w501 (.cells #[.int .i64 (((((a, b, c, d) : Nat × Nat × Nat × Nat)).1 : Nat) : Int), .int .i64 (((((a, b, c, d) : Nat × Nat × Nat × Nat)).2.1 : Nat) : Int), .int .i64 (((((a, b, c, d) : Nat × Nat × Nat × Nat)).2.2.1 : Nat) : Int), .int .i64 (((((a, b, c, d) : Nat × Nat × Nat × Nat)).2.2.2 : Nat) : Int)] 47)
        have B502 := B501.trans (hb.mono B501.size)
        have h_l_502 := h_l_501.below hb
        have h_s_502 := h_s_501.later hb
        clear hb B501 h_l_501 h_s_501
        have h_t_502 := PRow.new 47 w501 #[.int .i64 (((((a, b, c, d) : Nat × Nat × Nat × Nat)).1 : Nat) : Int), .int .i64 (((((a, b, c, d) : Nat × Nat × Nat × Nat)).2.1 : Nat) : Int), .int .i64 (((((a, b, c, d) : Nat × Nat × Nat × Nat)).2.2.1 : Nat) : Int), .int .i64 (((((a, b, c, d) : Nat × Nat × Nat × Nat)).2.2.2 : Nat) : Int)]
        have PS := h_s_502
        have k_s_0 := h_s_502.cell 0 _ rfl
        have k_s_1 := h_s_502.cell 1 _ rfl
        have k_s_2 := h_s_502.cell 2 _ rfl
        have k_s_3 := h_s_502.cell 3 _ rfl
        have k_t_0 := h_t_502.cell 0 _ rfl
        have k_t_1 := h_t_502.cell 1 _ rfl
        have k_t_2 := h_t_502.cell 2 _ rfl
        have k_t_3 := h_t_502.cell 3 _ rfl
        go_wp2_with first | refine wpList_store_new rfl 47 _ _ rfl atTur _ _ _ rfl rfl rfl rfl (tur_one _ _ _ _) ?_ | refine wpList_store_whole rfl 47 _ _ rfl atTur _ _ _ PS.row rfl rfl rfl rfl (tur_one _ _ _ _) ?_
        clear k_s_0 k_s_1 k_s_2 k_s_3 k_t_0 k_t_1 k_t_2 k_t_3
        generalize (w501.alloc (.cells #[.int .i64 (((((a, b, c, d) : Nat × Nat × Nat × Nat)).1 : Nat) : Int), .int .i64 (((((a, b, c, d) : Nat × Nat × Nat × Nat)).2.1 : Nat) : Int), .int .i64 (((((a, b, c, d) : Nat × Nat × Nat × Nat)).2.2.1 : Nat) : Int), .int .i64 (((((a, b, c, d) : Nat × Nat × Nat × Nat)).2.2.2 : Nat) : Int)] 47)) = w502 at *
        have h5 := PS.put #[.int .i64 (((((f1 + a, g1 + b, u1 + c, s1 + d) : Nat × Nat × Nat × Nat)).1 : Nat) : Int), .int .i64 (((((f1 + a, g1 + b, u1 + c, s1 + d) : Nat × Nat × Nat × Nat)).2.1 : Nat) : Int), .int .i64 (((((f1 + a, g1 + b, u1 + c, s1 + d) : Nat × Nat × Nat × Nat)).2.2.1 : Nat) : Int), .int .i64 (((((f1 + a, g1 + b, u1 + c, s1 + d) : Nat × Nat × Nat × Nat)).2.2.2 : Nat) : Int)]
        have h6 := Lib.hid (loS_step hL.out HCP.out HCK.out hlt)
        go_roundw
        case rel => exact ⟨p + 1, f1 + a, g1 + b, u1 + c, s1 + d, by omega, by go_num, h5, h6⟩
        case measure => simp [intOf]; omega
      case neg =>
        obtain rfl : p = 8 := by omega
        obtain ⟨e1, e2, e3, e4⟩ := loS_end hL.out HCK.out
        obtain ⟨e5, e6, e7, e8⟩ := HS4.out
        rw [← e5] at e1
        rw [← e6] at e2
        rw [← e7] at e3
        rw [← e8] at e4
        subst e1 e2 e3 e4
        clear e5 e6 e7 e8 q1 q2 q3 q4 hL hlt hp
        have BT := PS.below
        have B700 := HBK.out.trans (BT.mono HBK.out.size)
        have h_l_700 := HLK.out.below BT
        have h_a_700 := HAK.out.later BT
        have h_s_700 := PS
        clear PS BT
        have hst : decide (((f1 : Nat) : Int) = f1) = true := decide_eq_true rfl
        clear hst
        have hnn : ((n_l : Int) != (n_l : Int)) = false := by simp
        have h4s : ((f1 : Nat) : Int) + (g1 : Nat) + (u1 : Nat) + (s1 : Nat) = (n_l : Nat) := by omega
        have k_s_0 := h_s_700.cell 0 _ rfl
        have k_s_1 := h_s_700.cell 1 _ rfl
        have k_s_2 := h_s_700.cell 2 _ rfl
        have k_s_3 := h_s_700.cell 3 _ rfl
        have k_a_0 := h_a_700.cell 0 _ rfl
        have k_a_1 := h_a_700.cell 1 _ rfl
        have k_a_2 := h_a_700.cell 2 _ rfl
        have k_a_3 := h_a_700.cell 3 _ rfl
        go_wp2_with fail
        clear k_s_0 k_s_1 k_s_2 k_s_3 k_a_0 k_a_1 k_a_2 k_a_3
        rcases op_moves vs name wh with ⟨z, ⟨z1, z2⟩, z3⟩ | ⟨us, f2, g2, u2, s2, z1, z2, z3, z4, z5, z6, z7⟩
        case inl =>
          have HZ := Lib.hid z3
          clear z3
          have c := does_any wr h_l_700 name wh h_wh1 h_wh2
          rw [HZ.out] at c
          refine c.mono ?_
          rintro e w701 ⟨a_x, n_x, c_x, rfl, h_x_701, hb⟩
          clear c
          have B701 := B700.trans (hb.mono B700.size)
          have h_l_701 := h_l_700.below hb
          have h_s_701 := h_s_700.later hb
          have h_a_701 := h_a_700.later hb
          clear hb B700 h_l_700 h_s_700 h_a_700
          go_wp2_with fail
          go_ret
          exact ⟨rfl, B701⟩
        case inr =>
          have HZ := Lib.hid z1
          have HZ3 := Lib.hid z3
          rw [HN.out] at z4
          obtain ⟨e5, e6, e7, e8⟩ := HS4.out
          rw [← e5, ← e6] at z5
          rw [← e7] at z6 z7
          clear z1 z3 e5 e6 e7 e8
          have c := does_any wr h_l_700 name wh h_wh1 h_wh2
          rw [HZ.out] at c
          refine c.mono ?_
          rintro e w701 ⟨a_x, n_x, c_x, rfl, h_x_701, hb⟩
          clear c
          have B701 := B700.trans (hb.mono B700.size)
          have h_l_701 := h_l_700.below hb
          have h_s_701 := h_s_700.later hb
          have h_a_701 := h_a_700.later hb
          clear hb B700 h_l_700 h_s_700 h_a_700
          go_wp2_with fail
          have c := Count_any w701 h_x_701.rd (-1) (by decide) (by decide)
          rw [HZ3.out] at c
          refine c.mono ?_
          rintro e w702 ⟨rfl, hb⟩
          clear c
          have B702 := B701.trans (hb.mono B701.size)
          have h_l_702 := h_l_701.below hb
          have h_s_702 := h_s_701.later hb
          have h_a_702 := h_a_701.later hb
          have h_x_702 := h_x_701.below hb
          clear hb B701 h_l_701 h_s_701 h_a_701 h_x_701
          have hb := below_al w702 (.cells #[.int .i64 (((((f2, g2, u2, s2) : Nat × Nat × Nat × Nat)).1 : Nat) : Int), .int .i64 (((((f2, g2, u2, s2) : Nat × Nat × Nat × Nat)).2.1 : Nat) : Int), .int .i64 (((((f2, g2, u2, s2) : Nat × Nat × Nat × Nat)).2.2.1 : Nat) : Int), .int .i64 (((((f2, g2, u2, s2) : Nat × Nat × Nat × Nat)).2.2.2 : Nat) : Int)] 47)
          have B703 := B702.trans (hb.mono B702.size)
          have h_l_703 := h_l_702.below hb
          have h_s_703 := h_s_702.later hb
          have h_a_703 := h_a_702.later hb
          have h_x_703 := h_x_702.below hb
          clear hb B702 h_l_702 h_s_702 h_a_702 h_x_702
          have h_t_703 := PRow.new 47 w702 #[.int .i64 (((((f2, g2, u2, s2) : Nat × Nat × Nat × Nat)).1 : Nat) : Int), .int .i64 (((((f2, g2, u2, s2) : Nat × Nat × Nat × Nat)).2.1 : Nat) : Int), .int .i64 (((((f2, g2, u2, s2) : Nat × Nat × Nat × Nat)).2.2.1 : Nat) : Int), .int .i64 (((((f2, g2, u2, s2) : Nat × Nat × Nat × Nat)).2.2.2 : Nat) : Int)]
          have hge : decide (((u2 : Nat) : Int) ≥ ((u1 : Nat) : Int)) = true := decide_eq_true (by omega)
          have hle : decide (((u2 : Nat) : Int) ≤ ((u1 : Nat) : Int) + 1) = true := decide_eq_true (by omega)
          have h5s : ((f2 : Nat) : Int) + (g2 : Nat) + (u2 : Nat) + (s2 : Nat) = (n_l : Nat) := by omega
          by_cases hf : f2 = f1
          case pos =>
            subst hf
            have hg : ((((g2 : Nat) : Int) - ((g1 : Nat) : Int)) != 0) = true := by simp; omega
            have hg2 : decide ((((g2 : Nat) : Int) - ((g1 : Nat) : Int)) = 0) = false := decide_eq_false (by omega)
            have k_t_0 := h_t_703.cell 0 _ rfl
            have k_t_1 := h_t_703.cell 1 _ rfl
            have k_t_2 := h_t_703.cell 2 _ rfl
            have k_t_3 := h_t_703.cell 3 _ rfl
            have k_a_0 := h_a_703.cell 0 _ rfl
            have k_a_1 := h_a_703.cell 1 _ rfl
            have k_a_2 := h_a_703.cell 2 _ rfl
            have k_a_3 := h_a_703.cell 3 _ rfl
            go_wp2_with first | refine wpList_store_new rfl 47 _ _ rfl atTur _ _ _ rfl rfl rfl rfl (tur_one _ _ _ _) ?_
            clear k_t_0 k_t_1 k_t_2 k_t_3 k_a_0 k_a_1 k_a_2 k_a_3
            generalize (w702.alloc (.cells #[.int .i64 (((((f2, g2, u2, s2) : Nat × Nat × Nat × Nat)).1 : Nat) : Int), .int .i64 (((((f2, g2, u2, s2) : Nat × Nat × Nat × Nat)).2.1 : Nat) : Int), .int .i64 (((((f2, g2, u2, s2) : Nat × Nat × Nat × Nat)).2.2.1 : Nat) : Int), .int .i64 (((((f2, g2, u2, s2) : Nat × Nat × Nat × Nat)).2.2.2 : Nat) : Int)] 47)) = w703 at *
            go_ret
            exact ⟨rfl, B703⟩
          case neg =>
            have hg : ((((f2 : Nat) : Int) - ((f1 : Nat) : Int)) != 0) = true := by simp; omega
            have hg2 : decide ((((f2 : Nat) : Int) - ((f1 : Nat) : Int)) = 0) = false := decide_eq_false (by omega)
            have k_t_0 := h_t_703.cell 0 _ rfl
            have k_t_1 := h_t_703.cell 1 _ rfl
            have k_t_2 := h_t_703.cell 2 _ rfl
            have k_t_3 := h_t_703.cell 3 _ rfl
            have k_a_0 := h_a_703.cell 0 _ rfl
            have k_a_1 := h_a_703.cell 1 _ rfl
            have k_a_2 := h_a_703.cell 2 _ rfl
            have k_a_3 := h_a_703.cell 3 _ rfl
            go_wp2_with first | refine wpList_store_new rfl 47 _ _ rfl atTur _ _ _ rfl rfl rfl rfl (tur_one _ _ _ _) ?_
            clear k_t_0 k_t_1 k_t_2 k_t_3 k_a_0 k_a_1 k_a_2 k_a_3
            generalize (w702.alloc (.cells #[.int .i64 (((((f2, g2, u2, s2) : Nat × Nat × Nat × Nat)).1 : Nat) : Int), .int .i64 (((((f2, g2, u2, s2) : Nat × Nat × Nat × Nat)).2.1 : Nat) : Int), .int .i64 (((((f2, g2, u2, s2) : Nat × Nat × Nat × Nat)).2.2.1 : Nat) : Int), .int .i64 (((((f2, g2, u2, s2) : Nat × Nat × Nat × Nat)).2.2.2 : Nat) : Int)] 47)) = w703 at *
            go_ret
            exact ⟨rfl, B703⟩

end Go.Proofs.Ytnjkfjecnicccaa
