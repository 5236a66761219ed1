/- The walk of the law ContestSeats: it returns true and turns nothing that was there. No condition. Printed by gen_conlaws.py. -/
import Derived.Test.YtnkbkcmphgejkaaConT
import Derived.BigQuiet
import Derived.Deep.CutRange
namespace Go.Proofs.Ytnkbkcmphgejkaa
open Go.RowKit Go.Suf
set_option linter.unusedVariables false
set_option linter.unusedSimpArgs false

set_option maxRecDepth 100000 in
set_option maxHeartbeats 8000000 in
theorem contestSeats_walk (w : World) (nm_c : ByteArray) (nl_c : nm_c.size ≤ maxLen) {a_c : Option Addr} {n_c c_c : Nat} {ss_c : List ByteArray} (h_cs : RdS w a_c n_c c_c ss_c) (le_c : ∀ s ∈ ss_c, s.size ≤ maxLen) (se_c : Int) (ba_c : -9223372036854775808 ≤ se_c) (bb_c : se_c ≤ 9223372036854775807) (ru_c : Nat) (rb_c : ru_c < 256) (name : ByteArray) (nl : name.size ≤ maxLen) :
    Calls Try.prog 6 #[.agg #[.string nm_c, .slice a_c n_c c_c, .int .i64 se_c, .int .u8 ((ru_c : Nat) : Int)], .string name] w fun e w' => e = .returned (.bool true) ∧ Below w.heap.size w w' := by
  obtain ⟨ck, hck⟩ : ∃ ck, checkC nm_c ss_c se_c ru_c = ck := ⟨_, rfl⟩
  have HC := Lib.hid hck
  clear hck
  have HN := Lib.hid h_cs.len
  have B0 : Below w.heap.size w w := Below.refl _ _
  have h_cs_0 := h_cs
  go_enter Try.func6, Try.ntmps6
  have hb := below_al w (.cells #[.string nm_c, .slice a_c n_c c_c, .int .i64 se_c, .int .u8 ((ru_c : Nat) : Int)] 40)
  have B1 := B0.trans (hb.mono B0.size)
  have h_cs_1 := h_cs_0.below hb
  clear hb B0 h_cs_0
  have h_c_1 := Has.new w #[.string nm_c, .slice a_c n_c c_c, .int .i64 se_c, .int .u8 ((ru_c : Nat) : Int)] 40
  go_wp2_with fail
  generalize (w.alloc (.cells #[.string nm_c, .slice a_c n_c c_c, .int .i64 se_c, .int .u8 ((ru_c : Nat) : Int)] 40)) = w1 at *
  have c := alive_any w1
  refine c.mono ?_
  rintro e w2 ⟨rfl, hb⟩
  clear c
  have B2 := B1.trans (hb.mono B1.size)
  have h_cs_2 := h_cs_1.below hb
  have h_c_2 := h_c_1.later hb
  clear hb B1 h_cs_1 h_c_1
  have k_c_0 := h_c_2.cell 0 _ rfl
  have k_c_1 := h_c_2.cell 1 _ rfl
  have k_c_2 := h_c_2.cell 2 _ rfl
  have k_c_3 := h_c_2.cell 3 _ rfl
  go_wp2_with fail
  clear k_c_0 k_c_1 k_c_2 k_c_3
  obtain ⟨gr_c, hgr⟩ : ∃ gr, greatC nm_c ss_c = gr := ⟨_, rfl⟩
  have G_c := Lib.hid hgr
  clear hgr
  have c := Great_any w2 nm_c h_cs_2 se_c ru_c rb_c
  rw [G_c.out] at c
  refine c.mono ?_
  rintro e w3 ⟨rfl, hb⟩
  clear c
  have B3 := B2.trans (hb.mono B2.size)
  have h_cs_3 := h_cs_2.below hb
  have h_c_3 := h_c_2.later hb
  clear hb B2 h_cs_2 h_c_2
  cases gr_c with
  | true =>
    go_wp2_with fail
    go_ret
    exact ⟨rfl, B3⟩
  | false =>
    by_cases hbig : 1000 < name.size
    case pos =>
      go_wp2_with fail
      go_ret
      exact ⟨rfl, B3⟩
    have hbi : decide ((name.size : Int) > 1000) = false := decide_eq_false (by omega)
    have hn : n_c ≤ 1099511627776 := by have := great_le G_c.out; have := HN.out; omega
    have k_c_0 := h_c_3.cell 0 _ rfl
    have k_c_1 := h_c_3.cell 1 _ rfl
    have k_c_2 := h_c_3.cell 2 _ rfl
    have k_c_3 := h_c_3.cell 3 _ rfl
    go_wp2_with fail
    clear k_c_0 k_c_1 k_c_2 k_c_3
    have c := Check_any w3 nm_c h_cs_3 se_c ba_c bb_c ru_c rb_c
    rw [HC.out] at c
    refine c.mono ?_
    rintro e w4 ⟨rfl, hb⟩
    clear c
    have B4 := B3.trans (hb.mono B3.size)
    have h_cs_4 := h_cs_3.below hb
    have h_c_4 := h_c_3.later hb
    clear hb B3 h_cs_3 h_c_3
    by_cases hc : ck = 0
    case neg =>
      go_wp2_with fail
      go_ret
      exact ⟨rfl, B4⟩
    subst hc
    have h1 := check_one HC.out
    have hp := place_more HC.out name
    have H1 := Lib.hid h1
    have HP := Lib.hid hp
    obtain ⟨e1, he1⟩ : ∃ e1, (placeC nm_c ss_c se_c ru_c name).2 = e1 := ⟨_, rfl⟩
    obtain ⟨q1, hq1⟩ : ∃ q1, (placeC nm_c ss_c se_c ru_c name).1 = q1 := ⟨_, rfl⟩
    obtain ⟨e2, he2⟩ : ∃ e2, (placeC nm_c (ss_c ++ [name]) se_c ru_c name).2 = e2 := ⟨_, rfl⟩
    obtain ⟨q2, hq2⟩ : ∃ q2, (placeC nm_c (ss_c ++ [name]) se_c ru_c name).1 = q2 := ⟨_, rfl⟩
    have E1 := Lib.hid he1
    have E2 := Lib.hid he2
    have Q1 := Lib.hid hq1
    have Q2 := Lib.hid hq2
    clear h1 hp he1 he2 hq1 hq2
    have k_c_0 := h_c_4.cell 0 _ rfl
    have k_c_1 := h_c_4.cell 1 _ rfl
    have k_c_2 := h_c_4.cell 2 _ rfl
    have k_c_3 := h_c_4.cell 3 _ rfl
    go_wp2_with fail
    clear k_c_0 k_c_1 k_c_2 k_c_3
    have c := Twin_any w4 nm_c h_cs_4 hn se_c ru_c
    refine c.mono ?_
    rintro e wt ⟨a_d, c_d, rfl, h_dt, hbt⟩
    clear c
    have hb := hbt.trans ((below_al wt (.cells #[.string nm_c, .slice a_d n_c c_d, .int .i64 1, .int .u8 ((ru_c : Nat) : Int)] 40)).mono hbt.size)
    have h_ds_5 := h_dt.below (below_al wt (.cells #[.string nm_c, .slice a_d n_c c_d, .int .i64 1, .int .u8 ((ru_c : Nat) : Int)] 40))
    have h_d_5 := Has.new wt #[.string nm_c, .slice a_d n_c c_d, .int .i64 1, .int .u8 ((ru_c : Nat) : Int)] 40
    have B5 := B4.trans (hb.mono B4.size)
    have h_cs_5 := h_cs_4.below hb
    have h_c_5 := h_c_4.later hb
    clear hb B4 h_cs_4 h_c_4
    have k_c_0 := h_c_5.cell 0 _ rfl
    have k_c_1 := h_c_5.cell 1 _ rfl
    have k_c_2 := h_c_5.cell 2 _ rfl
    have k_c_3 := h_c_5.cell 3 _ rfl
    go_wp2_with first | refine wpList_store_new rfl 40 _ _ rfl atCon _ _ _ rfl rfl rfl rfl (con_one _ _ _ _ _ _) ?_
    clear k_c_0 k_c_1 k_c_2 k_c_3
    generalize (wt.alloc (.cells #[.string nm_c, .slice a_d n_c c_d, .int .i64 1, .int .u8 ((ru_c : Nat) : Int)] 40)) = w5 at *
    clear h_dt hbt
    have c := Twin_any w5 nm_c h_cs_5 hn se_c ru_c
    refine c.mono ?_
    rintro e wu ⟨a_m, c_m, rfl, h_mt, hbt⟩
    clear c
    have R0 := PRow.new 40 wu #[.string nm_c, .slice a_m n_c c_m, .int .i64 se_c, .int .u8 ((ru_c : Nat) : Int)]
    have hb0 := hbt.trans ((below_al wu (.cells #[.string nm_c, .slice a_m n_c c_m, .int .i64 se_c, .int .u8 ((ru_c : Nat) : Int)] 40)).mono hbt.size)
    have u1 := R0.cell 1 _ rfl
    have h_mu := h_mt.below (below_al wu (.cells #[.string nm_c, .slice a_m n_c c_m, .int .i64 se_c, .int .u8 ((ru_c : Nat) : Int)] 40))
    have RB := (R0.rebase hb0 hbt.size).later (below_al (wu.alloc (.cells #[.string nm_c, .slice a_m n_c c_m, .int .i64 se_c, .int .u8 ((ru_c : Nat) : Int)] 40)) (.cells #[.string name] 9))
    have hown0 := h_mu.own.alloc (.cells #[.string name] 9)
    have hsl := sl_new (wu.alloc (.cells #[.string nm_c, .slice a_m n_c c_m, .int .i64 se_c, .int .u8 ((ru_c : Nat) : Int)] 40)) (.string name) 9 rfl
    rw [World.size_alloc] at hsl
    have hsz : w5.heap.size ≤ ((wu.alloc (.cells #[.string nm_c, .slice a_m n_c c_m, .int .i64 se_c, .int .u8 ((ru_c : Nat) : Int)] 40)).alloc (.cells #[.string name] 9)).heap.size := by have := hbt.size; simp only [World.size_alloc]; omega
    have HMU := Lib.hid h_mu.len
    go_wp2_with first | refine wpList_store_new rfl 40 _ _ rfl atCon _ _ _ rfl rfl rfl rfl (con_one _ _ _ _ _ _) ?_ | (at_builtin; refine wpList_app rfl _ _ 38 rfl etS w5.heap.size rfl hown0 rfl rfl hsl (by unfold maxLen; omega) (by omega) hsz ?_; intro a5 c5 wz hown5 hg5 hb5; refine Hid.out ?_)
    have R5 := RB.grownS hown0 hg5 hb5
    have hb5' := (hb0.trans ((below_al (wu.alloc (.cells #[.string nm_c, .slice a_m n_c c_m, .int .i64 se_c, .int .u8 ((ru_c : Nat) : Int)] 40)) (.cells #[.string name] 9)).mono hb0.size)).trans hb5
    have u5 := R5.cell 1 _ rfl
    have f5 := R5.free 1
    have hs5 : OwS 9 w5.heap.size wz a5 (n_c + 1) c5 (ss_c ++ [name]) := ⟨by rw [List.length_append, HMU.out]; rfl, by simpa [strs] using hown5⟩
    have hb : Below w5.heap.size w5 (wz.setCell ⟨wu.heap.size, 1, none⟩ (.slice a5 (n_c + 1) c5)) := hb5'.setCell hbt.size _
    have h_ms_6 := hs5.setK (i := 1) R5.row (.slice a5 (n_c + 1) c5)
    have h_m_6 := (R5.set 1 (.slice a5 (n_c + 1) c5)).has
    clear R0 hb0 u1 h_mu RB hown0 hsl hsz h_mt hb5' hs5 hown5 hg5 hb5
    have B6 := B5.trans (hb.mono B5.size)
    have h_cs_6 := h_cs_5.below hb
    have h_c_6 := h_c_5.later hb
    have h_ds_6 := h_ds_5.below hb
    have h_d_6 := h_d_5.later hb
    clear hb B5 h_cs_5 h_c_5 h_ds_5 h_d_5
    refine Lib.hid ?_
    have k_c_0 := h_c_6.cell 0 _ rfl
    have k_c_1 := h_c_6.cell 1 _ rfl
    have k_c_2 := h_c_6.cell 2 _ rfl
    have k_c_3 := h_c_6.cell 3 _ rfl
    go_wp2_with fail
    clear k_c_0 k_c_1 k_c_2 k_c_3
    generalize (wz.setCell ⟨wu.heap.size, 1, none⟩ (.slice a5 (n_c + 1) c5)) = w6 at *
    clear R5 u5 f5 hbt
    have c := Place_any w6 nm_c h_cs_6 se_c ba_c bb_c ru_c rb_c name
    rw [E1.out] at c
    rw [Q1.out] at c
    refine c.mono ?_
    rintro e w7 ⟨rfl, hb⟩
    clear c
    have B7 := B6.trans (hb.mono B6.size)
    have h_cs_7 := h_cs_6.below hb
    have h_c_7 := h_c_6.later hb
    have h_ds_7 := h_ds_6.below hb
    have h_d_7 := h_d_6.later hb
    have h_ms_7 := h_ms_6.below hb
    have h_m_7 := h_m_6.later hb
    clear hb B6 h_cs_6 h_c_6 h_ds_6 h_d_6 h_ms_6 h_m_6
    have k_m_0 := h_m_7.cell 0 _ rfl
    have k_m_1 := h_m_7.cell 1 _ rfl
    have k_m_2 := h_m_7.cell 2 _ rfl
    have k_m_3 := h_m_7.cell 3 _ rfl
    go_wp2_with fail
    clear k_m_0 k_m_1 k_m_2 k_m_3
    have c := Place_any w7 nm_c h_ms_7.rd se_c ba_c bb_c ru_c rb_c name
    rw [E2.out] at c
    rw [Q2.out] at c
    refine c.mono ?_
    rintro e w8 ⟨rfl, hb⟩
    clear c
    have B8 := B7.trans (hb.mono B7.size)
    have h_cs_8 := h_cs_7.below hb
    have h_c_8 := h_c_7.later hb
    have h_ds_8 := h_ds_7.below hb
    have h_d_8 := h_d_7.later hb
    have h_ms_8 := h_ms_7.below hb
    have h_m_8 := h_m_7.later hb
    clear hb B7 h_cs_7 h_c_7 h_ds_7 h_d_7 h_ms_7 h_m_7
    have k_d_0 := h_d_8.cell 0 _ rfl
    have k_d_1 := h_d_8.cell 1 _ rfl
    have k_d_2 := h_d_8.cell 2 _ rfl
    have k_d_3 := h_d_8.cell 3 _ rfl
    go_wp2_with fail
    clear k_d_0 k_d_1 k_d_2 k_d_3
    have c := Check_any w8 nm_c h_ds_8.rd 1 (by decide) (by decide) ru_c rb_c
    rw [H1.out] at c
    refine c.mono ?_
    rintro e w9 ⟨rfl, hb⟩
    clear c
    have B9 := B8.trans (hb.mono B8.size)
    have h_cs_9 := h_cs_8.below hb
    have h_c_9 := h_c_8.later hb
    have h_ds_9 := h_ds_8.below hb
    have h_d_9 := h_d_8.later hb
    have h_ms_9 := h_ms_8.below hb
    have h_m_9 := h_m_8.later hb
    clear hb B8 h_cs_8 h_c_8 h_ds_8 h_d_8 h_ms_8 h_m_8
    rcases HP.out with ⟨hp1, ⟨hp2, hp3, hp4, hp5⟩ | ⟨hp2, hp3⟩⟩
    ·
      have hx1 : e1 = 6 := by rw [← E1.out, hp1, hp4]; rfl
      have hx2 : e2 = 0 := by rw [← E2.out, hp5]
      have hx3 : q2 = (n_c : Int) := by rw [← Q2.out, hp5, HN.out]
      have HG : Hid (goodC name name.size = true) := Lib.hid (by rw [good_all, hp3]; rfl)
      have hx4 : n_c < 10 := by have := HN.out; omega
      subst hx1; subst hx2; subst hx3
      clear hp1 hp2 hp3 hp4 hp5
      have k_c_0 := h_c_9.cell 0 _ rfl
      have k_c_1 := h_c_9.cell 1 _ rfl
      have k_c_2 := h_c_9.cell 2 _ rfl
      have k_c_3 := h_c_9.cell 3 _ rfl
      go_upto_region 12 with fail
      clear k_c_0 k_c_1 k_c_2 k_c_3
      go_cut [12] from 73 to 80 (fun t wx => t = Value.bool (goodC name 0) ∧ wx = w9)
      case first =>
        have hg0 : goodC name 0 = (decide (1 ≤ name.size) && decide (name.size ≤ 40)) := by simp [goodC]
        by_cases n1 : 1 ≤ name.size
        case pos =>
          by_cases n2 : name.size ≤ 40
          case pos =>
            go_wp2_with fail
            go_meet
            exact ⟨by rw [hg0]; first | (simp [n1, n2]; done) | (simp [n1, n2]; omega), rfl⟩
          case neg =>
            go_wp2_with fail
            go_meet
            exact ⟨by rw [hg0]; first | (simp [n2]; done) | (simp [n2]; omega), rfl⟩
        case neg =>
          go_wp2_with fail
          go_meet
          exact ⟨by rw [hg0]; first | (simp [n1]; done) | (simp [n1]; omega), rfl⟩
      case rest =>
      obtain ⟨rfl, hw⟩ := hcut
      have hw := hw.symm
      subst hw
      have k_c_1 := h_c_9.cell 1 _ rfl
      go_wp2_with fail
      go_loop [12, 13] (fun v j => ∃ (g : Bool) (i : Nat), i ≤ name.size ∧ v = .bool g ∧ j = .int .i64 (i : Nat) ∧ Hid (g = goodC name i)) (fun _ j => name.size - (intOf j).toNat)
      case atStart => exact ⟨_, 0, Nat.zero_le _, rfl, rfl, Lib.hid rfl⟩
      case round =>
        obtain ⟨g, i, hi, rfl, rfl, hG⟩ := hrel
        by_cases hlt : i < name.size
        case pos =>
          have hbn := Lib.hid (str_at name i hlt)
          have hb2 := name[i].toNat_lt
          have HS := Lib.hid (good_step name i)
          cases g with
          | false =>
            go_wp2_with fail
            go_round
            case rel => exact ⟨false, i + 1, by omega, by first | rfl | (congr 1; simp; omega), by go_num, Lib.hid (by rw [HS.out, ← hG.out]; rfl)⟩
            case measure => simp [intOf]; omega
          | true =>
            by_cases g1 : name[i].toNat < 33
            case pos =>
              go_wp2_with fail
              go_round
              case rel => exact ⟨false, i + 1, by omega, by first | rfl | (congr 1; simp; omega), by go_num, Lib.hid (by rw [HS.out, ← hG.out, ← hbn.out]; simp [badC, g1])⟩
              case measure => simp [intOf]; omega
            by_cases g2 : 126 < name[i].toNat
            case pos =>
              go_wp2_with fail
              go_round
              case rel => exact ⟨false, i + 1, by omega, by first | rfl | (congr 1; simp; omega), by go_num, Lib.hid (by rw [HS.out, ← hG.out, ← hbn.out]; simp [badC, g2])⟩
              case measure => simp [intOf]; omega
            go_wp2_with fail
            go_round
            case rel => exact ⟨true, i + 1, by omega, by first | rfl | (congr 1; simp; omega), by go_num, Lib.hid (by rw [HS.out, ← hG.out, ← hbn.out]; simp [badC]; omega)⟩
            case measure => simp [intOf]; omega
        case neg =>
          obtain rfl : i = name.size := by omega
          obtain rfl : g = true := hG.out.trans HG.out
          have hx6 : decide ((n_c : Int) < 10) = true := decide_eq_true (by omega)
          go_wp2_with fail
          go_ret
          exact ⟨by first | rfl | (congr 2; simp; omega), B9⟩
    ·
      have hx2 : ¬ e2 = 0 := by rw [← E2.out]; exact hp3
      have hx7 : decide (e2 = 0) = false := decide_eq_false hx2
      by_cases hh : hasS ss_c name = true
      case pos =>
        have hx1 : e1 = 0 := by rw [← E1.out, hp1, if_pos hh]
        subst hx1
        clear hp1 hp2 hp3 hh
        have k_c_0 := h_c_9.cell 0 _ rfl
        have k_c_1 := h_c_9.cell 1 _ rfl
        have k_c_2 := h_c_9.cell 2 _ rfl
        have k_c_3 := h_c_9.cell 3 _ rfl
        go_upto_region 12 with fail
        clear k_c_0 k_c_1 k_c_2 k_c_3
        go_cut [12] from 73 to 80 (fun t wx => t = Value.bool (goodC name 0) ∧ wx = w9)
        case first =>
          have hg0 : goodC name 0 = (decide (1 ≤ name.size) && decide (name.size ≤ 40)) := by simp [goodC]
          by_cases n1 : 1 ≤ name.size
          case pos =>
            by_cases n2 : name.size ≤ 40
            case pos =>
              go_wp2_with fail
              go_meet
              exact ⟨by rw [hg0]; first | (simp [n1, n2]; done) | (simp [n1, n2]; omega), rfl⟩
            case neg =>
              go_wp2_with fail
              go_meet
              exact ⟨by rw [hg0]; first | (simp [n2]; done) | (simp [n2]; omega), rfl⟩
          case neg =>
            go_wp2_with fail
            go_meet
            exact ⟨by rw [hg0]; first | (simp [n1]; done) | (simp [n1]; omega), rfl⟩
        case rest =>
        obtain ⟨rfl, hw⟩ := hcut
        have hw := hw.symm
        subst hw
        have k_c_1 := h_c_9.cell 1 _ rfl
        go_wp2_with fail
        go_loop [12, 13] (fun v j => ∃ (g : Bool) (i : Nat), i ≤ name.size ∧ v = .bool g ∧ j = .int .i64 (i : Nat) ∧ Hid (g = goodC name i)) (fun _ j => name.size - (intOf j).toNat)
        case atStart => exact ⟨_, 0, Nat.zero_le _, rfl, rfl, Lib.hid rfl⟩
        case round =>
          obtain ⟨g, i, hi, rfl, rfl, hG⟩ := hrel
          by_cases hlt : i < name.size
          case pos =>
            have hbn := Lib.hid (str_at name i hlt)
            have hb2 := name[i].toNat_lt
            have HS := Lib.hid (good_step name i)
            cases g with
            | false =>
              go_wp2_with fail
              go_round
              case rel => exact ⟨false, i + 1, by omega, by first | rfl | (congr 1; simp; omega), by go_num, Lib.hid (by rw [HS.out, ← hG.out]; rfl)⟩
              case measure => simp [intOf]; omega
            | true =>
              by_cases g1 : name[i].toNat < 33
              case pos =>
                go_wp2_with fail
                go_round
                case rel => exact ⟨false, i + 1, by omega, by first | rfl | (congr 1; simp; omega), by go_num, Lib.hid (by rw [HS.out, ← hG.out, ← hbn.out]; simp [badC, g1])⟩
                case measure => simp [intOf]; omega
              by_cases g2 : 126 < name[i].toNat
              case pos =>
                go_wp2_with fail
                go_round
                case rel => exact ⟨false, i + 1, by omega, by first | rfl | (congr 1; simp; omega), by go_num, Lib.hid (by rw [HS.out, ← hG.out, ← hbn.out]; simp [badC, g2])⟩
                case measure => simp [intOf]; omega
              go_wp2_with fail
              go_round
              case rel => exact ⟨true, i + 1, by omega, by first | rfl | (congr 1; simp; omega), by go_num, Lib.hid (by rw [HS.out, ← hG.out, ← hbn.out]; simp [badC]; omega)⟩
              case measure => simp [intOf]; omega
          case neg =>
            obtain rfl : i = name.size := by omega
            cases g
            all_goals (go_wp2_with fail; go_ret; exact ⟨by first | rfl | (congr 2; simp [hx2]) | (congr 2; simp [hx2]; omega), B9⟩)
      case neg =>
        have hx1 : e1 = 6 := by rw [← E1.out, hp1, if_neg hh]
        have HG : Hid (goodC name name.size = true → ¬ n_c < 10) := Lib.hid (by
          rw [good_all]
          intro h1 h2
          exact hp2 ⟨by rw [HN.out]; exact h2, by simpa using h1, by simpa using hh⟩)
        subst hx1
        clear hp1 hp2 hp3 hh
        have k_c_0 := h_c_9.cell 0 _ rfl
        have k_c_1 := h_c_9.cell 1 _ rfl
        have k_c_2 := h_c_9.cell 2 _ rfl
        have k_c_3 := h_c_9.cell 3 _ rfl
        go_upto_region 12 with fail
        clear k_c_0 k_c_1 k_c_2 k_c_3
        go_cut [12] from 73 to 80 (fun t wx => t = Value.bool (goodC name 0) ∧ wx = w9)
        case first =>
          have hg0 : goodC name 0 = (decide (1 ≤ name.size) && decide (name.size ≤ 40)) := by simp [goodC]
          by_cases n1 : 1 ≤ name.size
          case pos =>
            by_cases n2 : name.size ≤ 40
            case pos =>
              go_wp2_with fail
              go_meet
              exact ⟨by rw [hg0]; first | (simp [n1, n2]; done) | (simp [n1, n2]; omega), rfl⟩
            case neg =>
              go_wp2_with fail
              go_meet
              exact ⟨by rw [hg0]; first | (simp [n2]; done) | (simp [n2]; omega), rfl⟩
          case neg =>
            go_wp2_with fail
            go_meet
            exact ⟨by rw [hg0]; first | (simp [n1]; done) | (simp [n1]; omega), rfl⟩
        case rest =>
        obtain ⟨rfl, hw⟩ := hcut
        have hw := hw.symm
        subst hw
        have k_c_1 := h_c_9.cell 1 _ rfl
        go_wp2_with fail
        go_loop [12, 13] (fun v j => ∃ (g : Bool) (i : Nat), i ≤ name.size ∧ v = .bool g ∧ j = .int .i64 (i : Nat) ∧ Hid (g = goodC name i)) (fun _ j => name.size - (intOf j).toNat)
        case atStart => exact ⟨_, 0, Nat.zero_le _, rfl, rfl, Lib.hid rfl⟩
        case round =>
          obtain ⟨g, i, hi, rfl, rfl, hG⟩ := hrel
          by_cases hlt : i < name.size
          case pos =>
            have hbn := Lib.hid (str_at name i hlt)
            have hb2 := name[i].toNat_lt
            have HS := Lib.hid (good_step name i)
            cases g with
            | false =>
              go_wp2_with fail
              go_round
              case rel => exact ⟨false, i + 1, by omega, by first | rfl | (congr 1; simp; omega), by go_num, Lib.hid (by rw [HS.out, ← hG.out]; rfl)⟩
              case measure => simp [intOf]; omega
            | true =>
              by_cases g1 : name[i].toNat < 33
              case pos =>
                go_wp2_with fail
                go_round
                case rel => exact ⟨false, i + 1, by omega, by first | rfl | (congr 1; simp; omega), by go_num, Lib.hid (by rw [HS.out, ← hG.out, ← hbn.out]; simp [badC, g1])⟩
                case measure => simp [intOf]; omega
              by_cases g2 : 126 < name[i].toNat
              case pos =>
                go_wp2_with fail
                go_round
                case rel => exact ⟨false, i + 1, by omega, by first | rfl | (congr 1; simp; omega), by go_num, Lib.hid (by rw [HS.out, ← hG.out, ← hbn.out]; simp [badC, g2])⟩
                case measure => simp [intOf]; omega
              go_wp2_with fail
              go_round
              case rel => exact ⟨true, i + 1, by omega, by first | rfl | (congr 1; simp; omega), by go_num, Lib.hid (by rw [HS.out, ← hG.out, ← hbn.out]; simp [badC]; omega)⟩
              case measure => simp [intOf]; omega
          case neg =>
            obtain rfl : i = name.size := by omega
            cases g with
            | false =>
              go_wp2_with fail
              go_ret
              exact ⟨by first | rfl | (congr 2; simp [hx2]) | (congr 2; simp [hx2]; omega), B9⟩
            | true =>
              have hx5 : ¬ n_c < 10 := HG.out hG.out.symm
              have hx6 : decide ((n_c : Int) < 10) = false := decide_eq_false (by omega)
              go_wp2_with fail
              go_ret
              exact ⟨by first | rfl | (congr 2; simp [hx2]) | (congr 2; simp [hx2]; omega), B9⟩

end Go.Proofs.Ytnkbkcmphgejkaa
