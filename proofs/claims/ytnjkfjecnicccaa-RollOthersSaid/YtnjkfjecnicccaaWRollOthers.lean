/- The walk of the law RollOthers: it returns true and turns nothing that was there. No condition. Printed by gen_rollaws.py. -/
import Derived.Test.YtnjkfjecnicccaaRolY
import Derived.BigQuiet
import Derived.Test.YtnjkfjecnicccaaRolM
import Derived.Test.YtnjkfjecnicccaaMem
import Derived.Deep.CutRange
namespace Go.Proofs.Ytnjkfjecnicccaa
open Go.RowKit Go.Suf
set_option linter.unusedVariables false
set_option linter.unusedSimpArgs false

set_option maxRecDepth 100000 in
set_option maxHeartbeats 8000000 in
theorem rollOthers_walk (w : World) {a_l : Option Addr} {n_l c_l : Nat} {vs : List VQ} (h_l : RdV w a_l n_l c_l vs) (name : ByteArray) (nl : name.size ≤ maxLen) (wh : Int) (h_wh1 : -9223372036854775808 ≤ wh) (h_wh2 : wh ≤ 9223372036854775807) (pc : Int) (h_pc1 : -9223372036854775808 ≤ pc) (h_pc2 : pc ≤ 9223372036854775807) :
    Calls Try.prog 7 #[.slice a_l n_l c_l, .string name, .int .i64 wh, .int .i64 pc] w fun e w' => e = .returned (.bool true) ∧ Below w.heap.size w w' := by
  have HN := Lib.hid h_l.len
  have hll := h_l.lt
  have B0 : Below w.heap.size w w := Below.refl _ _
  have h_l_0 := h_l
  go_enter Try.func7, Try.ntmps7
  go_wp2_with fail
  have c := aliveR_any w
  refine c.mono ?_
  rintro e w1 ⟨rfl, hb⟩
  clear c
  have B1 := B0.trans (hb.mono B0.size)
  have h_l_1 := h_l_0.below hb
  clear hb B0 h_l_0
  go_wp2_with fail
  obtain ⟨gr, hgr⟩ : ∃ gr, greatV vs = gr := ⟨_, rfl⟩
  have GR := Lib.hid hgr
  clear hgr
  have c := Great_any w1 h_l_1
  rw [GR.out] at c
  refine c.mono ?_
  rintro e w2 ⟨rfl, hb⟩
  clear c
  have B2 := B1.trans (hb.mono B1.size)
  have h_l_2 := h_l_1.below hb
  clear hb B1 h_l_1
  cases gr with
  | true =>
    go_wp2_with fail
    go_ret
    exact ⟨rfl, B2⟩
  | false =>
    by_cases hbig : 1000 < name.size
    case pos =>
      go_wp2_with fail
      go_ret
      exact ⟨rfl, B2⟩
    have hbi : decide ((name.size : Int) > 1000) = false := decide_eq_false (by omega)
    have hn : n_l ≤ 100 := by have := great_len GR.out; have := HN.out; omega
    go_wp2_with fail
    rcases op_turns vs name wh with ⟨z, ⟨z1, z2⟩, z3⟩ | ⟨m, vx, z1, z2, z3, z4, z5, z6, z7, z8⟩
    case inl =>
      have HZ := Lib.hid z3
      clear z3
      have c := does_any w2 h_l_2 name wh h_wh1 h_wh2
      rw [HZ.out] at c
      refine c.mono ?_
      rintro e w3 ⟨a_x, n_x, c_x, rfl, h_x_3, hb⟩
      clear c
      have B3 := B2.trans (hb.mono B2.size)
      have h_l_3 := h_l_2.below hb
      clear hb B2 h_l_2
      obtain rfl : n_x = 0 := h_x_3.len.symm
      go_wp2_with fail
      have HBX := Lib.hid B3
      have HLX := Lib.hid h_l_3
      go_loopw [12, 13] (fun t jv wr => jv = .int .i64 0 ∧ t = .int .i64 0 ∧ w3 = wr) (fun _ _ _ => 0)
      case atStart => exact ⟨rfl, rfl, rfl⟩
      case round =>
        obtain ⟨rfl, rfl, hww⟩ := hrel
        subst hww
        have B300 := HBX.out
        have h_l_300 := HLX.out
        go_wp2_with fail
        rcases add_turns vs name pc with ⟨z, ⟨z1, z2⟩, z3⟩ | ⟨m2, vy, y1, y2, y3, y4, y5, y6, y7⟩
        case inl =>
          have HZ := Lib.hid z3
          clear z3
          have c := Add_any w3 h_l_300 name pc h_pc1 h_pc2
          rw [HZ.out] at c
          refine c.mono ?_
          rintro e w301 ⟨a_y, n_y, c_y, rfl, h_y_301, hb⟩
          clear c
          have B301 := B300.trans (hb.mono B300.size)
          have h_l_301 := h_l_300.below hb
          clear hb B300 h_l_300
          obtain rfl : n_y = 0 := h_y_301.len.symm
          go_wp2_with fail
          go_ret
          exact ⟨rfl, B301⟩
        case inr =>
          have HY1 := Lib.hid y1
          have HY2 := Lib.hid y2
          have HY5 := Lib.hid y5
          have HY7 := Lib.hid y7
          rw [HN.out] at y3 y4
          clear y1 y2 y5 y7
          have c := Add_any w3 h_l_300 name pc h_pc1 h_pc2
          rw [HY1.out] at c
          refine c.mono ?_
          rintro e w301 ⟨a_y, n_y, c_y, rfl, h_y_301, hb⟩
          clear c
          have B301 := B300.trans (hb.mono B300.size)
          have h_l_301 := h_l_300.below hb
          clear hb B300 h_l_300
          obtain rfl : n_l + 1 = n_y := by rw [← h_y_301.len]; exact y3.symm
          have hnn : (((n_l : Nat) : Int) + 1 != ((n_l : Nat) : Int) + 1) = false := by simp
          go_wp2_with fail
          have c := Check_any w301 h_y_301.rd
          rw [HY2.out] at c
          refine c.mono ?_
          rintro e w302 ⟨rfl, hb⟩
          clear c
          have B302 := B301.trans (hb.mono B301.size)
          have h_l_302 := h_l_301.below hb
          have h_y_302 := h_y_301.below hb
          clear hb B301 h_l_301 h_y_301
          go_wp2_with fail
          go_loopw [16, 17] (fun t jv wr => ∃ (i : Nat) (tn : Int), i ≤ n_l + 1 ∧ jv = .int .i64 (i : Nat) ∧ t = .int .i64 tn ∧ Below w302.heap.size w302 wr ∧ Hid (tn = if m2 < i then 1 else 0)) (fun _ jv _ => n_l + 1 - (intOf jv).toNat)
          case atStart => exact ⟨0, 0, Nat.zero_le _, rfl, rfl, Below.refl _ _, Lib.hid (by rw [if_neg (by omega)])⟩
          case round =>
            rename World => wr
            obtain ⟨i, tn, hi, rfl, rfl, BT, hT⟩ := hrel
            by_cases hlt : i < n_l + 1
            case neg =>
              obtain rfl : i = n_l + 1 := by omega
              obtain rfl : tn = 1 := by rw [hT.out, if_pos (by omega)]
              have BE := B302.trans (BT.mono B302.size)
              go_wp2_with fail
              go_ret
              exact ⟨rfl, BE⟩
            case pos =>
              have hd : decide (((i : Nat) : Int) < ((n_l : Nat) : Int) + 1) = true := decide_eq_true (by omega)
              have B800 := BT
              have h_l_800 := h_l_302.below BT
              have h_y_800 := h_y_302.rd.below BT
              clear BT
              obtain ⟨bx, ox, rfl, hcx⟩ := h_y_800.addr (by omega)
              obtain ⟨x0, x1, x2⟩ := hcx i hlt
              clear hcx
              by_cases c1 : i = m2
              case pos =>
                subst c1
                obtain rfl : tn = 0 := by rw [hT.out, if_neg (by omega)]
                rw [y6] at x0
                have HT : Hid ((1 : Int) = if i < i + 1 then 1 else 0) := Lib.hid (by rw [if_pos (by omega)])
                go_wp2_with fail
                go_roundw
                case rel => exact ⟨i + 1, _, by omega, by go_num, rfl, B800, HT⟩
                case measure => simp [intOf]; omega
              by_cases c2 : i < m2
              case pos =>
                obtain rfl : tn = 0 := by rw [hT.out, if_neg (by omega)]
                have HT : Hid ((0 : Int) = if m2 < i + 1 then 1 else 0) := Lib.hid (by rw [if_neg (by omega)])
                obtain ⟨e1, e2⟩ := HY5.out i c2
                rw [e1] at x0 x1 x2
                obtain ⟨bl, ol, rfl, hcl⟩ := h_l_800.addr (by omega)
                obtain ⟨l0, l1, l2⟩ := hcl i (by omega)
                clear hcl e1
                obtain ⟨q, hq⟩ : ∃ q, vth vs i = q := ⟨_, rfl⟩
                rw [hq] at x0 x1 x2 l0 l1 l2 e2
                clear hq
                have hnm : (q.nm.toList == name.toList) = false := by
                  cases h : (q.nm.toList == name.toList) with
                  | false => rfl
                  | true => exact absurd (eqS_iff.1 h) e2
                have hw0 : IntKind.i64.wrap ((i : Nat) : Int) = ((i : Nat) : Int) := wrap_in' (by omega) (by omega)
                have hge : decide (n_l ≤ i) = false := decide_eq_false (by omega)
                have hlx : ((i : Nat) : Int) < ((n_l : Nat) : Int) + 1 := by omega
                have hly : i < n_l := by omega
                clear e2
                go_upto_region 28 with fail
                have hb := (Below.refl wr.heap.size wr).drew
                replace x0 := cell_below hb x0
                replace x1 := cell_below hb x1
                replace x2 := cell_below hb x2
                replace l0 := cell_below hb l0
                replace l1 := cell_below hb l1
                replace l2 := cell_below hb l2
                have B801 := B800.trans (hb.mono B800.size)
                have h_l_801 := h_l_800.below hb
                have h_y_801 := h_y_800.below hb
                clear hb B800 h_l_800 h_y_800
                refine wp_region_held_drew (S := (fun w' => w'.cell? ⟨bx, ox + i * 3, none⟩ = some (.string (q).nm) ∧ w'.cell? ⟨bx, ox + i * 3 + 1, none⟩ = some (.int .i64 (q).pc) ∧ w'.cell? ⟨bx, ox + i * 3 + 2, none⟩ = some (.int .u8 (((q).st : Nat) : Int)) ∧ w'.cell? ⟨bl, ol + i * 3, none⟩ = some (.string (q).nm) ∧ w'.cell? ⟨bl, ol + i * 3 + 1, none⟩ = some (.int .i64 (q).pc) ∧ w'.cell? ⟨bl, ol + i * 3 + 2, none⟩ = some (.int .u8 (((q).st : Nat) : Int)) ∧ True)) (by kernel_rfl) ?_ (fun hHeld => ?_)
                · exact ⟨x0, x1, x2, l0, l1, l2, trivial⟩
                generalize wr.drew = w801 at *
                refine wpAnyH_take (i := 0) (oi := ?oir1_0) (v := ?vr1_0) ?hir1_0 (by kernel_rfl) (by kernel_rfl) (by kernel_rfl) ?hqr1_0 ?hyr1_0 (by assumption) ?restr1_0
                case hir1_0 => simp only [List.getElem?_toArray, List.getElem?_cons_succ, List.getElem?_cons_zero]; rfl
                case hqr1_0 => exact fun _ _ _ h => h
                case hyr1_0 => (refine Or.inl ⟨by rfl, ?_⟩; intro w hSw; (try dsimp only at hSw); go_simp; all_goals with_reducible rfl)
                try simp only [Act.put, List.setIfInBounds_toArray, List.set_cons_zero, List.set_cons_succ]
                refine wpAnyH_take (i := 1) (oi := ?oir1_1) (v := ?vr1_1) ?hir1_1 (by kernel_rfl) (by kernel_rfl) (by kernel_rfl) ?hqr1_1 ?hyr1_1 (by assumption) ?restr1_1
                case hir1_1 => simp only [List.getElem?_toArray, List.getElem?_cons_succ, List.getElem?_cons_zero]; rfl
                case hqr1_1 => exact fun _ _ _ h => h
                case hyr1_1 => (refine Or.inl ⟨by rfl, ?_⟩; intro w hSw; (try dsimp only at hSw); go_simp; all_goals with_reducible rfl)
                try simp only [Act.put, List.setIfInBounds_toArray, List.set_cons_zero, List.set_cons_succ]
                refine wpAnyH_take (i := 2) (oi := ?oir1_2) (v := ?vr1_2) ?hir1_2 (by kernel_rfl) (by kernel_rfl) (by kernel_rfl) ?hqr1_2 ?hyr1_2 (by assumption) ?restr1_2
                case hir1_2 => simp only [List.getElem?_toArray, List.getElem?_cons_succ, List.getElem?_cons_zero]; rfl
                case hqr1_2 => exact fun _ _ _ h => h
                case hyr1_2 => (refine Or.inl ⟨by rfl, ?_⟩; intro w hSw; (try dsimp only at hSw); go_simp; all_goals with_reducible rfl)
                try simp only [Act.put, List.setIfInBounds_toArray, List.set_cons_zero, List.set_cons_succ]
                refine wpAnyH_take (i := 3) (oi := ?oir1_3) (v := ?vr1_3) ?hir1_3 (by kernel_rfl) (by kernel_rfl) (by kernel_rfl) ?hqr1_3 ?hyr1_3 (by assumption) ?restr1_3
                case hir1_3 => simp only [List.getElem?_toArray, List.getElem?_cons_succ, List.getElem?_cons_zero]; rfl
                case hqr1_3 => exact fun _ _ _ h => h
                case hyr1_3 => (refine Or.inl ⟨by rfl, ?_⟩; intro w hSw; (try dsimp only at hSw); go_simp; all_goals with_reducible rfl)
                try simp only [Act.put, List.setIfInBounds_toArray, List.set_cons_zero, List.set_cons_succ]
                refine wpAnyH_take (i := 4) (oi := ?oir1_4) (v := ?vr1_4) ?hir1_4 (by kernel_rfl) (by kernel_rfl) (by kernel_rfl) ?hqr1_4 ?hyr1_4 (by assumption) ?restr1_4
                case hir1_4 => simp only [List.getElem?_toArray, List.getElem?_cons_succ, List.getElem?_cons_zero]; rfl
                case hqr1_4 => exact fun _ _ _ h => h
                case hyr1_4 => (refine Or.inl ⟨by rfl, ?_⟩; intro w hSw; (try dsimp only at hSw); go_simp; all_goals with_reducible rfl)
                try simp only [Act.put, List.setIfInBounds_toArray, List.set_cons_zero, List.set_cons_succ]
                refine wpAnyH_take (i := 5) (oi := ?oir1_5) (v := ?vr1_5) ?hir1_5 (by kernel_rfl) (by kernel_rfl) (by kernel_rfl) ?hqr1_5 ?hyr1_5 (by assumption) ?restr1_5
                case hir1_5 => simp only [List.getElem?_toArray, List.getElem?_cons_succ, List.getElem?_cons_zero]; rfl
                case hqr1_5 => exact fun _ _ _ h => h
                case hyr1_5 => (refine Or.inl ⟨by rfl, ?_⟩; intro w hSw; (try dsimp only at hSw); go_simp; all_goals with_reducible rfl)
                try simp only [Act.put, List.setIfInBounds_toArray, List.set_cons_zero, List.set_cons_succ]
                refine wpAnyH_take (i := 6) (oi := ?oir1_6) (v := ?vr1_6) ?hir1_6 (by kernel_rfl) (by kernel_rfl) (by kernel_rfl) ?hqr1_6 ?hyr1_6 (by assumption) ?restr1_6
                case hir1_6 => simp only [List.getElem?_toArray, List.getElem?_cons_succ, List.getElem?_cons_zero]; rfl
                case hqr1_6 => exact fun _ _ _ h => h
                case hyr1_6 => (refine Or.inl ⟨by rfl, ?_⟩; intro w hSw; (try dsimp only at hSw); go_simp; all_goals with_reducible rfl)
                try simp only [Act.put, List.setIfInBounds_toArray, List.set_cons_zero, List.set_cons_succ]
                refine wpAnyH_take (i := 7) (oi := ?oir1_7) (v := ?vr1_7) ?hir1_7 (by kernel_rfl) (by kernel_rfl) (by kernel_rfl) ?hqr1_7 ?hyr1_7 (by assumption) ?restr1_7
                case hir1_7 => simp only [List.getElem?_toArray, List.getElem?_cons_succ, List.getElem?_cons_zero]; rfl
                case hqr1_7 => exact fun _ _ _ h => h
                case hyr1_7 => (refine Or.inl ⟨by rfl, ?_⟩; intro w hSw; (try dsimp only at hSw); go_simp; all_goals with_reducible rfl)
                try simp only [Act.put, List.setIfInBounds_toArray, List.set_cons_zero, List.set_cons_succ]
                refine wpAnyH_take (i := 8) (oi := ?oir1_8) (v := ?vr1_8) ?hir1_8 (by kernel_rfl) (by kernel_rfl) (by kernel_rfl) ?hqr1_8 ?hyr1_8 (by assumption) ?restr1_8
                case hir1_8 => simp only [List.getElem?_toArray, List.getElem?_cons_succ, List.getElem?_cons_zero]; rfl
                case hqr1_8 => exact fun _ _ _ h => h
                case hyr1_8 => (refine Or.inl ⟨by rfl, ?_⟩; intro w hSw; (try dsimp only at hSw); go_simp; all_goals with_reducible rfl)
                try simp only [Act.put, List.setIfInBounds_toArray, List.set_cons_zero, List.set_cons_succ]
                refine wpAnyH_take (i := 9) (oi := ?oir1_9) (v := ?vr1_9) ?hir1_9 (by kernel_rfl) (by kernel_rfl) (by kernel_rfl) ?hqr1_9 ?hyr1_9 (by assumption) ?restr1_9
                case hir1_9 => simp only [List.getElem?_toArray, List.getElem?_cons_succ, List.getElem?_cons_zero]; rfl
                case hqr1_9 => exact fun _ _ _ h => h
                case hyr1_9 => (refine Or.inl ⟨by rfl, ?_⟩; intro w hSw; (try dsimp only at hSw); go_simp; all_goals with_reducible rfl)
                try simp only [Act.put, List.setIfInBounds_toArray, List.set_cons_zero, List.set_cons_succ]
                refine wpAnyH_take (i := 10) (oi := ?oir1_10) (v := ?vr1_10) ?hir1_10 (by kernel_rfl) (by kernel_rfl) (by kernel_rfl) ?hqr1_10 ?hyr1_10 (by assumption) ?restr1_10
                case hir1_10 => simp only [List.getElem?_toArray, List.getElem?_cons_succ, List.getElem?_cons_zero]; rfl
                case hqr1_10 => exact fun _ _ _ h => h
                case hyr1_10 => (refine Or.inl ⟨by rfl, ?_⟩; intro w hSw; (try dsimp only at hSw); go_simp; all_goals with_reducible rfl)
                try simp only [Act.put, List.setIfInBounds_toArray, List.set_cons_zero, List.set_cons_succ]
                refine wpAnyH_take (i := 11) (oi := ?oir1_11) (v := ?vr1_11) ?hir1_11 (by kernel_rfl) (by kernel_rfl) (by kernel_rfl) ?hqr1_11 ?hyr1_11 (by assumption) ?restr1_11
                case hir1_11 => simp only [List.getElem?_toArray, List.getElem?_cons_succ, List.getElem?_cons_zero]; rfl
                case hqr1_11 => exact fun _ _ _ h => h
                case hyr1_11 => (refine Or.inl ⟨by rfl, ?_⟩; intro w hSw; (try dsimp only at hSw); go_simp; all_goals with_reducible rfl)
                try simp only [Act.put, List.setIfInBounds_toArray, List.set_cons_zero, List.set_cons_succ]
                refine wpAnyH_take (i := 12) (oi := ?oir1_12) (v := ?vr1_12) ?hir1_12 (by kernel_rfl) (by kernel_rfl) (by kernel_rfl) ?hqr1_12 ?hyr1_12 (by assumption) ?restr1_12
                case hir1_12 => simp only [List.getElem?_toArray, List.getElem?_cons_succ, List.getElem?_cons_zero]; rfl
                case hqr1_12 => exact fun _ _ _ h => h
                case hyr1_12 => (refine Or.inl ⟨by rfl, ?_⟩; intro w hSw; (try dsimp only at hSw); go_simp; all_goals with_reducible rfl)
                try simp only [Act.put, List.setIfInBounds_toArray, List.set_cons_zero, List.set_cons_succ]
                refine wpAnyH_take (i := 13) (oi := ?oir1_13) (v := ?vr1_13) ?hir1_13 (by kernel_rfl) (by kernel_rfl) (by kernel_rfl) ?hqr1_13 ?hyr1_13 (by assumption) ?restr1_13
                case hir1_13 => simp only [List.getElem?_toArray, List.getElem?_cons_succ, List.getElem?_cons_zero]; rfl
                case hqr1_13 => exact fun _ _ _ h => h
                case hyr1_13 => (refine Or.inl ⟨by rfl, ?_⟩; intro w hSw; (try dsimp only at hSw); go_simp; all_goals with_reducible rfl)
                try simp only [Act.put, List.setIfInBounds_toArray, List.set_cons_zero, List.set_cons_succ]
                refine wpAnyH_take (i := 14) (oi := ?oir1_14) (v := ?vr1_14) ?hir1_14 (by kernel_rfl) (by kernel_rfl) (by kernel_rfl) ?hqr1_14 ?hyr1_14 (by assumption) ?restr1_14
                case hir1_14 => simp only [List.getElem?_toArray, List.getElem?_cons_succ, List.getElem?_cons_zero]; rfl
                case hqr1_14 => exact fun _ _ _ h => h
                case hyr1_14 => (refine Or.inl ⟨by rfl, ?_⟩; intro w hSw; (try dsimp only at hSw); go_simp; all_goals with_reducible rfl)
                try simp only [Act.put, List.setIfInBounds_toArray, List.set_cons_zero, List.set_cons_succ]
                refine wpAnyH_take (i := 15) (oi := ?oir1_15) (v := ?vr1_15) ?hir1_15 (by kernel_rfl) (by kernel_rfl) (by kernel_rfl) ?hqr1_15 ?hyr1_15 (by assumption) ?restr1_15
                case hir1_15 => simp only [List.getElem?_toArray, List.getElem?_cons_succ, List.getElem?_cons_zero]; rfl
                case hqr1_15 => exact fun _ _ _ h => h
                case hyr1_15 => (refine Or.inl ⟨by rfl, ?_⟩; intro w hSw; (try dsimp only at hSw); go_simp; all_goals with_reducible rfl)
                try simp only [Act.put, List.setIfInBounds_toArray, List.set_cons_zero, List.set_cons_succ]
                refine wpAnyH_take (i := 16) (oi := ?oir1_16) (v := ?vr1_16) ?hir1_16 (by kernel_rfl) (by kernel_rfl) (by kernel_rfl) ?hqr1_16 ?hyr1_16 (by assumption) ?restr1_16
                case hir1_16 => simp only [List.getElem?_toArray, List.getElem?_cons_succ, List.getElem?_cons_zero]; rfl
                case hqr1_16 => exact fun _ _ _ h => h
                case hyr1_16 => (refine Or.inl ⟨by rfl, ?_⟩; intro w hSw; (try dsimp only at hSw); go_simp; all_goals with_reducible rfl)
                try simp only [Act.put, List.setIfInBounds_toArray, List.set_cons_zero, List.set_cons_succ]
                refine wpAnyH_take (i := 17) (oi := ?oir1_17) (v := ?vr1_17) ?hir1_17 (by kernel_rfl) (by kernel_rfl) (by kernel_rfl) ?hqr1_17 ?hyr1_17 (by assumption) ?restr1_17
                case hir1_17 => simp only [List.getElem?_toArray, List.getElem?_cons_succ, List.getElem?_cons_zero]; rfl
                case hqr1_17 => exact fun _ _ _ h => h
                case hyr1_17 => (refine Or.inl ⟨by rfl, ?_⟩; intro w hSw; (try dsimp only at hSw); go_simp; all_goals with_reducible rfl)
                try simp only [Act.put, List.setIfInBounds_toArray, List.set_cons_zero, List.set_cons_succ]
                refine wpAnyH_take (i := 18) (oi := ?oir1_18) (v := ?vr1_18) ?hir1_18 (by kernel_rfl) (by kernel_rfl) (by kernel_rfl) ?hqr1_18 ?hyr1_18 (by assumption) ?restr1_18
                case hir1_18 => simp only [List.getElem?_toArray, List.getElem?_cons_succ, List.getElem?_cons_zero]; rfl
                case hqr1_18 => exact fun _ _ _ h => h
                case hyr1_18 => (refine Or.inl ⟨by rfl, ?_⟩; intro w hSw; (try dsimp only at hSw); go_simp; all_goals with_reducible rfl)
                try simp only [Act.put, List.setIfInBounds_toArray, List.set_cons_zero, List.set_cons_succ]
                refine wpAnyH_done (by kernel_rfl) ?_ _
                clear hHeld x0 x1 x2 l0 l1 l2
                go_wp2_with fail
                go_roundw
                case rel => exact ⟨i + 1, _, by omega, by go_num, rfl, B801, HT⟩
                case measure => simp [intOf]; omega
              case neg =>
                obtain rfl : tn = 1 := by rw [hT.out, if_pos (by omega)]
                have HT : Hid ((1 : Int) = if m2 < i + 1 then 1 else 0) := Lib.hid (by rw [if_pos (by omega)])
                obtain ⟨k, rfl⟩ : ∃ k, i = k + 1 := ⟨i - 1, by omega⟩
                have e1 := HY7.out (k + 1) (by omega)
                rw [Nat.add_sub_cancel] at e1
                rw [e1] at x0 x1 x2
                obtain ⟨bl, ol, rfl, hcl⟩ := h_l_800.addr (by omega)
                obtain ⟨l0, l1, l2⟩ := hcl k (by omega)
                clear hcl e1
                obtain ⟨q, hq⟩ : ∃ q, vth vs k = q := ⟨_, rfl⟩
                rw [hq] at x0 x1 x2 l0 l1 l2
                clear hq
                have hw1 : IntKind.i64.wrap ((((k + 1 : Nat)) : Int) - 1) = ((k : Nat) : Int) := (congrArg IntKind.i64.wrap (by omega)).trans (wrap_in' (by omega) (by omega))
                have hw2 : IntKind.i64.wrap (((k : Nat) : Int) + 1 - 1) = ((k : Nat) : Int) := (congrArg IntKind.i64.wrap (by omega)).trans (wrap_in' (by omega) (by omega))
                have hw0 : IntKind.i64.wrap ((k : Nat) : Int) = ((k : Nat) : Int) := wrap_in' (by omega) (by omega)
                have hge : decide (n_l ≤ k) = false := decide_eq_false (by omega)
                have hlx : (0 : Int) ≤ ((k : Nat) : Int) + 1 := by omega
                have hlk : k < n_l := by omega
                go_upto_region 28 with fail
                have hb := (Below.refl wr.heap.size wr).drew
                replace x0 := cell_below hb x0
                replace x1 := cell_below hb x1
                replace x2 := cell_below hb x2
                replace l0 := cell_below hb l0
                replace l1 := cell_below hb l1
                replace l2 := cell_below hb l2
                have B801 := B800.trans (hb.mono B800.size)
                have h_l_801 := h_l_800.below hb
                have h_y_801 := h_y_800.below hb
                clear hb B800 h_l_800 h_y_800
                refine wp_region_held_drew (S := (fun w' => w'.cell? ⟨bx, ox + (k + 1) * 3, none⟩ = some (.string (q).nm) ∧ w'.cell? ⟨bx, ox + (k + 1) * 3 + 1, none⟩ = some (.int .i64 (q).pc) ∧ w'.cell? ⟨bx, ox + (k + 1) * 3 + 2, none⟩ = some (.int .u8 (((q).st : Nat) : Int)) ∧ w'.cell? ⟨bl, ol + k * 3, none⟩ = some (.string (q).nm) ∧ w'.cell? ⟨bl, ol + k * 3 + 1, none⟩ = some (.int .i64 (q).pc) ∧ w'.cell? ⟨bl, ol + k * 3 + 2, none⟩ = some (.int .u8 (((q).st : Nat) : Int)) ∧ True)) (by kernel_rfl) ?_ (fun hHeld => ?_)
                · exact ⟨x0, x1, x2, l0, l1, l2, trivial⟩
                generalize wr.drew = w801 at *
                refine wpAnyH_take (i := 0) (oi := ?oir2_0) (v := ?vr2_0) ?hir2_0 (by kernel_rfl) (by kernel_rfl) (by kernel_rfl) ?hqr2_0 ?hyr2_0 (by assumption) ?restr2_0
                case hir2_0 => simp only [List.getElem?_toArray, List.getElem?_cons_succ, List.getElem?_cons_zero]; rfl
                case hqr2_0 => exact fun _ _ _ h => h
                case hyr2_0 => (refine Or.inl ⟨by rfl, ?_⟩; intro w hSw; (try dsimp only at hSw); go_simp; all_goals with_reducible rfl)
                try simp only [Act.put, List.setIfInBounds_toArray, List.set_cons_zero, List.set_cons_succ]
                refine wpAnyH_take (i := 1) (oi := ?oir2_1) (v := ?vr2_1) ?hir2_1 (by kernel_rfl) (by kernel_rfl) (by kernel_rfl) ?hqr2_1 ?hyr2_1 (by assumption) ?restr2_1
                case hir2_1 => simp only [List.getElem?_toArray, List.getElem?_cons_succ, List.getElem?_cons_zero]; rfl
                case hqr2_1 => exact fun _ _ _ h => h
                case hyr2_1 => (refine Or.inl ⟨by rfl, ?_⟩; intro w hSw; (try dsimp only at hSw); go_simp; all_goals with_reducible rfl)
                try simp only [Act.put, List.setIfInBounds_toArray, List.set_cons_zero, List.set_cons_succ]
                refine wpAnyH_take (i := 2) (oi := ?oir2_2) (v := ?vr2_2) ?hir2_2 (by kernel_rfl) (by kernel_rfl) (by kernel_rfl) ?hqr2_2 ?hyr2_2 (by assumption) ?restr2_2
                case hir2_2 => simp only [List.getElem?_toArray, List.getElem?_cons_succ, List.getElem?_cons_zero]; rfl
                case hqr2_2 => exact fun _ _ _ h => h
                case hyr2_2 => (refine Or.inl ⟨by rfl, ?_⟩; intro w hSw; (try dsimp only at hSw); go_simp; all_goals with_reducible rfl)
                try simp only [Act.put, List.setIfInBounds_toArray, List.set_cons_zero, List.set_cons_succ]
                refine wpAnyH_take (i := 3) (oi := ?oir2_3) (v := ?vr2_3) ?hir2_3 (by kernel_rfl) (by kernel_rfl) (by kernel_rfl) ?hqr2_3 ?hyr2_3 (by assumption) ?restr2_3
                case hir2_3 => simp only [List.getElem?_toArray, List.getElem?_cons_succ, List.getElem?_cons_zero]; rfl
                case hqr2_3 => exact fun _ _ _ h => h
                case hyr2_3 => (refine Or.inl ⟨by rfl, ?_⟩; intro w hSw; (try dsimp only at hSw); go_simp; all_goals with_reducible rfl)
                try simp only [Act.put, List.setIfInBounds_toArray, List.set_cons_zero, List.set_cons_succ]
                refine wpAnyH_take (i := 4) (oi := ?oir2_4) (v := ?vr2_4) ?hir2_4 (by kernel_rfl) (by kernel_rfl) (by kernel_rfl) ?hqr2_4 ?hyr2_4 (by assumption) ?restr2_4
                case hir2_4 => simp only [List.getElem?_toArray, List.getElem?_cons_succ, List.getElem?_cons_zero]; rfl
                case hqr2_4 => exact fun _ _ _ h => h
                case hyr2_4 => (refine Or.inl ⟨by rfl, ?_⟩; intro w hSw; (try dsimp only at hSw); go_simp; all_goals with_reducible rfl)
                try simp only [Act.put, List.setIfInBounds_toArray, List.set_cons_zero, List.set_cons_succ]
                refine wpAnyH_take (i := 5) (oi := ?oir2_5) (v := ?vr2_5) ?hir2_5 (by kernel_rfl) (by kernel_rfl) (by kernel_rfl) ?hqr2_5 ?hyr2_5 (by assumption) ?restr2_5
                case hir2_5 => simp only [List.getElem?_toArray, List.getElem?_cons_succ, List.getElem?_cons_zero]; rfl
                case hqr2_5 => exact fun _ _ _ h => h
                case hyr2_5 => (refine Or.inl ⟨by rfl, ?_⟩; intro w hSw; (try dsimp only at hSw); go_simp; all_goals with_reducible rfl)
                try simp only [Act.put, List.setIfInBounds_toArray, List.set_cons_zero, List.set_cons_succ]
                refine wpAnyH_take (i := 6) (oi := ?oir2_6) (v := ?vr2_6) ?hir2_6 (by kernel_rfl) (by kernel_rfl) (by kernel_rfl) ?hqr2_6 ?hyr2_6 (by assumption) ?restr2_6
                case hir2_6 => simp only [List.getElem?_toArray, List.getElem?_cons_succ, List.getElem?_cons_zero]; rfl
                case hqr2_6 => exact fun _ _ _ h => h
                case hyr2_6 => (refine Or.inl ⟨by rfl, ?_⟩; intro w hSw; (try dsimp only at hSw); go_simp; all_goals with_reducible rfl)
                try simp only [Act.put, List.setIfInBounds_toArray, List.set_cons_zero, List.set_cons_succ]
                refine wpAnyH_take (i := 7) (oi := ?oir2_7) (v := ?vr2_7) ?hir2_7 (by kernel_rfl) (by kernel_rfl) (by kernel_rfl) ?hqr2_7 ?hyr2_7 (by assumption) ?restr2_7
                case hir2_7 => simp only [List.getElem?_toArray, List.getElem?_cons_succ, List.getElem?_cons_zero]; rfl
                case hqr2_7 => exact fun _ _ _ h => h
                case hyr2_7 => (refine Or.inl ⟨by rfl, ?_⟩; intro w hSw; (try dsimp only at hSw); go_simp; all_goals with_reducible rfl)
                try simp only [Act.put, List.setIfInBounds_toArray, List.set_cons_zero, List.set_cons_succ]
                refine wpAnyH_take (i := 8) (oi := ?oir2_8) (v := ?vr2_8) ?hir2_8 (by kernel_rfl) (by kernel_rfl) (by kernel_rfl) ?hqr2_8 ?hyr2_8 (by assumption) ?restr2_8
                case hir2_8 => simp only [List.getElem?_toArray, List.getElem?_cons_succ, List.getElem?_cons_zero]; rfl
                case hqr2_8 => exact fun _ _ _ h => h
                case hyr2_8 => (refine Or.inl ⟨by rfl, ?_⟩; intro w hSw; (try dsimp only at hSw); go_simp; all_goals with_reducible rfl)
                try simp only [Act.put, List.setIfInBounds_toArray, List.set_cons_zero, List.set_cons_succ]
                refine wpAnyH_take (i := 9) (oi := ?oir2_9) (v := ?vr2_9) ?hir2_9 (by kernel_rfl) (by kernel_rfl) (by kernel_rfl) ?hqr2_9 ?hyr2_9 (by assumption) ?restr2_9
                case hir2_9 => simp only [List.getElem?_toArray, List.getElem?_cons_succ, List.getElem?_cons_zero]; rfl
                case hqr2_9 => exact fun _ _ _ h => h
                case hyr2_9 => (refine Or.inl ⟨by rfl, ?_⟩; intro w hSw; (try dsimp only at hSw); go_simp; all_goals with_reducible rfl)
                try simp only [Act.put, List.setIfInBounds_toArray, List.set_cons_zero, List.set_cons_succ]
                refine wpAnyH_take (i := 10) (oi := ?oir2_10) (v := ?vr2_10) ?hir2_10 (by kernel_rfl) (by kernel_rfl) (by kernel_rfl) ?hqr2_10 ?hyr2_10 (by assumption) ?restr2_10
                case hir2_10 => simp only [List.getElem?_toArray, List.getElem?_cons_succ, List.getElem?_cons_zero]; rfl
                case hqr2_10 => exact fun _ _ _ h => h
                case hyr2_10 => (refine Or.inl ⟨by rfl, ?_⟩; intro w hSw; (try dsimp only at hSw); go_simp; all_goals with_reducible rfl)
                try simp only [Act.put, List.setIfInBounds_toArray, List.set_cons_zero, List.set_cons_succ]
                refine wpAnyH_take (i := 11) (oi := ?oir2_11) (v := ?vr2_11) ?hir2_11 (by kernel_rfl) (by kernel_rfl) (by kernel_rfl) ?hqr2_11 ?hyr2_11 (by assumption) ?restr2_11
                case hir2_11 => simp only [List.getElem?_toArray, List.getElem?_cons_succ, List.getElem?_cons_zero]; rfl
                case hqr2_11 => exact fun _ _ _ h => h
                case hyr2_11 => (refine Or.inl ⟨by rfl, ?_⟩; intro w hSw; (try dsimp only at hSw); go_simp; all_goals with_reducible rfl)
                try simp only [Act.put, List.setIfInBounds_toArray, List.set_cons_zero, List.set_cons_succ]
                refine wpAnyH_take (i := 12) (oi := ?oir2_12) (v := ?vr2_12) ?hir2_12 (by kernel_rfl) (by kernel_rfl) (by kernel_rfl) ?hqr2_12 ?hyr2_12 (by assumption) ?restr2_12
                case hir2_12 => simp only [List.getElem?_toArray, List.getElem?_cons_succ, List.getElem?_cons_zero]; rfl
                case hqr2_12 => exact fun _ _ _ h => h
                case hyr2_12 => (refine Or.inl ⟨by rfl, ?_⟩; intro w hSw; (try dsimp only at hSw); go_simp; all_goals with_reducible rfl)
                try simp only [Act.put, List.setIfInBounds_toArray, List.set_cons_zero, List.set_cons_succ]
                refine wpAnyH_take (i := 13) (oi := ?oir2_13) (v := ?vr2_13) ?hir2_13 (by kernel_rfl) (by kernel_rfl) (by kernel_rfl) ?hqr2_13 ?hyr2_13 (by assumption) ?restr2_13
                case hir2_13 => simp only [List.getElem?_toArray, List.getElem?_cons_succ, List.getElem?_cons_zero]; rfl
                case hqr2_13 => exact fun _ _ _ h => h
                case hyr2_13 => (refine Or.inl ⟨by rfl, ?_⟩; intro w hSw; (try dsimp only at hSw); go_simp; all_goals with_reducible rfl)
                try simp only [Act.put, List.setIfInBounds_toArray, List.set_cons_zero, List.set_cons_succ]
                refine wpAnyH_take (i := 14) (oi := ?oir2_14) (v := ?vr2_14) ?hir2_14 (by kernel_rfl) (by kernel_rfl) (by kernel_rfl) ?hqr2_14 ?hyr2_14 (by assumption) ?restr2_14
                case hir2_14 => simp only [List.getElem?_toArray, List.getElem?_cons_succ, List.getElem?_cons_zero]; rfl
                case hqr2_14 => exact fun _ _ _ h => h
                case hyr2_14 => (refine Or.inl ⟨by rfl, ?_⟩; intro w hSw; (try dsimp only at hSw); go_simp; all_goals with_reducible rfl)
                try simp only [Act.put, List.setIfInBounds_toArray, List.set_cons_zero, List.set_cons_succ]
                refine wpAnyH_take (i := 15) (oi := ?oir2_15) (v := ?vr2_15) ?hir2_15 (by kernel_rfl) (by kernel_rfl) (by kernel_rfl) ?hqr2_15 ?hyr2_15 (by assumption) ?restr2_15
                case hir2_15 => simp only [List.getElem?_toArray, List.getElem?_cons_succ, List.getElem?_cons_zero]; rfl
                case hqr2_15 => exact fun _ _ _ h => h
                case hyr2_15 => (refine Or.inl ⟨by rfl, ?_⟩; intro w hSw; (try dsimp only at hSw); go_simp; all_goals with_reducible rfl)
                try simp only [Act.put, List.setIfInBounds_toArray, List.set_cons_zero, List.set_cons_succ]
                refine wpAnyH_take (i := 16) (oi := ?oir2_16) (v := ?vr2_16) ?hir2_16 (by kernel_rfl) (by kernel_rfl) (by kernel_rfl) ?hqr2_16 ?hyr2_16 (by assumption) ?restr2_16
                case hir2_16 => simp only [List.getElem?_toArray, List.getElem?_cons_succ, List.getElem?_cons_zero]; rfl
                case hqr2_16 => exact fun _ _ _ h => h
                case hyr2_16 => (refine Or.inl ⟨by rfl, ?_⟩; intro w hSw; (try dsimp only at hSw); go_simp; all_goals with_reducible rfl)
                try simp only [Act.put, List.setIfInBounds_toArray, List.set_cons_zero, List.set_cons_succ]
                refine wpAnyH_take (i := 17) (oi := ?oir2_17) (v := ?vr2_17) ?hir2_17 (by kernel_rfl) (by kernel_rfl) (by kernel_rfl) ?hqr2_17 ?hyr2_17 (by assumption) ?restr2_17
                case hir2_17 => simp only [List.getElem?_toArray, List.getElem?_cons_succ, List.getElem?_cons_zero]; rfl
                case hqr2_17 => exact fun _ _ _ h => h
                case hyr2_17 => (refine Or.inl ⟨by rfl, ?_⟩; intro w hSw; (try dsimp only at hSw); go_simp; all_goals with_reducible rfl)
                try simp only [Act.put, List.setIfInBounds_toArray, List.set_cons_zero, List.set_cons_succ]
                refine wpAnyH_take (i := 18) (oi := ?oir2_18) (v := ?vr2_18) ?hir2_18 (by kernel_rfl) (by kernel_rfl) (by kernel_rfl) ?hqr2_18 ?hyr2_18 (by assumption) ?restr2_18
                case hir2_18 => simp only [List.getElem?_toArray, List.getElem?_cons_succ, List.getElem?_cons_zero]; rfl
                case hqr2_18 => exact fun _ _ _ h => h
                case hyr2_18 => (refine Or.inl ⟨by rfl, ?_⟩; intro w hSw; (try dsimp only at hSw); go_simp; all_goals with_reducible rfl)
                try simp only [Act.put, List.setIfInBounds_toArray, List.set_cons_zero, List.set_cons_succ]
                refine wpAnyH_done (by kernel_rfl) ?_ _
                clear hHeld x0 x1 x2 l0 l1 l2
                go_wp2_with fail
                go_roundw
                case rel => exact ⟨k + 1 + 1, _, by omega, by go_num, rfl, B801, HT⟩
                case measure => simp [intOf]; omega
    case inr =>
      have HZ1 := Lib.hid z1
      have HZ5 := Lib.hid z5
      rw [HN.out] at z2 z3
      clear z1 z5
      have c := does_any w2 h_l_2 name wh h_wh1 h_wh2
      rw [HZ1.out] at c
      refine c.mono ?_
      rintro e w3 ⟨a_x, n_x, c_x, rfl, h_x_3, hb⟩
      clear c
      have B3 := B2.trans (hb.mono B2.size)
      have h_l_3 := h_l_2.below hb
      clear hb B2 h_l_2
      obtain rfl : n_l = n_x := by rw [← h_x_3.len]; exact z2.symm
      have hnn : (((n_l : Nat) : Int) != ((n_l : Nat) : Int)) = false := by simp
      go_wp2_with fail
      go_loopw [12, 13] (fun t jv wr => ∃ (i : Nat) (tn : Int), i ≤ n_l ∧ jv = .int .i64 (i : Nat) ∧ t = .int .i64 tn ∧ Below w3.heap.size w3 wr ∧ Hid (tn = if m < i then 1 else 0)) (fun _ jv _ => n_l - (intOf jv).toNat)
      case atStart => exact ⟨0, 0, Nat.zero_le _, rfl, rfl, Below.refl _ _, Lib.hid (by rw [if_neg (by omega)])⟩
      case round =>
        rename World => wr
        obtain ⟨i, tn, hi, rfl, rfl, BT, hT⟩ := hrel
        by_cases hlt : i < n_l
        case pos =>
          have hd : decide (((i : Nat) : Int) < ((n_l : Nat) : Int)) = true := decide_eq_true (by omega)
          have B600 := BT
          have h_l_600 := h_l_3.below BT
          have h_x_600 := h_x_3.rd.below BT
          clear BT
          obtain ⟨bx, ox, rfl, hcx⟩ := h_x_600.addr (by omega)
          obtain ⟨x0, x1, x2⟩ := hcx i hlt
          obtain ⟨bl, ol, rfl, hcl⟩ := h_l_600.addr (by omega)
          obtain ⟨l0, l1, l2⟩ := hcl i hlt
          clear hcx hcl
          by_cases c1 : i = m
          case pos =>
            subst c1
            obtain rfl : tn = 0 := by rw [hT.out, if_neg (by omega)]
            have HT : Hid ((1 : Int) = if i < i + 1 then 1 else 0) := Lib.hid (by rw [if_pos (by omega)])
            rw [z6] at x0
            rw [z7] at x1
            rw [z4] at l0
            obtain ⟨sy, hsy⟩ : ∃ sy, (vth vx i).st = sy := ⟨_, rfl⟩
            obtain ⟨sx, hsx⟩ : ∃ sx, (vth vs i).st = sx := ⟨_, rfl⟩
            obtain ⟨pz, hpz⟩ : ∃ pz, (vth vs i).pc = pz := ⟨_, rfl⟩
            rw [hsy] at x2
            rw [hsx] at l2
            rw [hpz] at x1 l1
            rw [hsy, hsx] at z8
            have hst : (((sy : Nat) : Int) == ((sx : Nat) : Int)) = false := by simp; omega
            have hst2 : decide (((sy : Nat) : Int) = ((sx : Nat) : Int)) = false := decide_eq_false (by omega)
            have HZ67 := Lib.hid z6
            clear z6 z7 z4 hsy hsx hpz
            go_upto_region 11 with fail
            have hb := (Below.refl wr.heap.size wr).drew
            replace x0 := cell_below hb x0
            replace x1 := cell_below hb x1
            replace x2 := cell_below hb x2
            replace l0 := cell_below hb l0
            replace l1 := cell_below hb l1
            replace l2 := cell_below hb l2
            have B601 := B600.trans (hb.mono B600.size)
            have h_l_601 := h_l_600.below hb
            have h_x_601 := h_x_600.below hb
            clear hb B600 h_l_600 h_x_600
            refine wp_region_held_drew (S := (fun w' => w'.cell? ⟨bx, ox + i * 3, none⟩ = some (.string name) ∧ w'.cell? ⟨bx, ox + i * 3 + 1, none⟩ = some (.int .i64 pz) ∧ w'.cell? ⟨bx, ox + i * 3 + 2, none⟩ = some (.int .u8 ((sy : Nat) : Int)) ∧ w'.cell? ⟨bl, ol + i * 3, none⟩ = some (.string name) ∧ w'.cell? ⟨bl, ol + i * 3 + 1, none⟩ = some (.int .i64 pz) ∧ w'.cell? ⟨bl, ol + i * 3 + 2, none⟩ = some (.int .u8 ((sx : Nat) : Int)) ∧ True)) (by kernel_rfl) ?_ (fun hHeld => ?_)
            · exact ⟨x0, x1, x2, l0, l1, l2, trivial⟩
            generalize wr.drew = w601 at *
            refine wpAnyH_take (i := 0) (oi := ?oir3_0) (v := ?vr3_0) ?hir3_0 (by kernel_rfl) (by kernel_rfl) (by kernel_rfl) ?hqr3_0 ?hyr3_0 (by assumption) ?restr3_0
            case hir3_0 => simp only [List.getElem?_toArray, List.getElem?_cons_succ, List.getElem?_cons_zero]; rfl
            case hqr3_0 => exact fun _ _ _ h => h
            case hyr3_0 => (refine Or.inl ⟨by rfl, ?_⟩; intro w hSw; (try dsimp only at hSw); go_simp; all_goals with_reducible rfl)
            try simp only [Act.put, List.setIfInBounds_toArray, List.set_cons_zero, List.set_cons_succ]
            refine wpAnyH_take (i := 1) (oi := ?oir3_1) (v := ?vr3_1) ?hir3_1 (by kernel_rfl) (by kernel_rfl) (by kernel_rfl) ?hqr3_1 ?hyr3_1 (by assumption) ?restr3_1
            case hir3_1 => simp only [List.getElem?_toArray, List.getElem?_cons_succ, List.getElem?_cons_zero]; rfl
            case hqr3_1 => exact fun _ _ _ h => h
            case hyr3_1 => (refine Or.inl ⟨by rfl, ?_⟩; intro w hSw; (try dsimp only at hSw); go_simp; all_goals with_reducible rfl)
            try simp only [Act.put, List.setIfInBounds_toArray, List.set_cons_zero, List.set_cons_succ]
            refine wpAnyH_take (i := 2) (oi := ?oir3_2) (v := ?vr3_2) ?hir3_2 (by kernel_rfl) (by kernel_rfl) (by kernel_rfl) ?hqr3_2 ?hyr3_2 (by assumption) ?restr3_2
            case hir3_2 => simp only [List.getElem?_toArray, List.getElem?_cons_succ, List.getElem?_cons_zero]; rfl
            case hqr3_2 => exact fun _ _ _ h => h
            case hyr3_2 => (refine Or.inl ⟨by rfl, ?_⟩; intro w hSw; (try dsimp only at hSw); go_simp; all_goals with_reducible rfl)
            try simp only [Act.put, List.setIfInBounds_toArray, List.set_cons_zero, List.set_cons_succ]
            refine wpAnyH_take (i := 3) (oi := ?oir3_3) (v := ?vr3_3) ?hir3_3 (by kernel_rfl) (by kernel_rfl) (by kernel_rfl) ?hqr3_3 ?hyr3_3 (by assumption) ?restr3_3
            case hir3_3 => simp only [List.getElem?_toArray, List.getElem?_cons_succ, List.getElem?_cons_zero]; rfl
            case hqr3_3 => exact fun _ _ _ h => h
            case hyr3_3 => (refine Or.inl ⟨by rfl, ?_⟩; intro w hSw; (try dsimp only at hSw); go_simp; all_goals with_reducible rfl)
            try simp only [Act.put, List.setIfInBounds_toArray, List.set_cons_zero, List.set_cons_succ]
            refine wpAnyH_take (i := 4) (oi := ?oir3_4) (v := ?vr3_4) ?hir3_4 (by kernel_rfl) (by kernel_rfl) (by kernel_rfl) ?hqr3_4 ?hyr3_4 (by assumption) ?restr3_4
            case hir3_4 => simp only [List.getElem?_toArray, List.getElem?_cons_succ, List.getElem?_cons_zero]; rfl
            case hqr3_4 => exact fun _ _ _ h => h
            case hyr3_4 => (refine Or.inl ⟨by rfl, ?_⟩; intro w hSw; (try dsimp only at hSw); go_simp; all_goals with_reducible rfl)
            try simp only [Act.put, List.setIfInBounds_toArray, List.set_cons_zero, List.set_cons_succ]
            refine wpAnyH_take (i := 5) (oi := ?oir3_5) (v := ?vr3_5) ?hir3_5 (by kernel_rfl) (by kernel_rfl) (by kernel_rfl) ?hqr3_5 ?hyr3_5 (by assumption) ?restr3_5
            case hir3_5 => simp only [List.getElem?_toArray, List.getElem?_cons_succ, List.getElem?_cons_zero]; rfl
            case hqr3_5 => exact fun _ _ _ h => h
            case hyr3_5 => (refine Or.inl ⟨by rfl, ?_⟩; intro w hSw; (try dsimp only at hSw); go_simp; all_goals with_reducible rfl)
            try simp only [Act.put, List.setIfInBounds_toArray, List.set_cons_zero, List.set_cons_succ]
            refine wpAnyH_take (i := 6) (oi := ?oir3_6) (v := ?vr3_6) ?hir3_6 (by kernel_rfl) (by kernel_rfl) (by kernel_rfl) ?hqr3_6 ?hyr3_6 (by assumption) ?restr3_6
            case hir3_6 => simp only [List.getElem?_toArray, List.getElem?_cons_succ, List.getElem?_cons_zero]; rfl
            case hqr3_6 => exact fun _ _ _ h => h
            case hyr3_6 => (refine Or.inl ⟨by rfl, ?_⟩; intro w hSw; (try dsimp only at hSw); go_simp; all_goals with_reducible rfl)
            try simp only [Act.put, List.setIfInBounds_toArray, List.set_cons_zero, List.set_cons_succ]
            refine wpAnyH_take (i := 7) (oi := ?oir3_7) (v := ?vr3_7) ?hir3_7 (by kernel_rfl) (by kernel_rfl) (by kernel_rfl) ?hqr3_7 ?hyr3_7 (by assumption) ?restr3_7
            case hir3_7 => simp only [List.getElem?_toArray, List.getElem?_cons_succ, List.getElem?_cons_zero]; rfl
            case hqr3_7 => exact fun _ _ _ h => h
            case hyr3_7 => (refine Or.inl ⟨by rfl, ?_⟩; intro w hSw; (try dsimp only at hSw); go_simp; all_goals with_reducible rfl)
            try simp only [Act.put, List.setIfInBounds_toArray, List.set_cons_zero, List.set_cons_succ]
            refine wpAnyH_take (i := 8) (oi := ?oir3_8) (v := ?vr3_8) ?hir3_8 (by kernel_rfl) (by kernel_rfl) (by kernel_rfl) ?hqr3_8 ?hyr3_8 (by assumption) ?restr3_8
            case hir3_8 => simp only [List.getElem?_toArray, List.getElem?_cons_succ, List.getElem?_cons_zero]; rfl
            case hqr3_8 => exact fun _ _ _ h => h
            case hyr3_8 => (refine Or.inl ⟨by rfl, ?_⟩; intro w hSw; (try dsimp only at hSw); go_simp; all_goals with_reducible rfl)
            try simp only [Act.put, List.setIfInBounds_toArray, List.set_cons_zero, List.set_cons_succ]
            refine wpAnyH_done (by kernel_rfl) ?_ _
            clear hHeld
            clear x2 l2
            go_upto_region 13 with fail
            have hb := (Below.refl w601.heap.size w601).drew
            replace x0 := cell_below hb x0
            replace x1 := cell_below hb x1
            replace l0 := cell_below hb l0
            replace l1 := cell_below hb l1
            have B602 := B601.trans (hb.mono B601.size)
            have h_l_602 := h_l_601.below hb
            have h_x_602 := h_x_601.below hb
            clear hb B601 h_l_601 h_x_601
            refine wp_region_held_drew (S := (fun w' => w'.cell? ⟨bx, ox + i * 3, none⟩ = some (.string name) ∧ w'.cell? ⟨bx, ox + i * 3 + 1, none⟩ = some (.int .i64 pz) ∧ w'.cell? ⟨bl, ol + i * 3, none⟩ = some (.string name) ∧ w'.cell? ⟨bl, ol + i * 3 + 1, none⟩ = some (.int .i64 pz) ∧ True)) (by kernel_rfl) ?_ (fun hHeld => ?_)
            · exact ⟨x0, x1, l0, l1, trivial⟩
            generalize w601.drew = w602 at *
            refine wpAnyH_take (i := 0) (oi := ?oir4_0) (v := ?vr4_0) ?hir4_0 (by kernel_rfl) (by kernel_rfl) (by kernel_rfl) ?hqr4_0 ?hyr4_0 (by assumption) ?restr4_0
            case hir4_0 => simp only [List.getElem?_toArray, List.getElem?_cons_succ, List.getElem?_cons_zero]; rfl
            case hqr4_0 => exact fun _ _ _ h => h
            case hyr4_0 => (refine Or.inl ⟨by rfl, ?_⟩; intro w hSw; (try dsimp only at hSw); go_simp; all_goals with_reducible rfl)
            try simp only [Act.put, List.setIfInBounds_toArray, List.set_cons_zero, List.set_cons_succ]
            refine wpAnyH_take (i := 1) (oi := ?oir4_1) (v := ?vr4_1) ?hir4_1 (by kernel_rfl) (by kernel_rfl) (by kernel_rfl) ?hqr4_1 ?hyr4_1 (by assumption) ?restr4_1
            case hir4_1 => simp only [List.getElem?_toArray, List.getElem?_cons_succ, List.getElem?_cons_zero]; rfl
            case hqr4_1 => exact fun _ _ _ h => h
            case hyr4_1 => (refine Or.inl ⟨by rfl, ?_⟩; intro w hSw; (try dsimp only at hSw); go_simp; all_goals with_reducible rfl)
            try simp only [Act.put, List.setIfInBounds_toArray, List.set_cons_zero, List.set_cons_succ]
            refine wpAnyH_take (i := 2) (oi := ?oir4_2) (v := ?vr4_2) ?hir4_2 (by kernel_rfl) (by kernel_rfl) (by kernel_rfl) ?hqr4_2 ?hyr4_2 (by assumption) ?restr4_2
            case hir4_2 => simp only [List.getElem?_toArray, List.getElem?_cons_succ, List.getElem?_cons_zero]; rfl
            case hqr4_2 => exact fun _ _ _ h => h
            case hyr4_2 => (refine Or.inl ⟨by rfl, ?_⟩; intro w hSw; (try dsimp only at hSw); go_simp; all_goals with_reducible rfl)
            try simp only [Act.put, List.setIfInBounds_toArray, List.set_cons_zero, List.set_cons_succ]
            refine wpAnyH_take (i := 3) (oi := ?oir4_3) (v := ?vr4_3) ?hir4_3 (by kernel_rfl) (by kernel_rfl) (by kernel_rfl) ?hqr4_3 ?hyr4_3 (by assumption) ?restr4_3
            case hir4_3 => simp only [List.getElem?_toArray, List.getElem?_cons_succ, List.getElem?_cons_zero]; rfl
            case hqr4_3 => exact fun _ _ _ h => h
            case hyr4_3 => (refine Or.inl ⟨by rfl, ?_⟩; intro w hSw; (try dsimp only at hSw); go_simp; all_goals with_reducible rfl)
            try simp only [Act.put, List.setIfInBounds_toArray, List.set_cons_zero, List.set_cons_succ]
            refine wpAnyH_take (i := 4) (oi := ?oir4_4) (v := ?vr4_4) ?hir4_4 (by kernel_rfl) (by kernel_rfl) (by kernel_rfl) ?hqr4_4 ?hyr4_4 (by assumption) ?restr4_4
            case hir4_4 => simp only [List.getElem?_toArray, List.getElem?_cons_succ, List.getElem?_cons_zero]; rfl
            case hqr4_4 => exact fun _ _ _ h => h
            case hyr4_4 => (refine Or.inl ⟨by rfl, ?_⟩; intro w hSw; (try dsimp only at hSw); go_simp; all_goals with_reducible rfl)
            try simp only [Act.put, List.setIfInBounds_toArray, List.set_cons_zero, List.set_cons_succ]
            refine wpAnyH_take (i := 5) (oi := ?oir4_5) (v := ?vr4_5) ?hir4_5 (by kernel_rfl) (by kernel_rfl) (by kernel_rfl) ?hqr4_5 ?hyr4_5 (by assumption) ?restr4_5
            case hir4_5 => simp only [List.getElem?_toArray, List.getElem?_cons_succ, List.getElem?_cons_zero]; rfl
            case hqr4_5 => exact fun _ _ _ h => h
            case hyr4_5 => (refine Or.inl ⟨by rfl, ?_⟩; intro w hSw; (try dsimp only at hSw); go_simp; all_goals with_reducible rfl)
            try simp only [Act.put, List.setIfInBounds_toArray, List.set_cons_zero, List.set_cons_succ]
            refine wpAnyH_take (i := 6) (oi := ?oir4_6) (v := ?vr4_6) ?hir4_6 (by kernel_rfl) (by kernel_rfl) (by kernel_rfl) ?hqr4_6 ?hyr4_6 (by assumption) ?restr4_6
            case hir4_6 => simp only [List.getElem?_toArray, List.getElem?_cons_succ, List.getElem?_cons_zero]; rfl
            case hqr4_6 => exact fun _ _ _ h => h
            case hyr4_6 => (refine Or.inl ⟨by rfl, ?_⟩; intro w hSw; (try dsimp only at hSw); go_simp; all_goals with_reducible rfl)
            try simp only [Act.put, List.setIfInBounds_toArray, List.set_cons_zero, List.set_cons_succ]
            refine wpAnyH_take (i := 7) (oi := ?oir4_7) (v := ?vr4_7) ?hir4_7 (by kernel_rfl) (by kernel_rfl) (by kernel_rfl) ?hqr4_7 ?hyr4_7 (by assumption) ?restr4_7
            case hir4_7 => simp only [List.getElem?_toArray, List.getElem?_cons_succ, List.getElem?_cons_zero]; rfl
            case hqr4_7 => exact fun _ _ _ h => h
            case hyr4_7 => (refine Or.inl ⟨by rfl, ?_⟩; intro w hSw; (try dsimp only at hSw); go_simp; all_goals with_reducible rfl)
            try simp only [Act.put, List.setIfInBounds_toArray, List.set_cons_zero, List.set_cons_succ]
            refine wpAnyH_take (i := 8) (oi := ?oir4_8) (v := ?vr4_8) ?hir4_8 (by kernel_rfl) (by kernel_rfl) (by kernel_rfl) ?hqr4_8 ?hyr4_8 (by assumption) ?restr4_8
            case hir4_8 => simp only [List.getElem?_toArray, List.getElem?_cons_succ, List.getElem?_cons_zero]; rfl
            case hqr4_8 => exact fun _ _ _ h => h
            case hyr4_8 => (refine Or.inl ⟨by rfl, ?_⟩; intro w hSw; (try dsimp only at hSw); go_simp; all_goals with_reducible rfl)
            try simp only [Act.put, List.setIfInBounds_toArray, List.set_cons_zero, List.set_cons_succ]
            refine wpAnyH_take (i := 9) (oi := ?oir4_9) (v := ?vr4_9) ?hir4_9 (by kernel_rfl) (by kernel_rfl) (by kernel_rfl) ?hqr4_9 ?hyr4_9 (by assumption) ?restr4_9
            case hir4_9 => simp only [List.getElem?_toArray, List.getElem?_cons_succ, List.getElem?_cons_zero]; rfl
            case hqr4_9 => exact fun _ _ _ h => h
            case hyr4_9 => (refine Or.inl ⟨by rfl, ?_⟩; intro w hSw; (try dsimp only at hSw); go_simp; all_goals with_reducible rfl)
            try simp only [Act.put, List.setIfInBounds_toArray, List.set_cons_zero, List.set_cons_succ]
            refine wpAnyH_take (i := 10) (oi := ?oir4_10) (v := ?vr4_10) ?hir4_10 (by kernel_rfl) (by kernel_rfl) (by kernel_rfl) ?hqr4_10 ?hyr4_10 (by assumption) ?restr4_10
            case hir4_10 => simp only [List.getElem?_toArray, List.getElem?_cons_succ, List.getElem?_cons_zero]; rfl
            case hqr4_10 => exact fun _ _ _ h => h
            case hyr4_10 => (refine Or.inl ⟨by rfl, ?_⟩; intro w hSw; (try dsimp only at hSw); go_simp; all_goals with_reducible rfl)
            try simp only [Act.put, List.setIfInBounds_toArray, List.set_cons_zero, List.set_cons_succ]
            refine wpAnyH_take (i := 11) (oi := ?oir4_11) (v := ?vr4_11) ?hir4_11 (by kernel_rfl) (by kernel_rfl) (by kernel_rfl) ?hqr4_11 ?hyr4_11 (by assumption) ?restr4_11
            case hir4_11 => simp only [List.getElem?_toArray, List.getElem?_cons_succ, List.getElem?_cons_zero]; rfl
            case hqr4_11 => exact fun _ _ _ h => h
            case hyr4_11 => (refine Or.inl ⟨by rfl, ?_⟩; intro w hSw; (try dsimp only at hSw); go_simp; all_goals with_reducible rfl)
            try simp only [Act.put, List.setIfInBounds_toArray, List.set_cons_zero, List.set_cons_succ]
            refine wpAnyH_take (i := 12) (oi := ?oir4_12) (v := ?vr4_12) ?hir4_12 (by kernel_rfl) (by kernel_rfl) (by kernel_rfl) ?hqr4_12 ?hyr4_12 (by assumption) ?restr4_12
            case hir4_12 => simp only [List.getElem?_toArray, List.getElem?_cons_succ, List.getElem?_cons_zero]; rfl
            case hqr4_12 => exact fun _ _ _ h => h
            case hyr4_12 => (refine Or.inl ⟨by rfl, ?_⟩; intro w hSw; (try dsimp only at hSw); go_simp; all_goals with_reducible rfl)
            try simp only [Act.put, List.setIfInBounds_toArray, List.set_cons_zero, List.set_cons_succ]
            refine wpAnyH_take (i := 13) (oi := ?oir4_13) (v := ?vr4_13) ?hir4_13 (by kernel_rfl) (by kernel_rfl) (by kernel_rfl) ?hqr4_13 ?hyr4_13 (by assumption) ?restr4_13
            case hir4_13 => simp only [List.getElem?_toArray, List.getElem?_cons_succ, List.getElem?_cons_zero]; rfl
            case hqr4_13 => exact fun _ _ _ h => h
            case hyr4_13 => (refine Or.inl ⟨by rfl, ?_⟩; intro w hSw; (try dsimp only at hSw); go_simp; all_goals with_reducible rfl)
            try simp only [Act.put, List.setIfInBounds_toArray, List.set_cons_zero, List.set_cons_succ]
            refine wpAnyH_take (i := 14) (oi := ?oir4_14) (v := ?vr4_14) ?hir4_14 (by kernel_rfl) (by kernel_rfl) (by kernel_rfl) ?hqr4_14 ?hyr4_14 (by assumption) ?restr4_14
            case hir4_14 => simp only [List.getElem?_toArray, List.getElem?_cons_succ, List.getElem?_cons_zero]; rfl
            case hqr4_14 => exact fun _ _ _ h => h
            case hyr4_14 => (refine Or.inl ⟨by rfl, ?_⟩; intro w hSw; (try dsimp only at hSw); go_simp; all_goals with_reducible rfl)
            try simp only [Act.put, List.setIfInBounds_toArray, List.set_cons_zero, List.set_cons_succ]
            refine wpAnyH_take (i := 15) (oi := ?oir4_15) (v := ?vr4_15) ?hir4_15 (by kernel_rfl) (by kernel_rfl) (by kernel_rfl) ?hqr4_15 ?hyr4_15 (by assumption) ?restr4_15
            case hir4_15 => simp only [List.getElem?_toArray, List.getElem?_cons_succ, List.getElem?_cons_zero]; rfl
            case hqr4_15 => exact fun _ _ _ h => h
            case hyr4_15 => (refine Or.inl ⟨by rfl, ?_⟩; intro w hSw; (try dsimp only at hSw); go_simp; all_goals with_reducible rfl)
            try simp only [Act.put, List.setIfInBounds_toArray, List.set_cons_zero, List.set_cons_succ]
            refine wpAnyH_take (i := 16) (oi := ?oir4_16) (v := ?vr4_16) ?hir4_16 (by kernel_rfl) (by kernel_rfl) (by kernel_rfl) ?hqr4_16 ?hyr4_16 (by assumption) ?restr4_16
            case hir4_16 => simp only [List.getElem?_toArray, List.getElem?_cons_succ, List.getElem?_cons_zero]; rfl
            case hqr4_16 => exact fun _ _ _ h => h
            case hyr4_16 => (refine Or.inl ⟨by rfl, ?_⟩; intro w hSw; (try dsimp only at hSw); go_simp; all_goals with_reducible rfl)
            try simp only [Act.put, List.setIfInBounds_toArray, List.set_cons_zero, List.set_cons_succ]
            refine wpAnyH_take (i := 17) (oi := ?oir4_17) (v := ?vr4_17) ?hir4_17 (by kernel_rfl) (by kernel_rfl) (by kernel_rfl) ?hqr4_17 ?hyr4_17 (by assumption) ?restr4_17
            case hir4_17 => simp only [List.getElem?_toArray, List.getElem?_cons_succ, List.getElem?_cons_zero]; rfl
            case hqr4_17 => exact fun _ _ _ h => h
            case hyr4_17 => (refine Or.inl ⟨by rfl, ?_⟩; intro w hSw; (try dsimp only at hSw); go_simp; all_goals with_reducible rfl)
            try simp only [Act.put, List.setIfInBounds_toArray, List.set_cons_zero, List.set_cons_succ]
            refine wpAnyH_take (i := 18) (oi := ?oir4_18) (v := ?vr4_18) ?hir4_18 (by kernel_rfl) (by kernel_rfl) (by kernel_rfl) ?hqr4_18 ?hyr4_18 (by assumption) ?restr4_18
            case hir4_18 => simp only [List.getElem?_toArray, List.getElem?_cons_succ, List.getElem?_cons_zero]; rfl
            case hqr4_18 => exact fun _ _ _ h => h
            case hyr4_18 => (refine Or.inl ⟨by rfl, ?_⟩; intro w hSw; (try dsimp only at hSw); go_simp; all_goals with_reducible rfl)
            try simp only [Act.put, List.setIfInBounds_toArray, List.set_cons_zero, List.set_cons_succ]
            refine wpAnyH_take (i := 19) (oi := ?oir4_19) (v := ?vr4_19) ?hir4_19 (by kernel_rfl) (by kernel_rfl) (by kernel_rfl) ?hqr4_19 ?hyr4_19 (by assumption) ?restr4_19
            case hir4_19 => simp only [List.getElem?_toArray, List.getElem?_cons_succ, List.getElem?_cons_zero]; rfl
            case hqr4_19 => exact fun _ _ _ h => h
            case hyr4_19 => (refine Or.inl ⟨by rfl, ?_⟩; intro w hSw; (try dsimp only at hSw); go_simp; all_goals with_reducible rfl)
            try simp only [Act.put, List.setIfInBounds_toArray, List.set_cons_zero, List.set_cons_succ]
            refine wpAnyH_take (i := 20) (oi := ?oir4_20) (v := ?vr4_20) ?hir4_20 (by kernel_rfl) (by kernel_rfl) (by kernel_rfl) ?hqr4_20 ?hyr4_20 (by assumption) ?restr4_20
            case hir4_20 => simp only [List.getElem?_toArray, List.getElem?_cons_succ, List.getElem?_cons_zero]; rfl
            case hqr4_20 => exact fun _ _ _ h => h
            case hyr4_20 => (refine Or.inl ⟨by rfl, ?_⟩; intro w hSw; (try dsimp only at hSw); go_simp; all_goals with_reducible rfl)
            try simp only [Act.put, List.setIfInBounds_toArray, List.set_cons_zero, List.set_cons_succ]
            refine wpAnyH_take (i := 21) (oi := ?oir4_21) (v := ?vr4_21) ?hir4_21 (by kernel_rfl) (by kernel_rfl) (by kernel_rfl) ?hqr4_21 ?hyr4_21 (by assumption) ?restr4_21
            case hir4_21 => simp only [List.getElem?_toArray, List.getElem?_cons_succ, List.getElem?_cons_zero]; rfl
            case hqr4_21 => exact fun _ _ _ h => h
            case hyr4_21 => (refine Or.inl ⟨by rfl, ?_⟩; intro w hSw; (try dsimp only at hSw); go_simp; all_goals with_reducible rfl)
            try simp only [Act.put, List.setIfInBounds_toArray, List.set_cons_zero, List.set_cons_succ]
            refine wpAnyH_take (i := 22) (oi := ?oir4_22) (v := ?vr4_22) ?hir4_22 (by kernel_rfl) (by kernel_rfl) (by kernel_rfl) ?hqr4_22 ?hyr4_22 (by assumption) ?restr4_22
            case hir4_22 => simp only [List.getElem?_toArray, List.getElem?_cons_succ, List.getElem?_cons_zero]; rfl
            case hqr4_22 => exact fun _ _ _ h => h
            case hyr4_22 => (refine Or.inl ⟨by rfl, ?_⟩; intro w hSw; (try dsimp only at hSw); go_simp; all_goals with_reducible rfl)
            try simp only [Act.put, List.setIfInBounds_toArray, List.set_cons_zero, List.set_cons_succ]
            refine wpAnyH_take (i := 23) (oi := ?oir4_23) (v := ?vr4_23) ?hir4_23 (by kernel_rfl) (by kernel_rfl) (by kernel_rfl) ?hqr4_23 ?hyr4_23 (by assumption) ?restr4_23
            case hir4_23 => simp only [List.getElem?_toArray, List.getElem?_cons_succ, List.getElem?_cons_zero]; rfl
            case hqr4_23 => exact fun _ _ _ h => h
            case hyr4_23 => (refine Or.inl ⟨by rfl, ?_⟩; intro w hSw; (try dsimp only at hSw); go_simp; all_goals with_reducible rfl)
            try simp only [Act.put, List.setIfInBounds_toArray, List.set_cons_zero, List.set_cons_succ]
            refine wpAnyH_take (i := 24) (oi := ?oir4_24) (v := ?vr4_24) ?hir4_24 (by kernel_rfl) (by kernel_rfl) (by kernel_rfl) ?hqr4_24 ?hyr4_24 (by assumption) ?restr4_24
            case hir4_24 => simp only [List.getElem?_toArray, List.getElem?_cons_succ, List.getElem?_cons_zero]; rfl
            case hqr4_24 => exact fun _ _ _ h => h
            case hyr4_24 => (refine Or.inl ⟨by rfl, ?_⟩; intro w hSw; (try dsimp only at hSw); go_simp; all_goals with_reducible rfl)
            try simp only [Act.put, List.setIfInBounds_toArray, List.set_cons_zero, List.set_cons_succ]
            refine wpAnyH_take (i := 25) (oi := ?oir4_25) (v := ?vr4_25) ?hir4_25 (by kernel_rfl) (by kernel_rfl) (by kernel_rfl) ?hqr4_25 ?hyr4_25 (by assumption) ?restr4_25
            case hir4_25 => simp only [List.getElem?_toArray, List.getElem?_cons_succ, List.getElem?_cons_zero]; rfl
            case hqr4_25 => exact fun _ _ _ h => h
            case hyr4_25 => (refine Or.inl ⟨by rfl, ?_⟩; intro w hSw; (try dsimp only at hSw); go_simp; all_goals with_reducible rfl)
            try simp only [Act.put, List.setIfInBounds_toArray, List.set_cons_zero, List.set_cons_succ]
            refine wpAnyH_take (i := 26) (oi := ?oir4_26) (v := ?vr4_26) ?hir4_26 (by kernel_rfl) (by kernel_rfl) (by kernel_rfl) ?hqr4_26 ?hyr4_26 (by assumption) ?restr4_26
            case hir4_26 => simp only [List.getElem?_toArray, List.getElem?_cons_succ, List.getElem?_cons_zero]; rfl
            case hqr4_26 => exact fun _ _ _ h => h
            case hyr4_26 => (refine Or.inl ⟨by rfl, ?_⟩; intro w hSw; (try dsimp only at hSw); go_simp; all_goals with_reducible rfl)
            try simp only [Act.put, List.setIfInBounds_toArray, List.set_cons_zero, List.set_cons_succ]
            refine wpAnyH_take (i := 27) (oi := ?oir4_27) (v := ?vr4_27) ?hir4_27 (by kernel_rfl) (by kernel_rfl) (by kernel_rfl) ?hqr4_27 ?hyr4_27 (by assumption) ?restr4_27
            case hir4_27 => simp only [List.getElem?_toArray, List.getElem?_cons_succ, List.getElem?_cons_zero]; rfl
            case hqr4_27 => exact fun _ _ _ h => h
            case hyr4_27 => (refine Or.inl ⟨by rfl, ?_⟩; intro w hSw; (try dsimp only at hSw); go_simp; all_goals with_reducible rfl)
            try simp only [Act.put, List.setIfInBounds_toArray, List.set_cons_zero, List.set_cons_succ]
            refine wpAnyH_take (i := 28) (oi := ?oir4_28) (v := ?vr4_28) ?hir4_28 (by kernel_rfl) (by kernel_rfl) (by kernel_rfl) ?hqr4_28 ?hyr4_28 (by assumption) ?restr4_28
            case hir4_28 => simp only [List.getElem?_toArray, List.getElem?_cons_succ, List.getElem?_cons_zero]; rfl
            case hqr4_28 => exact fun _ _ _ h => h
            case hyr4_28 => (refine Or.inl ⟨by rfl, ?_⟩; intro w hSw; (try dsimp only at hSw); go_simp; all_goals with_reducible rfl)
            try simp only [Act.put, List.setIfInBounds_toArray, List.set_cons_zero, List.set_cons_succ]
            refine wpAnyH_done (by kernel_rfl) ?_ _
            clear hHeld x0 x1 l0 l1
            go_wp2_with fail
            go_roundw
            case rel => exact ⟨i + 1, _, by omega, by go_num, rfl, B602, HT⟩
            case measure => simp [intOf]; omega
          case neg =>
            have HT : Hid (tn = if m < i + 1 then 1 else 0) := Lib.hid (by rw [hT.out]; by_cases e : m < i; (rw [if_pos e, if_pos (by omega)]); (rw [if_neg e, if_neg (by omega)]))
            rw [HZ5.out i c1] at x0 x1 x2
            obtain ⟨q, hq⟩ : ∃ q, vth vs i = q := ⟨_, rfl⟩
            rw [hq] at x0 x1 x2 l0 l1 l2
            clear hq
            go_upto_region 11 with fail
            have hb := (Below.refl wr.heap.size wr).drew
            replace x0 := cell_below hb x0
            replace x1 := cell_below hb x1
            replace x2 := cell_below hb x2
            replace l0 := cell_below hb l0
            replace l1 := cell_below hb l1
            replace l2 := cell_below hb l2
            have B601 := B600.trans (hb.mono B600.size)
            have h_l_601 := h_l_600.below hb
            have h_x_601 := h_x_600.below hb
            clear hb B600 h_l_600 h_x_600
            refine wp_region_held_drew (S := (fun w' => w'.cell? ⟨bx, ox + i * 3, none⟩ = some (.string (q).nm) ∧ w'.cell? ⟨bx, ox + i * 3 + 1, none⟩ = some (.int .i64 (q).pc) ∧ w'.cell? ⟨bx, ox + i * 3 + 2, none⟩ = some (.int .u8 (((q).st : Nat) : Int)) ∧ w'.cell? ⟨bl, ol + i * 3, none⟩ = some (.string (q).nm) ∧ w'.cell? ⟨bl, ol + i * 3 + 1, none⟩ = some (.int .i64 (q).pc) ∧ w'.cell? ⟨bl, ol + i * 3 + 2, none⟩ = some (.int .u8 (((q).st : Nat) : Int)) ∧ True)) (by kernel_rfl) ?_ (fun hHeld => ?_)
            · exact ⟨x0, x1, x2, l0, l1, l2, trivial⟩
            generalize wr.drew = w601 at *
            refine wpAnyH_take (i := 0) (oi := ?oir5_0) (v := ?vr5_0) ?hir5_0 (by kernel_rfl) (by kernel_rfl) (by kernel_rfl) ?hqr5_0 ?hyr5_0 (by assumption) ?restr5_0
            case hir5_0 => simp only [List.getElem?_toArray, List.getElem?_cons_succ, List.getElem?_cons_zero]; rfl
            case hqr5_0 => exact fun _ _ _ h => h
            case hyr5_0 => (refine Or.inl ⟨by rfl, ?_⟩; intro w hSw; (try dsimp only at hSw); go_simp; all_goals with_reducible rfl)
            try simp only [Act.put, List.setIfInBounds_toArray, List.set_cons_zero, List.set_cons_succ]
            refine wpAnyH_take (i := 1) (oi := ?oir5_1) (v := ?vr5_1) ?hir5_1 (by kernel_rfl) (by kernel_rfl) (by kernel_rfl) ?hqr5_1 ?hyr5_1 (by assumption) ?restr5_1
            case hir5_1 => simp only [List.getElem?_toArray, List.getElem?_cons_succ, List.getElem?_cons_zero]; rfl
            case hqr5_1 => exact fun _ _ _ h => h
            case hyr5_1 => (refine Or.inl ⟨by rfl, ?_⟩; intro w hSw; (try dsimp only at hSw); go_simp; all_goals with_reducible rfl)
            try simp only [Act.put, List.setIfInBounds_toArray, List.set_cons_zero, List.set_cons_succ]
            refine wpAnyH_take (i := 2) (oi := ?oir5_2) (v := ?vr5_2) ?hir5_2 (by kernel_rfl) (by kernel_rfl) (by kernel_rfl) ?hqr5_2 ?hyr5_2 (by assumption) ?restr5_2
            case hir5_2 => simp only [List.getElem?_toArray, List.getElem?_cons_succ, List.getElem?_cons_zero]; rfl
            case hqr5_2 => exact fun _ _ _ h => h
            case hyr5_2 => (refine Or.inl ⟨by rfl, ?_⟩; intro w hSw; (try dsimp only at hSw); go_simp; all_goals with_reducible rfl)
            try simp only [Act.put, List.setIfInBounds_toArray, List.set_cons_zero, List.set_cons_succ]
            refine wpAnyH_take (i := 3) (oi := ?oir5_3) (v := ?vr5_3) ?hir5_3 (by kernel_rfl) (by kernel_rfl) (by kernel_rfl) ?hqr5_3 ?hyr5_3 (by assumption) ?restr5_3
            case hir5_3 => simp only [List.getElem?_toArray, List.getElem?_cons_succ, List.getElem?_cons_zero]; rfl
            case hqr5_3 => exact fun _ _ _ h => h
            case hyr5_3 => (refine Or.inl ⟨by rfl, ?_⟩; intro w hSw; (try dsimp only at hSw); go_simp; all_goals with_reducible rfl)
            try simp only [Act.put, List.setIfInBounds_toArray, List.set_cons_zero, List.set_cons_succ]
            refine wpAnyH_take (i := 4) (oi := ?oir5_4) (v := ?vr5_4) ?hir5_4 (by kernel_rfl) (by kernel_rfl) (by kernel_rfl) ?hqr5_4 ?hyr5_4 (by assumption) ?restr5_4
            case hir5_4 => simp only [List.getElem?_toArray, List.getElem?_cons_succ, List.getElem?_cons_zero]; rfl
            case hqr5_4 => exact fun _ _ _ h => h
            case hyr5_4 => (refine Or.inl ⟨by rfl, ?_⟩; intro w hSw; (try dsimp only at hSw); go_simp; all_goals with_reducible rfl)
            try simp only [Act.put, List.setIfInBounds_toArray, List.set_cons_zero, List.set_cons_succ]
            refine wpAnyH_take (i := 5) (oi := ?oir5_5) (v := ?vr5_5) ?hir5_5 (by kernel_rfl) (by kernel_rfl) (by kernel_rfl) ?hqr5_5 ?hyr5_5 (by assumption) ?restr5_5
            case hir5_5 => simp only [List.getElem?_toArray, List.getElem?_cons_succ, List.getElem?_cons_zero]; rfl
            case hqr5_5 => exact fun _ _ _ h => h
            case hyr5_5 => (refine Or.inl ⟨by rfl, ?_⟩; intro w hSw; (try dsimp only at hSw); go_simp; all_goals with_reducible rfl)
            try simp only [Act.put, List.setIfInBounds_toArray, List.set_cons_zero, List.set_cons_succ]
            refine wpAnyH_take (i := 6) (oi := ?oir5_6) (v := ?vr5_6) ?hir5_6 (by kernel_rfl) (by kernel_rfl) (by kernel_rfl) ?hqr5_6 ?hyr5_6 (by assumption) ?restr5_6
            case hir5_6 => simp only [List.getElem?_toArray, List.getElem?_cons_succ, List.getElem?_cons_zero]; rfl
            case hqr5_6 => exact fun _ _ _ h => h
            case hyr5_6 => (refine Or.inl ⟨by rfl, ?_⟩; intro w hSw; (try dsimp only at hSw); go_simp; all_goals with_reducible rfl)
            try simp only [Act.put, List.setIfInBounds_toArray, List.set_cons_zero, List.set_cons_succ]
            refine wpAnyH_take (i := 7) (oi := ?oir5_7) (v := ?vr5_7) ?hir5_7 (by kernel_rfl) (by kernel_rfl) (by kernel_rfl) ?hqr5_7 ?hyr5_7 (by assumption) ?restr5_7
            case hir5_7 => simp only [List.getElem?_toArray, List.getElem?_cons_succ, List.getElem?_cons_zero]; rfl
            case hqr5_7 => exact fun _ _ _ h => h
            case hyr5_7 => (refine Or.inl ⟨by rfl, ?_⟩; intro w hSw; (try dsimp only at hSw); go_simp; all_goals with_reducible rfl)
            try simp only [Act.put, List.setIfInBounds_toArray, List.set_cons_zero, List.set_cons_succ]
            refine wpAnyH_take (i := 8) (oi := ?oir5_8) (v := ?vr5_8) ?hir5_8 (by kernel_rfl) (by kernel_rfl) (by kernel_rfl) ?hqr5_8 ?hyr5_8 (by assumption) ?restr5_8
            case hir5_8 => simp only [List.getElem?_toArray, List.getElem?_cons_succ, List.getElem?_cons_zero]; rfl
            case hqr5_8 => exact fun _ _ _ h => h
            case hyr5_8 => (refine Or.inl ⟨by rfl, ?_⟩; intro w hSw; (try dsimp only at hSw); go_simp; all_goals with_reducible rfl)
            try simp only [Act.put, List.setIfInBounds_toArray, List.set_cons_zero, List.set_cons_succ]
            refine wpAnyH_done (by kernel_rfl) ?_ _
            clear hHeld x0 x1 x2 l0 l1 l2
            go_wp2_with fail
            go_roundw
            case rel => exact ⟨i + 1, _, by omega, by go_num, rfl, B601, HT⟩
            case measure => simp [intOf]; omega
        case neg =>
          obtain rfl : n_l = i := by omega
          obtain rfl : tn = 1 := by rw [hT.out, if_pos (by omega)]
          have B700 := B3.trans (BT.mono B3.size)
          have h_l_700 := h_l_3.below BT
          clear BT
          go_wp2_with fail
          rcases add_turns vs name pc with ⟨z, ⟨z1, z2⟩, z3⟩ | ⟨m2, vy, y1, y2, y3, y4, y5, y6, y7⟩
          case inl =>
            have HZ := Lib.hid z3
            clear z3
            have c := Add_any wr h_l_700 name pc h_pc1 h_pc2
            rw [HZ.out] at c
            refine c.mono ?_
            rintro e w701 ⟨a_y, n_y, c_y, rfl, h_y_701, hb⟩
            clear c
            have B701 := B700.trans (hb.mono B700.size)
            have h_l_701 := h_l_700.below hb
            clear hb B700 h_l_700
            obtain rfl : n_y = 0 := h_y_701.len.symm
            go_wp2_with fail
            go_ret
            exact ⟨rfl, B701⟩
          case inr =>
            have HY1 := Lib.hid y1
            have HY2 := Lib.hid y2
            have HY5 := Lib.hid y5
            have HY7 := Lib.hid y7
            rw [HN.out] at y3 y4
            clear y1 y2 y5 y7
            have c := Add_any wr h_l_700 name pc h_pc1 h_pc2
            rw [HY1.out] at c
            refine c.mono ?_
            rintro e w701 ⟨a_y, n_y, c_y, rfl, h_y_701, hb⟩
            clear c
            have B701 := B700.trans (hb.mono B700.size)
            have h_l_701 := h_l_700.below hb
            clear hb B700 h_l_700
            obtain rfl : n_l + 1 = n_y := by rw [← h_y_701.len]; exact y3.symm
            have hnn : (((n_l : Nat) : Int) + 1 != ((n_l : Nat) : Int) + 1) = false := by simp
            go_wp2_with fail
            have c := Check_any w701 h_y_701.rd
            rw [HY2.out] at c
            refine c.mono ?_
            rintro e w702 ⟨rfl, hb⟩
            clear c
            have B702 := B701.trans (hb.mono B701.size)
            have h_l_702 := h_l_701.below hb
            have h_y_702 := h_y_701.below hb
            clear hb B701 h_l_701 h_y_701
            go_wp2_with fail
            go_loopw [16, 17] (fun t jv wr => ∃ (i : Nat) (tn : Int), i ≤ n_l + 1 ∧ jv = .int .i64 (i : Nat) ∧ t = .int .i64 tn ∧ Below w702.heap.size w702 wr ∧ Hid (tn = if m2 < i then 1 else 0)) (fun _ jv _ => n_l + 1 - (intOf jv).toNat)
            case atStart => exact ⟨0, 0, Nat.zero_le _, rfl, rfl, Below.refl _ _, Lib.hid (by rw [if_neg (by omega)])⟩
            case round =>
              rename World => wr
              obtain ⟨i, tn, hi, rfl, rfl, BT, hT⟩ := hrel
              by_cases hlt : i < n_l + 1
              case neg =>
                obtain rfl : i = n_l + 1 := by omega
                obtain rfl : tn = 1 := by rw [hT.out, if_pos (by omega)]
                have BE := B702.trans (BT.mono B702.size)
                go_wp2_with fail
                go_ret
                exact ⟨rfl, BE⟩
              case pos =>
                have hd : decide (((i : Nat) : Int) < ((n_l : Nat) : Int) + 1) = true := decide_eq_true (by omega)
                have B800 := BT
                have h_l_800 := h_l_702.below BT
                have h_y_800 := h_y_702.rd.below BT
                clear BT
                obtain ⟨bx, ox, rfl, hcx⟩ := h_y_800.addr (by omega)
                obtain ⟨x0, x1, x2⟩ := hcx i hlt
                clear hcx
                by_cases c1 : i = m2
                case pos =>
                  subst c1
                  obtain rfl : tn = 0 := by rw [hT.out, if_neg (by omega)]
                  rw [y6] at x0
                  have HT : Hid ((1 : Int) = if i < i + 1 then 1 else 0) := Lib.hid (by rw [if_pos (by omega)])
                  go_wp2_with fail
                  go_roundw
                  case rel => exact ⟨i + 1, _, by omega, by go_num, rfl, B800, HT⟩
                  case measure => simp [intOf]; omega
                by_cases c2 : i < m2
                case pos =>
                  obtain rfl : tn = 0 := by rw [hT.out, if_neg (by omega)]
                  have HT : Hid ((0 : Int) = if m2 < i + 1 then 1 else 0) := Lib.hid (by rw [if_neg (by omega)])
                  obtain ⟨e1, e2⟩ := HY5.out i c2
                  rw [e1] at x0 x1 x2
                  obtain ⟨bl, ol, rfl, hcl⟩ := h_l_800.addr (by omega)
                  obtain ⟨l0, l1, l2⟩ := hcl i (by omega)
                  clear hcl e1
                  obtain ⟨q, hq⟩ : ∃ q, vth vs i = q := ⟨_, rfl⟩
                  rw [hq] at x0 x1 x2 l0 l1 l2 e2
                  clear hq
                  have hnm : (q.nm.toList == name.toList) = false := by
                    cases h : (q.nm.toList == name.toList) with
                    | false => rfl
                    | true => exact absurd (eqS_iff.1 h) e2
                  have hw0 : IntKind.i64.wrap ((i : Nat) : Int) = ((i : Nat) : Int) := wrap_in' (by omega) (by omega)
                  have hge : decide (n_l ≤ i) = false := decide_eq_false (by omega)
                  have hlx : ((i : Nat) : Int) < ((n_l : Nat) : Int) + 1 := by omega
                  have hly : i < n_l := by omega
                  clear e2
                  go_upto_region 28 with fail
                  have hb := (Below.refl wr.heap.size wr).drew
                  replace x0 := cell_below hb x0
                  replace x1 := cell_below hb x1
                  replace x2 := cell_below hb x2
                  replace l0 := cell_below hb l0
                  replace l1 := cell_below hb l1
                  replace l2 := cell_below hb l2
                  have B801 := B800.trans (hb.mono B800.size)
                  have h_l_801 := h_l_800.below hb
                  have h_y_801 := h_y_800.below hb
                  clear hb B800 h_l_800 h_y_800
                  refine wp_region_held_drew (S := (fun w' => w'.cell? ⟨bx, ox + i * 3, none⟩ = some (.string (q).nm) ∧ w'.cell? ⟨bx, ox + i * 3 + 1, none⟩ = some (.int .i64 (q).pc) ∧ w'.cell? ⟨bx, ox + i * 3 + 2, none⟩ = some (.int .u8 (((q).st : Nat) : Int)) ∧ w'.cell? ⟨bl, ol + i * 3, none⟩ = some (.string (q).nm) ∧ w'.cell? ⟨bl, ol + i * 3 + 1, none⟩ = some (.int .i64 (q).pc) ∧ w'.cell? ⟨bl, ol + i * 3 + 2, none⟩ = some (.int .u8 (((q).st : Nat) : Int)) ∧ True)) (by kernel_rfl) ?_ (fun hHeld => ?_)
                  · exact ⟨x0, x1, x2, l0, l1, l2, trivial⟩
                  generalize wr.drew = w801 at *
                  refine wpAnyH_take (i := 0) (oi := ?oir6_0) (v := ?vr6_0) ?hir6_0 (by kernel_rfl) (by kernel_rfl) (by kernel_rfl) ?hqr6_0 ?hyr6_0 (by assumption) ?restr6_0
                  case hir6_0 => simp only [List.getElem?_toArray, List.getElem?_cons_succ, List.getElem?_cons_zero]; rfl
                  case hqr6_0 => exact fun _ _ _ h => h
                  case hyr6_0 => (refine Or.inl ⟨by rfl, ?_⟩; intro w hSw; (try dsimp only at hSw); go_simp; all_goals with_reducible rfl)
                  try simp only [Act.put, List.setIfInBounds_toArray, List.set_cons_zero, List.set_cons_succ]
                  refine wpAnyH_take (i := 1) (oi := ?oir6_1) (v := ?vr6_1) ?hir6_1 (by kernel_rfl) (by kernel_rfl) (by kernel_rfl) ?hqr6_1 ?hyr6_1 (by assumption) ?restr6_1
                  case hir6_1 => simp only [List.getElem?_toArray, List.getElem?_cons_succ, List.getElem?_cons_zero]; rfl
                  case hqr6_1 => exact fun _ _ _ h => h
                  case hyr6_1 => (refine Or.inl ⟨by rfl, ?_⟩; intro w hSw; (try dsimp only at hSw); go_simp; all_goals with_reducible rfl)
                  try simp only [Act.put, List.setIfInBounds_toArray, List.set_cons_zero, List.set_cons_succ]
                  refine wpAnyH_take (i := 2) (oi := ?oir6_2) (v := ?vr6_2) ?hir6_2 (by kernel_rfl) (by kernel_rfl) (by kernel_rfl) ?hqr6_2 ?hyr6_2 (by assumption) ?restr6_2
                  case hir6_2 => simp only [List.getElem?_toArray, List.getElem?_cons_succ, List.getElem?_cons_zero]; rfl
                  case hqr6_2 => exact fun _ _ _ h => h
                  case hyr6_2 => (refine Or.inl ⟨by rfl, ?_⟩; intro w hSw; (try dsimp only at hSw); go_simp; all_goals with_reducible rfl)
                  try simp only [Act.put, List.setIfInBounds_toArray, List.set_cons_zero, List.set_cons_succ]
                  refine wpAnyH_take (i := 3) (oi := ?oir6_3) (v := ?vr6_3) ?hir6_3 (by kernel_rfl) (by kernel_rfl) (by kernel_rfl) ?hqr6_3 ?hyr6_3 (by assumption) ?restr6_3
                  case hir6_3 => simp only [List.getElem?_toArray, List.getElem?_cons_succ, List.getElem?_cons_zero]; rfl
                  case hqr6_3 => exact fun _ _ _ h => h
                  case hyr6_3 => (refine Or.inl ⟨by rfl, ?_⟩; intro w hSw; (try dsimp only at hSw); go_simp; all_goals with_reducible rfl)
                  try simp only [Act.put, List.setIfInBounds_toArray, List.set_cons_zero, List.set_cons_succ]
                  refine wpAnyH_take (i := 4) (oi := ?oir6_4) (v := ?vr6_4) ?hir6_4 (by kernel_rfl) (by kernel_rfl) (by kernel_rfl) ?hqr6_4 ?hyr6_4 (by assumption) ?restr6_4
                  case hir6_4 => simp only [List.getElem?_toArray, List.getElem?_cons_succ, List.getElem?_cons_zero]; rfl
                  case hqr6_4 => exact fun _ _ _ h => h
                  case hyr6_4 => (refine Or.inl ⟨by rfl, ?_⟩; intro w hSw; (try dsimp only at hSw); go_simp; all_goals with_reducible rfl)
                  try simp only [Act.put, List.setIfInBounds_toArray, List.set_cons_zero, List.set_cons_succ]
                  refine wpAnyH_take (i := 5) (oi := ?oir6_5) (v := ?vr6_5) ?hir6_5 (by kernel_rfl) (by kernel_rfl) (by kernel_rfl) ?hqr6_5 ?hyr6_5 (by assumption) ?restr6_5
                  case hir6_5 => simp only [List.getElem?_toArray, List.getElem?_cons_succ, List.getElem?_cons_zero]; rfl
                  case hqr6_5 => exact fun _ _ _ h => h
                  case hyr6_5 => (refine Or.inl ⟨by rfl, ?_⟩; intro w hSw; (try dsimp only at hSw); go_simp; all_goals with_reducible rfl)
                  try simp only [Act.put, List.setIfInBounds_toArray, List.set_cons_zero, List.set_cons_succ]
                  refine wpAnyH_take (i := 6) (oi := ?oir6_6) (v := ?vr6_6) ?hir6_6 (by kernel_rfl) (by kernel_rfl) (by kernel_rfl) ?hqr6_6 ?hyr6_6 (by assumption) ?restr6_6
                  case hir6_6 => simp only [List.getElem?_toArray, List.getElem?_cons_succ, List.getElem?_cons_zero]; rfl
                  case hqr6_6 => exact fun _ _ _ h => h
                  case hyr6_6 => (refine Or.inl ⟨by rfl, ?_⟩; intro w hSw; (try dsimp only at hSw); go_simp; all_goals with_reducible rfl)
                  try simp only [Act.put, List.setIfInBounds_toArray, List.set_cons_zero, List.set_cons_succ]
                  refine wpAnyH_take (i := 7) (oi := ?oir6_7) (v := ?vr6_7) ?hir6_7 (by kernel_rfl) (by kernel_rfl) (by kernel_rfl) ?hqr6_7 ?hyr6_7 (by assumption) ?restr6_7
                  case hir6_7 => simp only [List.getElem?_toArray, List.getElem?_cons_succ, List.getElem?_cons_zero]; rfl
                  case hqr6_7 => exact fun _ _ _ h => h
                  case hyr6_7 => (refine Or.inl ⟨by rfl, ?_⟩; intro w hSw; (try dsimp only at hSw); go_simp; all_goals with_reducible rfl)
                  try simp only [Act.put, List.setIfInBounds_toArray, List.set_cons_zero, List.set_cons_succ]
                  refine wpAnyH_take (i := 8) (oi := ?oir6_8) (v := ?vr6_8) ?hir6_8 (by kernel_rfl) (by kernel_rfl) (by kernel_rfl) ?hqr6_8 ?hyr6_8 (by assumption) ?restr6_8
                  case hir6_8 => simp only [List.getElem?_toArray, List.getElem?_cons_succ, List.getElem?_cons_zero]; rfl
                  case hqr6_8 => exact fun _ _ _ h => h
                  case hyr6_8 => (refine Or.inl ⟨by rfl, ?_⟩; intro w hSw; (try dsimp only at hSw); go_simp; all_goals with_reducible rfl)
                  try simp only [Act.put, List.setIfInBounds_toArray, List.set_cons_zero, List.set_cons_succ]
                  refine wpAnyH_take (i := 9) (oi := ?oir6_9) (v := ?vr6_9) ?hir6_9 (by kernel_rfl) (by kernel_rfl) (by kernel_rfl) ?hqr6_9 ?hyr6_9 (by assumption) ?restr6_9
                  case hir6_9 => simp only [List.getElem?_toArray, List.getElem?_cons_succ, List.getElem?_cons_zero]; rfl
                  case hqr6_9 => exact fun _ _ _ h => h
                  case hyr6_9 => (refine Or.inl ⟨by rfl, ?_⟩; intro w hSw; (try dsimp only at hSw); go_simp; all_goals with_reducible rfl)
                  try simp only [Act.put, List.setIfInBounds_toArray, List.set_cons_zero, List.set_cons_succ]
                  refine wpAnyH_take (i := 10) (oi := ?oir6_10) (v := ?vr6_10) ?hir6_10 (by kernel_rfl) (by kernel_rfl) (by kernel_rfl) ?hqr6_10 ?hyr6_10 (by assumption) ?restr6_10
                  case hir6_10 => simp only [List.getElem?_toArray, List.getElem?_cons_succ, List.getElem?_cons_zero]; rfl
                  case hqr6_10 => exact fun _ _ _ h => h
                  case hyr6_10 => (refine Or.inl ⟨by rfl, ?_⟩; intro w hSw; (try dsimp only at hSw); go_simp; all_goals with_reducible rfl)
                  try simp only [Act.put, List.setIfInBounds_toArray, List.set_cons_zero, List.set_cons_succ]
                  refine wpAnyH_take (i := 11) (oi := ?oir6_11) (v := ?vr6_11) ?hir6_11 (by kernel_rfl) (by kernel_rfl) (by kernel_rfl) ?hqr6_11 ?hyr6_11 (by assumption) ?restr6_11
                  case hir6_11 => simp only [List.getElem?_toArray, List.getElem?_cons_succ, List.getElem?_cons_zero]; rfl
                  case hqr6_11 => exact fun _ _ _ h => h
                  case hyr6_11 => (refine Or.inl ⟨by rfl, ?_⟩; intro w hSw; (try dsimp only at hSw); go_simp; all_goals with_reducible rfl)
                  try simp only [Act.put, List.setIfInBounds_toArray, List.set_cons_zero, List.set_cons_succ]
                  refine wpAnyH_take (i := 12) (oi := ?oir6_12) (v := ?vr6_12) ?hir6_12 (by kernel_rfl) (by kernel_rfl) (by kernel_rfl) ?hqr6_12 ?hyr6_12 (by assumption) ?restr6_12
                  case hir6_12 => simp only [List.getElem?_toArray, List.getElem?_cons_succ, List.getElem?_cons_zero]; rfl
                  case hqr6_12 => exact fun _ _ _ h => h
                  case hyr6_12 => (refine Or.inl ⟨by rfl, ?_⟩; intro w hSw; (try dsimp only at hSw); go_simp; all_goals with_reducible rfl)
                  try simp only [Act.put, List.setIfInBounds_toArray, List.set_cons_zero, List.set_cons_succ]
                  refine wpAnyH_take (i := 13) (oi := ?oir6_13) (v := ?vr6_13) ?hir6_13 (by kernel_rfl) (by kernel_rfl) (by kernel_rfl) ?hqr6_13 ?hyr6_13 (by assumption) ?restr6_13
                  case hir6_13 => simp only [List.getElem?_toArray, List.getElem?_cons_succ, List.getElem?_cons_zero]; rfl
                  case hqr6_13 => exact fun _ _ _ h => h
                  case hyr6_13 => (refine Or.inl ⟨by rfl, ?_⟩; intro w hSw; (try dsimp only at hSw); go_simp; all_goals with_reducible rfl)
                  try simp only [Act.put, List.setIfInBounds_toArray, List.set_cons_zero, List.set_cons_succ]
                  refine wpAnyH_take (i := 14) (oi := ?oir6_14) (v := ?vr6_14) ?hir6_14 (by kernel_rfl) (by kernel_rfl) (by kernel_rfl) ?hqr6_14 ?hyr6_14 (by assumption) ?restr6_14
                  case hir6_14 => simp only [List.getElem?_toArray, List.getElem?_cons_succ, List.getElem?_cons_zero]; rfl
                  case hqr6_14 => exact fun _ _ _ h => h
                  case hyr6_14 => (refine Or.inl ⟨by rfl, ?_⟩; intro w hSw; (try dsimp only at hSw); go_simp; all_goals with_reducible rfl)
                  try simp only [Act.put, List.setIfInBounds_toArray, List.set_cons_zero, List.set_cons_succ]
                  refine wpAnyH_take (i := 15) (oi := ?oir6_15) (v := ?vr6_15) ?hir6_15 (by kernel_rfl) (by kernel_rfl) (by kernel_rfl) ?hqr6_15 ?hyr6_15 (by assumption) ?restr6_15
                  case hir6_15 => simp only [List.getElem?_toArray, List.getElem?_cons_succ, List.getElem?_cons_zero]; rfl
                  case hqr6_15 => exact fun _ _ _ h => h
                  case hyr6_15 => (refine Or.inl ⟨by rfl, ?_⟩; intro w hSw; (try dsimp only at hSw); go_simp; all_goals with_reducible rfl)
                  try simp only [Act.put, List.setIfInBounds_toArray, List.set_cons_zero, List.set_cons_succ]
                  refine wpAnyH_take (i := 16) (oi := ?oir6_16) (v := ?vr6_16) ?hir6_16 (by kernel_rfl) (by kernel_rfl) (by kernel_rfl) ?hqr6_16 ?hyr6_16 (by assumption) ?restr6_16
                  case hir6_16 => simp only [List.getElem?_toArray, List.getElem?_cons_succ, List.getElem?_cons_zero]; rfl
                  case hqr6_16 => exact fun _ _ _ h => h
                  case hyr6_16 => (refine Or.inl ⟨by rfl, ?_⟩; intro w hSw; (try dsimp only at hSw); go_simp; all_goals with_reducible rfl)
                  try simp only [Act.put, List.setIfInBounds_toArray, List.set_cons_zero, List.set_cons_succ]
                  refine wpAnyH_take (i := 17) (oi := ?oir6_17) (v := ?vr6_17) ?hir6_17 (by kernel_rfl) (by kernel_rfl) (by kernel_rfl) ?hqr6_17 ?hyr6_17 (by assumption) ?restr6_17
                  case hir6_17 => simp only [List.getElem?_toArray, List.getElem?_cons_succ, List.getElem?_cons_zero]; rfl
                  case hqr6_17 => exact fun _ _ _ h => h
                  case hyr6_17 => (refine Or.inl ⟨by rfl, ?_⟩; intro w hSw; (try dsimp only at hSw); go_simp; all_goals with_reducible rfl)
                  try simp only [Act.put, List.setIfInBounds_toArray, List.set_cons_zero, List.set_cons_succ]
                  refine wpAnyH_take (i := 18) (oi := ?oir6_18) (v := ?vr6_18) ?hir6_18 (by kernel_rfl) (by kernel_rfl) (by kernel_rfl) ?hqr6_18 ?hyr6_18 (by assumption) ?restr6_18
                  case hir6_18 => simp only [List.getElem?_toArray, List.getElem?_cons_succ, List.getElem?_cons_zero]; rfl
                  case hqr6_18 => exact fun _ _ _ h => h
                  case hyr6_18 => (refine Or.inl ⟨by rfl, ?_⟩; intro w hSw; (try dsimp only at hSw); go_simp; all_goals with_reducible rfl)
                  try simp only [Act.put, List.setIfInBounds_toArray, List.set_cons_zero, List.set_cons_succ]
                  refine wpAnyH_done (by kernel_rfl) ?_ _
                  clear hHeld x0 x1 x2 l0 l1 l2
                  go_wp2_with fail
                  go_roundw
                  case rel => exact ⟨i + 1, _, by omega, by go_num, rfl, B801, HT⟩
                  case measure => simp [intOf]; omega
                case neg =>
                  obtain rfl : tn = 1 := by rw [hT.out, if_pos (by omega)]
                  have HT : Hid ((1 : Int) = if m2 < i + 1 then 1 else 0) := Lib.hid (by rw [if_pos (by omega)])
                  obtain ⟨k, rfl⟩ : ∃ k, i = k + 1 := ⟨i - 1, by omega⟩
                  have e1 := HY7.out (k + 1) (by omega)
                  rw [Nat.add_sub_cancel] at e1
                  rw [e1] at x0 x1 x2
                  obtain ⟨bl, ol, rfl, hcl⟩ := h_l_800.addr (by omega)
                  obtain ⟨l0, l1, l2⟩ := hcl k (by omega)
                  clear hcl e1
                  obtain ⟨q, hq⟩ : ∃ q, vth vs k = q := ⟨_, rfl⟩
                  rw [hq] at x0 x1 x2 l0 l1 l2
                  clear hq
                  have hw1 : IntKind.i64.wrap ((((k + 1 : Nat)) : Int) - 1) = ((k : Nat) : Int) := (congrArg IntKind.i64.wrap (by omega)).trans (wrap_in' (by omega) (by omega))
                  have hw2 : IntKind.i64.wrap (((k : Nat) : Int) + 1 - 1) = ((k : Nat) : Int) := (congrArg IntKind.i64.wrap (by omega)).trans (wrap_in' (by omega) (by omega))
                  have hw0 : IntKind.i64.wrap ((k : Nat) : Int) = ((k : Nat) : Int) := wrap_in' (by omega) (by omega)
                  have hge : decide (n_l ≤ k) = false := decide_eq_false (by omega)
                  have hlx : (0 : Int) ≤ ((k : Nat) : Int) + 1 := by omega
                  have hlk : k < n_l := by omega
                  go_upto_region 28 with fail
                  have hb := (Below.refl wr.heap.size wr).drew
                  replace x0 := cell_below hb x0
                  replace x1 := cell_below hb x1
                  replace x2 := cell_below hb x2
                  replace l0 := cell_below hb l0
                  replace l1 := cell_below hb l1
                  replace l2 := cell_below hb l2
                  have B801 := B800.trans (hb.mono B800.size)
                  have h_l_801 := h_l_800.below hb
                  have h_y_801 := h_y_800.below hb
                  clear hb B800 h_l_800 h_y_800
                  refine wp_region_held_drew (S := (fun w' => w'.cell? ⟨bx, ox + (k + 1) * 3, none⟩ = some (.string (q).nm) ∧ w'.cell? ⟨bx, ox + (k + 1) * 3 + 1, none⟩ = some (.int .i64 (q).pc) ∧ w'.cell? ⟨bx, ox + (k + 1) * 3 + 2, none⟩ = some (.int .u8 (((q).st : Nat) : Int)) ∧ w'.cell? ⟨bl, ol + k * 3, none⟩ = some (.string (q).nm) ∧ w'.cell? ⟨bl, ol + k * 3 + 1, none⟩ = some (.int .i64 (q).pc) ∧ w'.cell? ⟨bl, ol + k * 3 + 2, none⟩ = some (.int .u8 (((q).st : Nat) : Int)) ∧ True)) (by kernel_rfl) ?_ (fun hHeld => ?_)
                  · exact ⟨x0, x1, x2, l0, l1, l2, trivial⟩
                  generalize wr.drew = w801 at *
                  refine wpAnyH_take (i := 0) (oi := ?oir7_0) (v := ?vr7_0) ?hir7_0 (by kernel_rfl) (by kernel_rfl) (by kernel_rfl) ?hqr7_0 ?hyr7_0 (by assumption) ?restr7_0
                  case hir7_0 => simp only [List.getElem?_toArray, List.getElem?_cons_succ, List.getElem?_cons_zero]; rfl
                  case hqr7_0 => exact fun _ _ _ h => h
                  case hyr7_0 => (refine Or.inl ⟨by rfl, ?_⟩; intro w hSw; (try dsimp only at hSw); go_simp; all_goals with_reducible rfl)
                  try simp only [Act.put, List.setIfInBounds_toArray, List.set_cons_zero, List.set_cons_succ]
                  refine wpAnyH_take (i := 1) (oi := ?oir7_1) (v := ?vr7_1) ?hir7_1 (by kernel_rfl) (by kernel_rfl) (by kernel_rfl) ?hqr7_1 ?hyr7_1 (by assumption) ?restr7_1
                  case hir7_1 => simp only [List.getElem?_toArray, List.getElem?_cons_succ, List.getElem?_cons_zero]; rfl
                  case hqr7_1 => exact fun _ _ _ h => h
                  case hyr7_1 => (refine Or.inl ⟨by rfl, ?_⟩; intro w hSw; (try dsimp only at hSw); go_simp; all_goals with_reducible rfl)
                  try simp only [Act.put, List.setIfInBounds_toArray, List.set_cons_zero, List.set_cons_succ]
                  refine wpAnyH_take (i := 2) (oi := ?oir7_2) (v := ?vr7_2) ?hir7_2 (by kernel_rfl) (by kernel_rfl) (by kernel_rfl) ?hqr7_2 ?hyr7_2 (by assumption) ?restr7_2
                  case hir7_2 => simp only [List.getElem?_toArray, List.getElem?_cons_succ, List.getElem?_cons_zero]; rfl
                  case hqr7_2 => exact fun _ _ _ h => h
                  case hyr7_2 => (refine Or.inl ⟨by rfl, ?_⟩; intro w hSw; (try dsimp only at hSw); go_simp; all_goals with_reducible rfl)
                  try simp only [Act.put, List.setIfInBounds_toArray, List.set_cons_zero, List.set_cons_succ]
                  refine wpAnyH_take (i := 3) (oi := ?oir7_3) (v := ?vr7_3) ?hir7_3 (by kernel_rfl) (by kernel_rfl) (by kernel_rfl) ?hqr7_3 ?hyr7_3 (by assumption) ?restr7_3
                  case hir7_3 => simp only [List.getElem?_toArray, List.getElem?_cons_succ, List.getElem?_cons_zero]; rfl
                  case hqr7_3 => exact fun _ _ _ h => h
                  case hyr7_3 => (refine Or.inl ⟨by rfl, ?_⟩; intro w hSw; (try dsimp only at hSw); go_simp; all_goals with_reducible rfl)
                  try simp only [Act.put, List.setIfInBounds_toArray, List.set_cons_zero, List.set_cons_succ]
                  refine wpAnyH_take (i := 4) (oi := ?oir7_4) (v := ?vr7_4) ?hir7_4 (by kernel_rfl) (by kernel_rfl) (by kernel_rfl) ?hqr7_4 ?hyr7_4 (by assumption) ?restr7_4
                  case hir7_4 => simp only [List.getElem?_toArray, List.getElem?_cons_succ, List.getElem?_cons_zero]; rfl
                  case hqr7_4 => exact fun _ _ _ h => h
                  case hyr7_4 => (refine Or.inl ⟨by rfl, ?_⟩; intro w hSw; (try dsimp only at hSw); go_simp; all_goals with_reducible rfl)
                  try simp only [Act.put, List.setIfInBounds_toArray, List.set_cons_zero, List.set_cons_succ]
                  refine wpAnyH_take (i := 5) (oi := ?oir7_5) (v := ?vr7_5) ?hir7_5 (by kernel_rfl) (by kernel_rfl) (by kernel_rfl) ?hqr7_5 ?hyr7_5 (by assumption) ?restr7_5
                  case hir7_5 => simp only [List.getElem?_toArray, List.getElem?_cons_succ, List.getElem?_cons_zero]; rfl
                  case hqr7_5 => exact fun _ _ _ h => h
                  case hyr7_5 => (refine Or.inl ⟨by rfl, ?_⟩; intro w hSw; (try dsimp only at hSw); go_simp; all_goals with_reducible rfl)
                  try simp only [Act.put, List.setIfInBounds_toArray, List.set_cons_zero, List.set_cons_succ]
                  refine wpAnyH_take (i := 6) (oi := ?oir7_6) (v := ?vr7_6) ?hir7_6 (by kernel_rfl) (by kernel_rfl) (by kernel_rfl) ?hqr7_6 ?hyr7_6 (by assumption) ?restr7_6
                  case hir7_6 => simp only [List.getElem?_toArray, List.getElem?_cons_succ, List.getElem?_cons_zero]; rfl
                  case hqr7_6 => exact fun _ _ _ h => h
                  case hyr7_6 => (refine Or.inl ⟨by rfl, ?_⟩; intro w hSw; (try dsimp only at hSw); go_simp; all_goals with_reducible rfl)
                  try simp only [Act.put, List.setIfInBounds_toArray, List.set_cons_zero, List.set_cons_succ]
                  refine wpAnyH_take (i := 7) (oi := ?oir7_7) (v := ?vr7_7) ?hir7_7 (by kernel_rfl) (by kernel_rfl) (by kernel_rfl) ?hqr7_7 ?hyr7_7 (by assumption) ?restr7_7
                  case hir7_7 => simp only [List.getElem?_toArray, List.getElem?_cons_succ, List.getElem?_cons_zero]; rfl
                  case hqr7_7 => exact fun _ _ _ h => h
                  case hyr7_7 => (refine Or.inl ⟨by rfl, ?_⟩; intro w hSw; (try dsimp only at hSw); go_simp; all_goals with_reducible rfl)
                  try simp only [Act.put, List.setIfInBounds_toArray, List.set_cons_zero, List.set_cons_succ]
                  refine wpAnyH_take (i := 8) (oi := ?oir7_8) (v := ?vr7_8) ?hir7_8 (by kernel_rfl) (by kernel_rfl) (by kernel_rfl) ?hqr7_8 ?hyr7_8 (by assumption) ?restr7_8
                  case hir7_8 => simp only [List.getElem?_toArray, List.getElem?_cons_succ, List.getElem?_cons_zero]; rfl
                  case hqr7_8 => exact fun _ _ _ h => h
                  case hyr7_8 => (refine Or.inl ⟨by rfl, ?_⟩; intro w hSw; (try dsimp only at hSw); go_simp; all_goals with_reducible rfl)
                  try simp only [Act.put, List.setIfInBounds_toArray, List.set_cons_zero, List.set_cons_succ]
                  refine wpAnyH_take (i := 9) (oi := ?oir7_9) (v := ?vr7_9) ?hir7_9 (by kernel_rfl) (by kernel_rfl) (by kernel_rfl) ?hqr7_9 ?hyr7_9 (by assumption) ?restr7_9
                  case hir7_9 => simp only [List.getElem?_toArray, List.getElem?_cons_succ, List.getElem?_cons_zero]; rfl
                  case hqr7_9 => exact fun _ _ _ h => h
                  case hyr7_9 => (refine Or.inl ⟨by rfl, ?_⟩; intro w hSw; (try dsimp only at hSw); go_simp; all_goals with_reducible rfl)
                  try simp only [Act.put, List.setIfInBounds_toArray, List.set_cons_zero, List.set_cons_succ]
                  refine wpAnyH_take (i := 10) (oi := ?oir7_10) (v := ?vr7_10) ?hir7_10 (by kernel_rfl) (by kernel_rfl) (by kernel_rfl) ?hqr7_10 ?hyr7_10 (by assumption) ?restr7_10
                  case hir7_10 => simp only [List.getElem?_toArray, List.getElem?_cons_succ, List.getElem?_cons_zero]; rfl
                  case hqr7_10 => exact fun _ _ _ h => h
                  case hyr7_10 => (refine Or.inl ⟨by rfl, ?_⟩; intro w hSw; (try dsimp only at hSw); go_simp; all_goals with_reducible rfl)
                  try simp only [Act.put, List.setIfInBounds_toArray, List.set_cons_zero, List.set_cons_succ]
                  refine wpAnyH_take (i := 11) (oi := ?oir7_11) (v := ?vr7_11) ?hir7_11 (by kernel_rfl) (by kernel_rfl) (by kernel_rfl) ?hqr7_11 ?hyr7_11 (by assumption) ?restr7_11
                  case hir7_11 => simp only [List.getElem?_toArray, List.getElem?_cons_succ, List.getElem?_cons_zero]; rfl
                  case hqr7_11 => exact fun _ _ _ h => h
                  case hyr7_11 => (refine Or.inl ⟨by rfl, ?_⟩; intro w hSw; (try dsimp only at hSw); go_simp; all_goals with_reducible rfl)
                  try simp only [Act.put, List.setIfInBounds_toArray, List.set_cons_zero, List.set_cons_succ]
                  refine wpAnyH_take (i := 12) (oi := ?oir7_12) (v := ?vr7_12) ?hir7_12 (by kernel_rfl) (by kernel_rfl) (by kernel_rfl) ?hqr7_12 ?hyr7_12 (by assumption) ?restr7_12
                  case hir7_12 => simp only [List.getElem?_toArray, List.getElem?_cons_succ, List.getElem?_cons_zero]; rfl
                  case hqr7_12 => exact fun _ _ _ h => h
                  case hyr7_12 => (refine Or.inl ⟨by rfl, ?_⟩; intro w hSw; (try dsimp only at hSw); go_simp; all_goals with_reducible rfl)
                  try simp only [Act.put, List.setIfInBounds_toArray, List.set_cons_zero, List.set_cons_succ]
                  refine wpAnyH_take (i := 13) (oi := ?oir7_13) (v := ?vr7_13) ?hir7_13 (by kernel_rfl) (by kernel_rfl) (by kernel_rfl) ?hqr7_13 ?hyr7_13 (by assumption) ?restr7_13
                  case hir7_13 => simp only [List.getElem?_toArray, List.getElem?_cons_succ, List.getElem?_cons_zero]; rfl
                  case hqr7_13 => exact fun _ _ _ h => h
                  case hyr7_13 => (refine Or.inl ⟨by rfl, ?_⟩; intro w hSw; (try dsimp only at hSw); go_simp; all_goals with_reducible rfl)
                  try simp only [Act.put, List.setIfInBounds_toArray, List.set_cons_zero, List.set_cons_succ]
                  refine wpAnyH_take (i := 14) (oi := ?oir7_14) (v := ?vr7_14) ?hir7_14 (by kernel_rfl) (by kernel_rfl) (by kernel_rfl) ?hqr7_14 ?hyr7_14 (by assumption) ?restr7_14
                  case hir7_14 => simp only [List.getElem?_toArray, List.getElem?_cons_succ, List.getElem?_cons_zero]; rfl
                  case hqr7_14 => exact fun _ _ _ h => h
                  case hyr7_14 => (refine Or.inl ⟨by rfl, ?_⟩; intro w hSw; (try dsimp only at hSw); go_simp; all_goals with_reducible rfl)
                  try simp only [Act.put, List.setIfInBounds_toArray, List.set_cons_zero, List.set_cons_succ]
                  refine wpAnyH_take (i := 15) (oi := ?oir7_15) (v := ?vr7_15) ?hir7_15 (by kernel_rfl) (by kernel_rfl) (by kernel_rfl) ?hqr7_15 ?hyr7_15 (by assumption) ?restr7_15
                  case hir7_15 => simp only [List.getElem?_toArray, List.getElem?_cons_succ, List.getElem?_cons_zero]; rfl
                  case hqr7_15 => exact fun _ _ _ h => h
                  case hyr7_15 => (refine Or.inl ⟨by rfl, ?_⟩; intro w hSw; (try dsimp only at hSw); go_simp; all_goals with_reducible rfl)
                  try simp only [Act.put, List.setIfInBounds_toArray, List.set_cons_zero, List.set_cons_succ]
                  refine wpAnyH_take (i := 16) (oi := ?oir7_16) (v := ?vr7_16) ?hir7_16 (by kernel_rfl) (by kernel_rfl) (by kernel_rfl) ?hqr7_16 ?hyr7_16 (by assumption) ?restr7_16
                  case hir7_16 => simp only [List.getElem?_toArray, List.getElem?_cons_succ, List.getElem?_cons_zero]; rfl
                  case hqr7_16 => exact fun _ _ _ h => h
                  case hyr7_16 => (refine Or.inl ⟨by rfl, ?_⟩; intro w hSw; (try dsimp only at hSw); go_simp; all_goals with_reducible rfl)
                  try simp only [Act.put, List.setIfInBounds_toArray, List.set_cons_zero, List.set_cons_succ]
                  refine wpAnyH_take (i := 17) (oi := ?oir7_17) (v := ?vr7_17) ?hir7_17 (by kernel_rfl) (by kernel_rfl) (by kernel_rfl) ?hqr7_17 ?hyr7_17 (by assumption) ?restr7_17
                  case hir7_17 => simp only [List.getElem?_toArray, List.getElem?_cons_succ, List.getElem?_cons_zero]; rfl
                  case hqr7_17 => exact fun _ _ _ h => h
                  case hyr7_17 => (refine Or.inl ⟨by rfl, ?_⟩; intro w hSw; (try dsimp only at hSw); go_simp; all_goals with_reducible rfl)
                  try simp only [Act.put, List.setIfInBounds_toArray, List.set_cons_zero, List.set_cons_succ]
                  refine wpAnyH_take (i := 18) (oi := ?oir7_18) (v := ?vr7_18) ?hir7_18 (by kernel_rfl) (by kernel_rfl) (by kernel_rfl) ?hqr7_18 ?hyr7_18 (by assumption) ?restr7_18
                  case hir7_18 => simp only [List.getElem?_toArray, List.getElem?_cons_succ, List.getElem?_cons_zero]; rfl
                  case hqr7_18 => exact fun _ _ _ h => h
                  case hyr7_18 => (refine Or.inl ⟨by rfl, ?_⟩; intro w hSw; (try dsimp only at hSw); go_simp; all_goals with_reducible rfl)
                  try simp only [Act.put, List.setIfInBounds_toArray, List.set_cons_zero, List.set_cons_succ]
                  refine wpAnyH_done (by kernel_rfl) ?_ _
                  clear hHeld x0 x1 x2 l0 l1 l2
                  go_wp2_with fail
                  go_roundw
                  case rel => exact ⟨k + 1 + 1, _, by omega, by go_num, rfl, B801, HT⟩
                  case measure => simp [intOf]; omega

end Go.Proofs.Ytnjkfjecnicccaa
