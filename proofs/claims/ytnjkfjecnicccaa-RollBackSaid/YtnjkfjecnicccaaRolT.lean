/- Text and Bytes of the document. Condition: a roll. Printed by gen_rolt.py. -/
import Derived.Test.YtnjkfjecnicccaaRolS
namespace Go.Proofs.Ytnjkfjecnicccaa
open Go.RowKit Go.Suf
set_option linter.unusedVariables false
set_option linter.unusedSimpArgs false

set_option maxRecDepth 100000 in
set_option maxHeartbeats 8000000 in
theorem Text_any (w : World) {a : Option Addr} {n cap : Nat} {vs : List VQ} (h : RdV w a n cap vs) (hc : chkV vs = 0) :
    Calls Try.prog 37 #[.slice a n cap] w (RetB w ((vs.map fldV).flatMap field)) := by
  have HL := Lib.hid h.len
  obtain ⟨-, hlen, hmay⟩ := rise_of hc
  have hn : n ≤ 64 := by have := HL.out; omega
  have HMAY := Lib.hid hmay
  clear hlen hmay hc
  obtain ⟨r, hr⟩ : ∃ r, r = (vs.map fldV).flatMap field := ⟨_, rfl⟩
  rw [← hr]
  have HR := Lib.hid hr
  clear hr
  have hov0 : Ow .u8 5 w.heap.size w none 0 0 (((vs.take 0).map fldV).flatMap field) := Ow.nil _ _ _ _
  go_enter Try.func37, Try.ntmps37
  go_wp2_with fail
  go_loopw [3, 4] (fun v j wr => ∃ i m a' c', i ≤ n ∧ m ≤ i * 46 ∧ v = .slice a' m c' ∧ j = .int .i64 (i : Nat) ∧ Ow .u8 5 w.heap.size wr a' m c' (((vs.take i).map fldV).flatMap field) ∧ Below w.heap.size w wr) (fun _ j _ => n - (intOf j).toNat)
  case atStart => exact ⟨0, 0, none, 0, Nat.zero_le _, by omega, rfl, rfl, hov0, Below.refl _ _⟩
  clear hov0
  case round =>
    rename_i wr _
    obtain ⟨i, m, a', c', hi, hm, rfl, rfl, hov, hB⟩ := hrel
    by_cases hlt : i < n
    case neg =>
      obtain rfl : i = n := by omega
      have HE : Hid (((vs.take i).map fldV).flatMap field = r) := Lib.hid (by rw [HR.out, ← HL.out, List.take_length])
      rw [HE.out] at hov
      go_wp2_with fail
      go_ret
      exact ⟨_, _, _, rfl, hov, hB⟩
    case pos =>
      obtain ⟨b, off, rfl, hcc⟩ := h.addr (by omega)
      obtain ⟨k0, k1, k2⟩ := hcc i hlt
      clear hcc
      have hmv := valid_of (HMAY.out i (by rw [HL.out]; exact hlt))
      obtain ⟨v, hv⟩ : ∃ v, vth vs i = v := ⟨_, rfl⟩
      rw [hv] at k0 k1 k2 hmv
      have HV := Lib.hid hv
      clear hv
      obtain ⟨⟨hp1, hp2⟩, hst, hnm⟩ := hmv
      obtain ⟨p, hp⟩ : ∃ p, v.pc.toNat = p := ⟨_, rfl⟩
      rw [hp] at hp1 hp2
      have HP := Lib.hid hp
      have hwp : IntKind.u8.wrap ((p : Nat) : Int) = ((p : Nat) : Int) := by rw [IntKind.wrap_u8]; omega
      rw [← hp1] at k1
      have Hc0 := Lib.hid k0
      have Hc1 := Lib.hid k1
      have Hc2 := Lib.hid k2
      have hld : ((i : Nat) : Int) < (n : Int) := by omega
      have hld2 : decide (((i : Nat) : Int) < (n : Int)) = true := decide_eq_true hld
      have HVO := Lib.hid hov
      have HBO := Lib.hid hB
      clear hp hp1 k0 k1 k2
      clear hov hB
      go_upto_region 5 with fail
      have D0 : Below wr.heap.size wr wr.drew := (Below.refl _ _).drew
      have hBd := HBO.out.trans (D0.mono HBO.out.size)
      refine wp_region_held_drew (S := (fun w' => w'.cell? ⟨b, off + i * 3, none⟩ = some (.string v.nm) ∧ w'.cell? ⟨b, off + i * 3 + 1, none⟩ = some (.int .i64 ((p : Nat) : Int)) ∧ w'.cell? ⟨b, off + i * 3 + 2, none⟩ = some (.int .u8 ((v.st : Nat) : Int)))) (by kernel_rfl) ?_ (fun hHeld => ?_)
      · exact ⟨cell_below hBd Hc0.out, cell_below hBd Hc1.out, cell_below hBd Hc2.out⟩
      have hov := HVO.out.below D0
      clear D0
      generalize wr.drew = wd at *
      refine wpAnyH_take (i := 0) (oi := ?oir1_0) (v := ?vr1_0) ?hir1_0 (by kernel_rfl) (by kernel_rfl) (by kernel_rfl) ?hqr1_0 ?hyr1_0 (by assumption) ?restr1_0
      case hir1_0 => simp only [List.getElem?_toArray, List.getElem?_cons_succ, List.getElem?_cons_zero]; rfl
      case hqr1_0 => exact fun _ _ _ h => h
      case hyr1_0 => (refine Or.inl ⟨by rfl, ?_⟩; intro w hSw; (try dsimp only at hSw); go_simp; all_goals with_reducible rfl)
      try simp only [Act.put, List.setIfInBounds_toArray, List.set_cons_zero, List.set_cons_succ]
      refine wpAnyH_take (i := 1) (oi := ?oir1_1) (v := ?vr1_1) ?hir1_1 (by kernel_rfl) (by kernel_rfl) (by kernel_rfl) ?hqr1_1 ?hyr1_1 (by assumption) ?restr1_1
      case hir1_1 => simp only [List.getElem?_toArray, List.getElem?_cons_succ, List.getElem?_cons_zero]; rfl
      case hqr1_1 => exact fun _ _ _ h => h
      case hyr1_1 => (refine Or.inl ⟨by rfl, ?_⟩; intro w hSw; (try dsimp only at hSw); go_simp; all_goals with_reducible rfl)
      try simp only [Act.put, List.setIfInBounds_toArray, List.set_cons_zero, List.set_cons_succ]
      refine wpAnyH_take (i := 2) (oi := ?oir1_2) (v := ?vr1_2) ?hir1_2 (by kernel_rfl) (by kernel_rfl) (by kernel_rfl) ?hqr1_2 ?hyr1_2 (by assumption) ?restr1_2
      case hir1_2 => simp only [List.getElem?_toArray, List.getElem?_cons_succ, List.getElem?_cons_zero]; rfl
      case hqr1_2 => exact fun _ _ _ h => h
      case hyr1_2 => (refine Or.inl ⟨by rfl, ?_⟩; intro w hSw; (try dsimp only at hSw); go_simp; all_goals with_reducible rfl)
      try simp only [Act.put, List.setIfInBounds_toArray, List.set_cons_zero, List.set_cons_succ]
      refine wpAnyH_take (i := 3) (oi := ?oir1_3) (v := ?vr1_3) ?hir1_3 (by kernel_rfl) (by kernel_rfl) (by kernel_rfl) ?hqr1_3 ?hyr1_3 (by assumption) ?restr1_3
      case hir1_3 => simp only [List.getElem?_toArray, List.getElem?_cons_succ, List.getElem?_cons_zero]; rfl
      case hqr1_3 => exact fun _ _ _ h => h
      case hyr1_3 => (refine Or.inl ⟨by rfl, ?_⟩; intro w hSw; (try dsimp only at hSw); go_simp; all_goals with_reducible rfl)
      try simp only [Act.put, List.setIfInBounds_toArray, List.set_cons_zero, List.set_cons_succ]
      refine wpAnyH_take (i := 4) (oi := ?oir1_4) (v := ?vr1_4) ?hir1_4 (by kernel_rfl) (by kernel_rfl) (by kernel_rfl) ?hqr1_4 ?hyr1_4 (by assumption) ?restr1_4
      case hir1_4 => simp only [List.getElem?_toArray, List.getElem?_cons_succ, List.getElem?_cons_zero]; rfl
      case hqr1_4 => exact fun _ _ _ h => h
      case hyr1_4 => (refine Or.inl ⟨by rfl, ?_⟩; intro w hSw; (try dsimp only at hSw); go_simp; all_goals with_reducible rfl)
      try simp only [Act.put, List.setIfInBounds_toArray, List.set_cons_zero, List.set_cons_succ]
      refine wpAnyH_take (i := 5) (oi := ?oir1_5) (v := ?vr1_5) ?hir1_5 (by kernel_rfl) (by kernel_rfl) (by kernel_rfl) ?hqr1_5 ?hyr1_5 (by assumption) ?restr1_5
      case hir1_5 => simp only [List.getElem?_toArray, List.getElem?_cons_succ, List.getElem?_cons_zero]; rfl
      case hqr1_5 => exact fun _ _ _ h => h
      case hyr1_5 => (refine Or.inl ⟨by rfl, ?_⟩; intro w hSw; (try dsimp only at hSw); go_simp; all_goals with_reducible rfl)
      try simp only [Act.put, List.setIfInBounds_toArray, List.set_cons_zero, List.set_cons_succ]
      refine wpAnyH_take (i := 6) (oi := ?oir1_6) (v := ?vr1_6) ?hir1_6 (by kernel_rfl) (by kernel_rfl) (by kernel_rfl) ?hqr1_6 ?hyr1_6 (by assumption) ?restr1_6
      case hir1_6 => simp only [List.getElem?_toArray, List.getElem?_cons_succ, List.getElem?_cons_zero]; rfl
      case hqr1_6 => exact fun _ _ _ h => h
      case hyr1_6 => (refine Or.inl ⟨by rfl, ?_⟩; intro w hSw; (try dsimp only at hSw); go_simp; all_goals with_reducible rfl)
      try simp only [Act.put, List.setIfInBounds_toArray, List.set_cons_zero, List.set_cons_succ]
      refine wpAnyH_take (i := 7) (oi := ?oir1_7) (v := ?vr1_7) ?hir1_7 (by kernel_rfl) (by kernel_rfl) (by kernel_rfl) ?hqr1_7 ?hyr1_7 (by assumption) ?restr1_7
      case hir1_7 => simp only [List.getElem?_toArray, List.getElem?_cons_succ, List.getElem?_cons_zero]; rfl
      case hqr1_7 => exact fun _ _ _ h => h
      case hyr1_7 => (refine Or.inl ⟨by rfl, ?_⟩; intro w hSw; (try dsimp only at hSw); go_simp; all_goals with_reducible rfl)
      try simp only [Act.put, List.setIfInBounds_toArray, List.set_cons_zero, List.set_cons_succ]
      refine wpAnyH_take (i := 8) (oi := ?oir1_8) (v := ?vr1_8) ?hir1_8 (by kernel_rfl) (by kernel_rfl) (by kernel_rfl) ?hqr1_8 ?hyr1_8 (by assumption) ?restr1_8
      case hir1_8 => simp only [List.getElem?_toArray, List.getElem?_cons_succ, List.getElem?_cons_zero]; rfl
      case hqr1_8 => exact fun _ _ _ h => h
      case hyr1_8 => (refine Or.inl ⟨by rfl, ?_⟩; intro w hSw; (try dsimp only at hSw); go_simp; all_goals with_reducible rfl)
      try simp only [Act.put, List.setIfInBounds_toArray, List.set_cons_zero, List.set_cons_succ]
      refine wpAnyH_take (i := 9) (oi := ?oir1_9) (v := ?vr1_9) ?hir1_9 (by kernel_rfl) (by kernel_rfl) (by kernel_rfl) ?hqr1_9 ?hyr1_9 (by assumption) ?restr1_9
      case hir1_9 => simp only [List.getElem?_toArray, List.getElem?_cons_succ, List.getElem?_cons_zero]; rfl
      case hqr1_9 => exact fun _ _ _ h => h
      case hyr1_9 => (refine Or.inl ⟨by rfl, ?_⟩; intro w hSw; (try dsimp only at hSw); go_simp; all_goals with_reducible rfl)
      try simp only [Act.put, List.setIfInBounds_toArray, List.set_cons_zero, List.set_cons_succ]
      refine wpAnyH_take (i := 10) (oi := ?oir1_10) (v := ?vr1_10) ?hir1_10 (by kernel_rfl) (by kernel_rfl) (by kernel_rfl) ?hqr1_10 ?hyr1_10 (by assumption) ?restr1_10
      case hir1_10 => simp only [List.getElem?_toArray, List.getElem?_cons_succ, List.getElem?_cons_zero]; rfl
      case hqr1_10 => exact fun _ _ _ h => h
      case hyr1_10 => (refine Or.inl ⟨by rfl, ?_⟩; intro w hSw; (try dsimp only at hSw); go_simp; all_goals with_reducible rfl)
      try simp only [Act.put, List.setIfInBounds_toArray, List.set_cons_zero, List.set_cons_succ]
      refine wpAnyH_take (i := 11) (oi := ?oir1_11) (v := ?vr1_11) ?hir1_11 (by kernel_rfl) (by kernel_rfl) (by kernel_rfl) ?hqr1_11 ?hyr1_11 (by assumption) ?restr1_11
      case hir1_11 => simp only [List.getElem?_toArray, List.getElem?_cons_succ, List.getElem?_cons_zero]; rfl
      case hqr1_11 => exact fun _ _ _ h => h
      case hyr1_11 => (refine Or.inl ⟨by rfl, ?_⟩; intro w hSw; (try dsimp only at hSw); go_simp; all_goals with_reducible rfl)
      try simp only [Act.put, List.setIfInBounds_toArray, List.set_cons_zero, List.set_cons_succ]
      refine wpAnyH_take (i := 13) (oi := ?oir1_13) (v := ?vr1_13) ?hir1_13 (by kernel_rfl) (by kernel_rfl) (by kernel_rfl) ?hqr1_13 ?hyr1_13 (by assumption) ?restr1_13
      case hir1_13 => simp only [List.getElem?_toArray, List.getElem?_cons_succ, List.getElem?_cons_zero]; rfl
      case hqr1_13 => exact fun _ _ _ h => h
      case hyr1_13 => (refine Or.inl ⟨by rfl, ?_⟩; intro w hSw; (try dsimp only at hSw); go_simp; all_goals with_reducible rfl)
      try simp only [Act.put, List.setIfInBounds_toArray, List.set_cons_zero, List.set_cons_succ]
      refine wpAnyH_take (i := 14) (oi := ?oir1_14) (v := ?vr1_14) ?hir1_14 (by kernel_rfl) (by kernel_rfl) (by kernel_rfl) ?hqr1_14 ?hyr1_14 (by assumption) ?restr1_14
      case hir1_14 => simp only [List.getElem?_toArray, List.getElem?_cons_succ, List.getElem?_cons_zero]; rfl
      case hqr1_14 => exact fun _ _ _ h => h
      case hyr1_14 => (refine Or.inl ⟨by rfl, ?_⟩; intro w hSw; (try dsimp only at hSw); go_simp; all_goals with_reducible rfl)
      try simp only [Act.put, List.setIfInBounds_toArray, List.set_cons_zero, List.set_cons_succ]
      refine wpAnyH_take (i := 15) (oi := ?oir1_15) (v := ?vr1_15) ?hir1_15 (by kernel_rfl) (by kernel_rfl) (by kernel_rfl) ?hqr1_15 ?hyr1_15 (by assumption) ?restr1_15
      case hir1_15 => simp only [List.getElem?_toArray, List.getElem?_cons_succ, List.getElem?_cons_zero]; rfl
      case hqr1_15 => exact fun _ _ _ h => h
      case hyr1_15 => (refine Or.inl ⟨by rfl, ?_⟩; intro w hSw; (try dsimp only at hSw); go_simp; all_goals with_reducible rfl)
      try simp only [Act.put, List.setIfInBounds_toArray, List.set_cons_zero, List.set_cons_succ]
      refine wpAnyH_take (i := 16) (oi := ?oir1_16) (v := ?vr1_16) ?hir1_16 (by kernel_rfl) (by kernel_rfl) (by kernel_rfl) ?hqr1_16 ?hyr1_16 (by assumption) ?restr1_16
      case hir1_16 => simp only [List.getElem?_toArray, List.getElem?_cons_succ, List.getElem?_cons_zero]; rfl
      case hqr1_16 => exact fun _ _ _ h => h
      case hyr1_16 => (refine Or.inl ⟨by rfl, ?_⟩; intro w hSw; (try dsimp only at hSw); go_simp; all_goals with_reducible rfl)
      try simp only [Act.put, List.setIfInBounds_toArray, List.set_cons_zero, List.set_cons_succ]
      refine wpAnyH_take (i := 17) (oi := ?oir1_17) (v := ?vr1_17) ?hir1_17 (by kernel_rfl) (by kernel_rfl) (by kernel_rfl) ?hqr1_17 ?hyr1_17 (by assumption) ?restr1_17
      case hir1_17 => simp only [List.getElem?_toArray, List.getElem?_cons_succ, List.getElem?_cons_zero]; rfl
      case hqr1_17 => exact fun _ _ _ h => h
      case hyr1_17 => (refine Or.inl ⟨by rfl, ?_⟩; intro w hSw; (try dsimp only at hSw); go_simp; all_goals with_reducible rfl)
      try simp only [Act.put, List.setIfInBounds_toArray, List.set_cons_zero, List.set_cons_succ]
      try simp only [hwp]
      have hpair := ow_pair wd (p := p) (s := v.st) (by omega) hst
      refine wpAnyH_ready (rs := [12]) (by kernel_rfl) (by simp) ?_
      refine (AllReadyH.cons (o := ?ob7_12) ?hob7_12 (fun K hK => ?kb7_12) AllReadyH.nil)
      case hob7_12 => simp only [List.getElem?_toArray, List.getElem?_cons_succ, List.getElem?_cons_zero]; rfl
      case kb7_12 =>
        go_simp
        refine hK.out _ _ ?_ (fun hHeld => ?_)
        · exact ⟨cell_below (hBd.trans ((below_al wd _).mono hBd.size)) Hc0.out, cell_below (hBd.trans ((below_al wd _).mono hBd.size)) Hc1.out, cell_below (hBd.trans ((below_al wd _).mono hBd.size)) Hc2.out⟩
        clear hK K
        try simp only [Act.put, List.setIfInBounds_toArray, List.set_cons_zero, List.set_cons_succ]
        refine wpAnyH_ready (rs := [18]) (by kernel_rfl) (by simp) ?_
        refine (AllReadyH.cons (o := ?ob6_18) ?hob6_18 (fun K hK => ?kb6_18) AllReadyH.nil)
        case hob6_18 => simp only [List.getElem?_toArray, List.getElem?_cons_succ, List.getElem?_cons_zero]; rfl
        case kb6_18 =>
          rw [if_pos (by rfl)]
          refine op_appS _ _ rfl wd.heap.size rfl hpair (by omega) v.nm rfl (by omega) (by rw [World.size_alloc]; omega) ?_
          intro a5 c5 w5 ho5 hb5
          have hb05 := (below_al wd (.cells #[.int .u8 ((p : Nat) : Int), .int .u8 ((v.st : Nat) : Int)] 5)).trans hb5
          have hB5 := hBd.trans (hb05.mono hBd.size)
          have hov5 := hov.below hb05
          refine hK.out _ _ ?_ (fun hHeld => ?_)
          · exact ⟨cell_below hB5 Hc0.out, cell_below hB5 Hc1.out, cell_below hB5 Hc2.out⟩
          clear hK K
          try simp only [Act.put, List.setIfInBounds_toArray, List.set_cons_zero, List.set_cons_succ]
          refine wpAnyH_ready (rs := [19]) (by kernel_rfl) (by simp) ?_
          refine (AllReadyH.cons (o := ?ob5_19) ?hob5_19 (fun K hK => ?kb5_19) AllReadyH.nil)
          case hob5_19 => simp only [List.getElem?_toArray, List.getElem?_cons_succ, List.getElem?_cons_zero]; rfl
          case kb5_19 =>
            go_simp
            have c := Field_any w5 ho5.rd (by omega)
            refine c.mono ?_
            rintro e w6 ⟨a6, n6, c6, rfl, ho6, hb6⟩
            clear c
            have hn6 : n6 = 2 + (2 + v.nm.size) := by rw [← ho6.len]; simp [field, dig_length]; omega
            subst hn6
            obtain ⟨g6, rfl, hg6, hl6⟩ := own_block ho6.own (by omega)
            have hB6 := hB5.trans (hb6.mono hB5.size)
            have hov6 := hov5.below hb6
            go_wp2_with fail
            refine hK.out _ _ ?_ (fun hHeld => ?_)
            · exact ⟨cell_below hB6 Hc0.out, cell_below hB6 Hc1.out, cell_below hB6 Hc2.out⟩
            clear hK K
            try simp only [Act.put, List.setIfInBounds_toArray, List.set_cons_zero, List.set_cons_succ]
            refine wpAnyH_ready (rs := [20]) (by kernel_rfl) (by simp) ?_
            refine (AllReadyH.cons (o := ?ob4_20) ?hob4_20 (fun K hK => ?kb4_20) AllReadyH.nil)
            case hob4_20 => simp only [List.getElem?_toArray, List.getElem?_cons_succ, List.getElem?_cons_zero]; rfl
            case kb4_20 =>
              rw [if_pos (by rfl)]
              refine op_app _ _ 34 rfl etB w.heap.size rfl hov6.own rfl (by simpa using ho6.len) ho6.rd.sl (by unfold maxLen; omega) (by omega) hB6.size ?_
              intro a7 c7 w7 hown7 hg7 hb7
              have hB7 := hB6.trans hb7
              refine hK.out _ _ ?_ (fun hHeld => ?_)
              · exact ⟨cell_below hB7 Hc0.out, cell_below hB7 Hc1.out, cell_below hB7 Hc2.out⟩
              clear hK K
              try simp only [Act.put, List.setIfInBounds_toArray, List.set_cons_zero, List.set_cons_succ]
              refine wpAnyH_take (i := 21) (oi := ?oir3_21) (v := ?vr3_21) ?hir3_21 (by kernel_rfl) (by kernel_rfl) (by kernel_rfl) ?hqr3_21 ?hyr3_21 (by assumption) ?restr3_21
              case hir3_21 => simp only [List.getElem?_toArray, List.getElem?_cons_succ, List.getElem?_cons_zero]; rfl
              case hqr3_21 => exact fun _ _ _ h => h
              case hyr3_21 => (refine Or.inl ⟨by rfl, ?_⟩; intro w hSw; (try dsimp only at hSw); go_simp; all_goals with_reducible rfl)
              try simp only [Act.put, List.setIfInBounds_toArray, List.set_cons_zero, List.set_cons_succ]
              refine wpAnyH_done (by kernel_rfl) ?_ _
              go_wp2_with fail
              go_roundw
              case rel =>
                have ht : ((vs.take (i + 1)).map fldV).flatMap field = ((vs.take i).map fldV).flatMap field ++ field ([p, v.st] ++ byts v.nm) := by
                  have hi' : i < vs.length := by rw [HL.out]; exact hlt
                  rw [List.take_succ_eq_append_getElem hi', List.map_append, List.flatMap_append, ← vth_eq hi', HV.out]
                  simp [fldV, HP.out]
                exact ⟨i + 1, m + (2 + (2 + v.nm.size)), a7, c7, by omega, by omega, rfl, by go_num, ⟨by rw [ht, List.length_append, hov6.len, ho6.len], by rw [ht]; simpa [nums] using hown7, by rw [ht]; exact append_lt hov6.bd ho6.bd⟩, hB7⟩
              case measure => simp [intOf]; omega

set_option maxHeartbeats 1000000 in
theorem refBytes_any (w : World) {a : Option Addr} {n cap : Nat} {vs : List VQ} (h : RdV w a n cap vs) :
    Calls Try.prog 17 #[.slice a n cap] w (RetBE w (bytesV vs)) := by
  obtain ⟨r, hr⟩ : ∃ r, r = bytesV vs := ⟨_, rfl⟩
  rw [← hr]
  obtain ⟨ck, hck⟩ : ∃ ck, chkV vs = ck := ⟨_, rfl⟩
  have HC := Lib.hid hck
  have c := refCheck_any w h
  rw [hck] at c
  clear hck
  go_enter Try.func17, Try.ntmps17
  go_wp2_with fail
  refine c.mono ?_
  rintro e w1 ⟨rfl, hb1⟩
  clear c
  by_cases hc : ck = 0
  case neg =>
    have HE : Hid (r = ([], ck)) := Lib.hid (by rw [hr, bytesV, HC.out, if_neg hc])
    clear hr
    go_wp2_with fail
    go_ret2
    rw [HE.out]
    exact ⟨none, 0, 0, rfl, Ow.nil _ _ _ _, hb1⟩
  subst hc
  have HE : Hid (r = ((vs.map fldV).flatMap field, 0)) := Lib.hid (by rw [hr, bytesV_ok HC.out])
  have c := Text_any w1 (h.below hb1) HC.out
  clear hr
  go_wp2_with fail
  refine c.mono ?_
  rintro e w2 ⟨a2, n2, c2, rfl, ho2, hb2⟩
  have HB := Lib.hid (hb1.trans (hb2.mono hb1.size))
  have HO := Lib.hid (ho2.base_le hb1.size)
  clear c ho2 hb2
  go_wp2_with fail
  go_ret2
  rw [HE.out]
  exact ⟨_, _, _, rfl, HO.out, HB.out⟩

end Go.Proofs.Ytnjkfjecnicccaa
