/- roll.Add. Conditions: none. Printed by gen_rolw.py. -/
import Derived.Test.YtnjkfjecnicccaaRolU
import Derived.Test.YtnjkfjecnicccaaRolV
namespace Go.Proofs.Ytnjkfjecnicccaa
open Go.RowKit Go.Suf
set_option linter.unusedVariables false
set_option linter.unusedSimpArgs false

theorem cells_new (w : World) (c : Array Value) (t : TypeId) : (w.alloc (.cells c t)).heap[w.heap.size]? = some (.cells c t (0, 0)) := heap_alloc_new _ _

set_option maxRecDepth 100000 in
set_option maxHeartbeats 8000000 in
theorem Add_any (w : World) {a : Option Addr} {n cap : Nat} {vs : List VQ} (h : RdV w a n cap vs) (s : ByteArray) (p : Int) (hp1 : -9223372036854775808 ≤ p) (hp2 : p ≤ 9223372036854775807) :
    Calls Try.prog 24 #[.slice a n cap, .string s, .int .i64 p] w (RetVE w (addV vs s p)) := by
  have HL := Lib.hid h.len
  obtain ⟨r, hr⟩ : ∃ r, r = addV vs s p := ⟨_, rfl⟩
  rw [← hr]
  obtain ⟨ck, hck⟩ : ∃ ck, chkV vs = ck := ⟨_, rfl⟩
  have HC := Lib.hid hck
  have c := Check_any w h
  rw [hck] at c
  clear hck
  go_enter Try.func24, Try.ntmps24
  go_wp2_with fail
  refine c.mono ?_
  rintro e w1 ⟨rfl, hb1⟩
  clear c
  by_cases hc : ck = 0
  case neg =>
    have HE : Hid (r = ([], ck)) := Lib.hid (by rw [hr, addV, HC.out, if_neg hc])
    clear hr
    go_wp2_with fail
    go_ret2
    exact RetVE.nil HE.out hb1
  subst hc
  obtain ⟨hR, hlen, -⟩ := rise_of HC.out
  have hn : n ≤ 64 := by have := HL.out; omega
  have BA := below_al w1 (.cells #[.string s, .int .i64 p, .int .u8 1] 32)
  obtain ⟨k0, k1, k2⟩ := vot_cells w1 ⟨s, p, 1⟩
  replace k2 : World.cell? _ _ = some (.int .u8 1) := k2
  have hd := (h.below hb1).below BA
  have hB := hb1.trans (BA.mono hb1.size)
  obtain ⟨o, ho⟩ : ∃ o, mayV ⟨s, p, 1⟩ = o := ⟨_, rfl⟩
  have HO := Lib.hid ho
  have HK := Lib.hid (show w1.heap.size < (w1.alloc (.cells #[.string s, .int .i64 p, .int .u8 1] 32)).heap.size by rw [World.size_alloc]; omega)
  have c := may_any (w1.alloc (.cells #[.string s, .int .i64 p, .int .u8 1] 32)) ⟨s, p, 1⟩
  rw [ho] at c
  clear ho BA
  go_wp2_with first | refine wpList_store_new rfl 32 _ _ rfl atVot _ _ _ rfl rfl rfl rfl (vot_one ⟨s, p, 1⟩) ?_
  generalize w1.alloc (.cells #[.string s, .int .i64 p, .int .u8 1] 32) = wa at *
  refine c.mono ?_
  rintro e w2 ⟨rfl, hb2⟩
  clear c
  have k0 := cell_below hb2 k0
  have k1 := cell_below hb2 k1
  have k2 := cell_below hb2 k2
  have hd := hd.below hb2
  have hB := hB.trans (hb2.mono hB.size)
  have hk := Nat.lt_of_lt_of_le HK.out hb2.size
  cases o with
  | false =>
    have HE : Hid (r = ([], 2)) := Lib.hid (by rw [hr, addV, HC.out, if_pos rfl, HO.out]; rfl)
    clear hr
    go_wp2_with fail
    go_ret2
    exact RetVE.nil HE.out hB
  | true =>
    obtain ⟨P, hP⟩ : ∃ P, posV vs s = P := ⟨_, rfl⟩
    have hPn : P ≤ n := by rw [← hP, ← HL.out]; exact (pos_spec vs s).1
    obtain ⟨isq, hisq⟩ : ∃ q, isV vs s = q := ⟨_, rfl⟩
    have c := place_any w2 hd (by omega) hR s
    rw [hP, hisq] at c
    have HQ := Lib.hid hisq
    have HP := Lib.hid hP
    clear hP hisq
    go_wp2_with fail
    refine c.mono ?_
    rintro e w3 ⟨rfl, hb3⟩
    clear c
    have hB := hB.trans (hb3.mono hB.size)
    cases isq with
    | true =>
      have HE : Hid (r = ([], 240)) := Lib.hid (by rw [hr, addV, HC.out, if_pos rfl, HO.out, if_pos rfl, if_pos HQ.out])
      clear hr
      go_wp2_with fail
      go_ret2
      exact RetVE.nil HE.out hB
    | false =>
      have k0 := cell_below hb3 k0
      have k1 := cell_below hb3 k1
      have k2 := cell_below hb3 k2
      have hd := hd.below hb3
      have hk := Nat.lt_of_lt_of_le hk hb3.size
      by_cases h64 : n = 64
      case pos =>
        have HE : Hid (r = ([], 9)) := Lib.hid (by rw [hr, addV, HC.out, if_pos rfl, HO.out, if_pos rfl, if_neg (by rw [HQ.out]; simp), if_pos (by rw [HL.out]; omega)])
        clear hr
        go_wp2_with fail
        go_ret2
        exact RetVE.nil HE.out hB
      case neg =>
        have HE : Hid (r = (vs.take P ++ [⟨s, p, 1⟩] ++ vs.drop P, 0)) := Lib.hid (by rw [hr, addV, HC.out, if_pos rfl, HO.out, if_pos rfl, if_neg (by rw [HQ.out]; simp), if_neg (by rw [HL.out]; omega), HP.out])
        have HVW : Hid (VW ⟨s, p, 1⟩) := Lib.hid ⟨hp1, hp2, by show 1 < 256; decide⟩
        have HB := Lib.hid hB
        have HD := Lib.hid hd
        have Hk0 := Lib.hid k0
        have Hk1 := Lib.hid k1
        have Hk2 := Lib.hid k2
        clear hr hd hR hlen hB hb1 hb2 hb3 k0 k1 k2 h
        go_wp2_with fail
        refine wp_region_held_drew (S := (fun w' => w'.cell? ⟨w1.heap.size, 0, none⟩ = some (.string s) ∧ w'.cell? ⟨w1.heap.size, 1, none⟩ = some (.int .i64 p) ∧ w'.cell? ⟨w1.heap.size, 2, none⟩ = some (.int .u8 1))) (by kernel_rfl) ?_ (fun hHeld => ?_)
        · exact ⟨Hk0.out, Hk1.out, Hk2.out⟩
        have HB0 : Below w3.heap.size w3 w3.drew := (Below.refl _ _).drew
        have hs0 : w3.drew.heap.size = w3.heap.size := rfl
        have HS0 := Lib.hid hs0
        clear hs0
        replace HB0 := Lib.hid HB0
        generalize w3.drew = wd at *
        refine wpAnyH_take (i := 0) (oi := ?oir1_0) (v := ?vr1_0) ?hir1_0 (by kernel_rfl) (by kernel_rfl) (by kernel_rfl) ?hqr1_0 ?hyr1_0 (by assumption) ?restr1_0
        case hir1_0 => simp only [List.getElem?_toArray, List.getElem?_cons_succ, List.getElem?_cons_zero]; rfl
        case hqr1_0 => exact fun _ _ _ h => h
        case hyr1_0 => (refine Or.inl ⟨by rfl, ?_⟩; intro w hSw; (try dsimp only at hSw); go_simp; all_goals with_reducible rfl)
        try simp only [Act.put, List.setIfInBounds_toArray, List.set_cons_zero, List.set_cons_succ]
        refine wpAnyH_take (i := 2) (oi := ?oir1_2) (v := ?vr1_2) ?hir1_2 (by kernel_rfl) (by kernel_rfl) (by kernel_rfl) ?hqr1_2 ?hyr1_2 (by assumption) ?restr1_2
        case hir1_2 => simp only [List.getElem?_toArray, List.getElem?_cons_succ, List.getElem?_cons_zero]; rfl
        case hqr1_2 => exact fun _ _ _ h => h
        case hyr1_2 => (refine Or.inl ⟨by rfl, ?_⟩; intro w hSw; (try dsimp only at hSw); go_simp; all_goals with_reducible rfl)
        try simp only [Act.put, List.setIfInBounds_toArray, List.set_cons_zero, List.set_cons_succ]
        refine wpAnyH_take (i := 3) (oi := ?oir1_3) (v := ?vr1_3) ?hir1_3 (by kernel_rfl) (by kernel_rfl) (by kernel_rfl) ?hqr1_3 ?hyr1_3 (by assumption) ?restr1_3
        case hir1_3 => simp only [List.getElem?_toArray, List.getElem?_cons_succ, List.getElem?_cons_zero]; rfl
        case hqr1_3 => exact fun _ _ _ h => h
        case hyr1_3 => (refine Or.inl ⟨by rfl, ?_⟩; intro w hSw; (try dsimp only at hSw); go_simp; all_goals with_reducible rfl)
        try simp only [Act.put, List.setIfInBounds_toArray, List.set_cons_zero, List.set_cons_succ]
        have HDD := Lib.hid (HD.out.below HB0.out)
        refine wpAnyH_ready (rs := [1, 4]) (by kernel_rfl) (by simp) ?_
        refine (AllReadyH.cons (o := ?oy1) ?hoy1 (fun K hK => ?ky1) (AllReadyH.cons (o := ?oy4) ?hoy4 (fun K hK => ?ky4) AllReadyH.nil))
        case hoy1 => simp only [List.getElem?_toArray, List.getElem?_cons_succ, List.getElem?_cons_zero]; rfl
        case hoy4 => simp only [List.getElem?_toArray, List.getElem?_cons_succ, List.getElem?_cons_zero]; rfl
        case ky1 =>
          have c := Clone_any wd HDD.out (by omega)
          go_simp
          refine c.mono ?_
          rintro e wc ⟨ac, cc, rfl, hoc, hbc⟩
          clear c
          go_wp2_with fail
          have hBc : Below w3.heap.size w3 wc := HB0.out.trans (hbc.mono (by have := HS0.out; omega))
          refine hK.out _ _ ?_ (fun hHeld => ?_)
          · exact ⟨cell_below hBc Hk0.out, cell_below hBc Hk1.out, cell_below hBc Hk2.out⟩
          clear hK K
          try simp only [Act.put, List.setIfInBounds_toArray, List.set_cons_zero, List.set_cons_succ]
          refine wpAnyH_ready (rs := [4]) (by kernel_rfl) (by simp) ?_
          refine (AllReadyH.cons (o := ?oz4) ?hoz4 (fun K hK => ?kz4) AllReadyH.nil)
          case hoz4 => simp only [List.getElem?_toArray, List.getElem?_cons_succ, List.getElem?_cons_zero]; rfl
          case kz4 =>
            have ba := below_al wc (.cells #[.string s, .int .i64 p, .int .u8 1] 32)
            have hBa : Below w3.heap.size w3 (wc.alloc (.cells #[.string s, .int .i64 p, .int .u8 1] 32)) := hBc.trans (ba.mono hBc.size)
            have HBx := Lib.hid hBa
            have hoa := hoc.below ba
            have hgv : ∀ q, ac = some q → wc.heap.size ≠ q.block := fun q hq => by
              have := (hoc.own.lt q.block (by rw [hq]; rfl)).2
              omega
            have hz : wd.heap.size ≤ (wc.alloc (.cells #[.string s, .int .i64 p, .int .u8 1] 32)).heap.size := Nat.le_trans hbc.size ba.size
            have hnw := cells_new wc #[.string s, .int .i64 p, .int .u8 1] 32
            go_simp
            refine hK.out _ _ ?_ (fun hHeld => ?_)
            · exact ⟨cell_below HBx.out Hk0.out, cell_below HBx.out Hk1.out, cell_below HBx.out Hk2.out⟩
            clear hK K
            try simp only [Act.put, List.setIfInBounds_toArray, List.set_cons_zero, List.set_cons_succ]
            refine wpAnyH_ready (rs := [5]) (by kernel_rfl) (by simp) ?_
            refine (AllReadyH.cons (o := ?oz5) ?hoz5 (fun K hK => ?kz5) AllReadyH.nil)
            case hoz5 => simp only [List.getElem?_toArray, List.getElem?_cons_succ, List.getElem?_cons_zero]; rfl
            case kz5 =>
              have c := Insert_any _ wd.heap.size hoa (by omega) hPn hz HVW.out hgv hnw
              go_simp
              refine c.mono ?_
              rintro e w9 ⟨a9, c9, rfl, hov9, hb9⟩
              clear c
              go_wp2_with fail
              have hB9 : Below w3.heap.size w3 w9 := HBx.out.trans (hb9.mono (by have := HS0.out; omega))
              refine hK.out _ _ ?_ (fun hHeld => ?_)
              · exact ⟨cell_below hB9 Hk0.out, cell_below hB9 Hk1.out, cell_below hB9 Hk2.out⟩
              clear hK K
              try simp only [Act.put, List.setIfInBounds_toArray, List.set_cons_zero, List.set_cons_succ]
              refine wpAnyH_take (i := 6) (oi := ?oir2_6) (v := ?vr2_6) ?hir2_6 (by kernel_rfl) (by kernel_rfl) (by kernel_rfl) ?hqr2_6 ?hyr2_6 (by assumption) ?restr2_6
              case hir2_6 => simp only [List.getElem?_toArray, List.getElem?_cons_succ, List.getElem?_cons_zero]; rfl
              case hqr2_6 => exact fun _ _ _ h => h
              case hyr2_6 => (refine Or.inl ⟨by rfl, ?_⟩; intro w hSw; (try dsimp only at hSw); go_simp; all_goals with_reducible rfl)
              try simp only [Act.put, List.setIfInBounds_toArray, List.set_cons_zero, List.set_cons_succ]
              refine wpAnyH_take (i := 7) (oi := ?oir2_7) (v := ?vr2_7) ?hir2_7 (by kernel_rfl) (by kernel_rfl) (by kernel_rfl) ?hqr2_7 ?hyr2_7 (by assumption) ?restr2_7
              case hir2_7 => simp only [List.getElem?_toArray, List.getElem?_cons_succ, List.getElem?_cons_zero]; rfl
              case hqr2_7 => exact fun _ _ _ h => h
              case hyr2_7 => (refine Or.inl ⟨by rfl, ?_⟩; intro w hSw; (try dsimp only at hSw); go_simp; all_goals with_reducible rfl)
              try simp only [Act.put, List.setIfInBounds_toArray, List.set_cons_zero, List.set_cons_succ]
              refine wpAnyH_done (by kernel_rfl) ?_ _
              have HO9 := Lib.hid (hov9.base_le (Nat.le_trans HB.out.size (Nat.le_of_eq HS0.out.symm)))
              have HB9 := Lib.hid (HB.out.trans (hB9.mono HB.out.size))
              clear hov9 hb9 hB9
              go_wp2_with fail
              go_ret2
              rw [HE.out]
              exact ⟨_, _, _, rfl, HO9.out, HB9.out⟩
        case ky4 =>
          have ba := below_al wd (.cells #[.string s, .int .i64 p, .int .u8 1] 32)
          have hBa : Below w3.heap.size w3 (wd.alloc (.cells #[.string s, .int .i64 p, .int .u8 1] 32)) := HB0.out.trans (ba.mono (by have := HS0.out; omega))
          have HDA := Lib.hid (HDD.out.below ba)
          have hnw := Lib.hid (cells_new wd #[.string s, .int .i64 p, .int .u8 1] 32)
          have HSA := Lib.hid (show (wd.alloc (.cells #[.string s, .int .i64 p, .int .u8 1] 32)).heap.size = wd.heap.size + 1 from World.size_alloc _ _)
          go_simp
          refine hK.out _ _ ?_ (fun hHeld => ?_)
          · exact ⟨cell_below hBa Hk0.out, cell_below hBa Hk1.out, cell_below hBa Hk2.out⟩
          clear hK K
          try simp only [Act.put, List.setIfInBounds_toArray, List.set_cons_zero, List.set_cons_succ]
          generalize wd.alloc (.cells #[.string s, .int .i64 p, .int .u8 1] 32) = wb at *
          refine wpAnyH_ready (rs := [1]) (by kernel_rfl) (by simp) ?_
          refine (AllReadyH.cons (o := ?oz1) ?hoz1 (fun K hK => ?kz1) AllReadyH.nil)
          case hoz1 => simp only [List.getElem?_toArray, List.getElem?_cons_succ, List.getElem?_cons_zero]; rfl
          case kz1 =>
            have c := Clone_any wb HDA.out (by omega)
            go_simp
            refine c.mono ?_
            rintro e wc ⟨ac, cc, rfl, hoc, hbc⟩
            clear c
            go_wp2_with fail
            have HBx : Hid (Below w3.heap.size w3 wc) := Lib.hid (hBa.trans (hbc.mono (by have := HS0.out; have := HSA.out; omega)))
            refine hK.out _ _ ?_ (fun hHeld => ?_)
            · exact ⟨cell_below HBx.out Hk0.out, cell_below HBx.out Hk1.out, cell_below HBx.out Hk2.out⟩
            clear hK K
            try simp only [Act.put, List.setIfInBounds_toArray, List.set_cons_zero, List.set_cons_succ]
            have hgv : ∀ q, ac = some q → wd.heap.size ≠ q.block := fun q hq => by
              have := (hoc.own.lt q.block (by rw [hq]; rfl)).1
              have := HSA.out
              omega
            have hoa := hoc.base_le (show wd.heap.size ≤ wb.heap.size by have := HSA.out; omega)
            have hz : wd.heap.size ≤ wc.heap.size := by have := HSA.out; have := hbc.size; omega
            have hnw2 : wc.heap[wd.heap.size]? = _ := (hbc.block wd.heap.size (by have := HSA.out; omega)).trans hnw.out
            refine wpAnyH_ready (rs := [5]) (by kernel_rfl) (by simp) ?_
            refine (AllReadyH.cons (o := ?oz6) ?hoz6 (fun K hK => ?kz6) AllReadyH.nil)
            case hoz6 => simp only [List.getElem?_toArray, List.getElem?_cons_succ, List.getElem?_cons_zero]; rfl
            case kz6 =>
              have c := Insert_any _ wd.heap.size hoa (by omega) hPn hz HVW.out hgv hnw2
              go_simp
              refine c.mono ?_
              rintro e w9 ⟨a9, c9, rfl, hov9, hb9⟩
              clear c
              go_wp2_with fail
              have hB9 : Below w3.heap.size w3 w9 := HBx.out.trans (hb9.mono (by have := HS0.out; omega))
              refine hK.out _ _ ?_ (fun hHeld => ?_)
              · exact ⟨cell_below hB9 Hk0.out, cell_below hB9 Hk1.out, cell_below hB9 Hk2.out⟩
              clear hK K
              try simp only [Act.put, List.setIfInBounds_toArray, List.set_cons_zero, List.set_cons_succ]
              refine wpAnyH_take (i := 6) (oi := ?oir3_6) (v := ?vr3_6) ?hir3_6 (by kernel_rfl) (by kernel_rfl) (by kernel_rfl) ?hqr3_6 ?hyr3_6 (by assumption) ?restr3_6
              case hir3_6 => simp only [List.getElem?_toArray, List.getElem?_cons_succ, List.getElem?_cons_zero]; rfl
              case hqr3_6 => exact fun _ _ _ h => h
              case hyr3_6 => (refine Or.inl ⟨by rfl, ?_⟩; intro w hSw; (try dsimp only at hSw); go_simp; all_goals with_reducible rfl)
              try simp only [Act.put, List.setIfInBounds_toArray, List.set_cons_zero, List.set_cons_succ]
              refine wpAnyH_take (i := 7) (oi := ?oir3_7) (v := ?vr3_7) ?hir3_7 (by kernel_rfl) (by kernel_rfl) (by kernel_rfl) ?hqr3_7 ?hyr3_7 (by assumption) ?restr3_7
              case hir3_7 => simp only [List.getElem?_toArray, List.getElem?_cons_succ, List.getElem?_cons_zero]; rfl
              case hqr3_7 => exact fun _ _ _ h => h
              case hyr3_7 => (refine Or.inl ⟨by rfl, ?_⟩; intro w hSw; (try dsimp only at hSw); go_simp; all_goals with_reducible rfl)
              try simp only [Act.put, List.setIfInBounds_toArray, List.set_cons_zero, List.set_cons_succ]
              refine wpAnyH_done (by kernel_rfl) ?_ _
              have HO9 := Lib.hid (hov9.base_le (Nat.le_trans HB.out.size (Nat.le_of_eq HS0.out.symm)))
              have HB9 := Lib.hid (HB.out.trans (hB9.mono HB.out.size))
              clear hov9 hb9 hB9
              go_wp2_with fail
              go_ret2
              rw [HE.out]
              exact ⟨_, _, _, rfl, HO9.out, HB9.out⟩

end Go.Proofs.Ytnjkfjecnicccaa
