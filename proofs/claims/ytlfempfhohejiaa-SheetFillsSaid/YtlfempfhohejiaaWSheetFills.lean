/- The walk of the law SheetFills: it returns true and turns nothing that was there. No condition. Printed by gen_shelaws.py. -/
import Derived.Test.YtlfempfhohejiaaSheI
import Derived.BigQuiet
import Derived.Deep.CutRange
namespace Go.Proofs.Ytlfempfhohejiaa
open Go.RowKit Go.Suf
set_option linter.unusedVariables false
set_option linter.unusedSimpArgs false

set_option maxRecDepth 100000 in
set_option maxHeartbeats 8000000 in
theorem sheetFills_walk (w : World) (nm : ByteArray) (hnl : nm.size ≤ maxLen) {a_s : Option Addr} {n_s c_s : Nat} {ss : List ByteArray} (h_s : RdS w a_s n_s c_s ss) (hsl : ∀ s ∈ ss, s.size ≤ maxLen) (seats : Int) (hs1 : -9223372036854775808 ≤ seats) (hs2 : seats ≤ 9223372036854775807) (rule : Nat) (hr : rule < 256) (kd : Nat) (hk : kd < 256) {a_m : Option Addr} {n_m c_m : Nat} {ms : List Int} (h_m : RdI w a_m n_m c_m ms) :
    Calls Try.prog 4 #[.agg #[.string nm, .slice a_s n_s c_s, .int .i64 seats, .int .u8 ((rule : Nat) : Int)], .agg #[.int .u8 ((kd : Nat) : Int), .slice a_m n_m c_m]] w fun e w' => e = .returned (.bool true) ∧ Below w.heap.size w w' := by
  have HN := Lib.hid h_s.len
  have hns := h_s.lt
  have hnm := h_m.lt
  have B0 : Below w.heap.size w w := Below.refl _ _
  have h_s_0 := h_s
  have h_m_0 := h_m
  go_enter Try.func4, Try.ntmps4
  have hb := below_al w (.cells #[.string nm, .slice a_s n_s c_s, .int .i64 seats, .int .u8 ((rule : Nat) : Int)] 24)
  have B1 := B0.trans (hb.mono B0.size)
  have h_s_1 := h_s_0.below hb
  have h_m_1 := h_m_0.below hb
  clear hb B0 h_s_0 h_m_0
  have h_c_1 := PRow.new 24 w #[.string nm, .slice a_s n_s c_s, .int .i64 seats, .int .u8 ((rule : Nat) : Int)]
  have hb := below_al (w.alloc (.cells #[.string nm, .slice a_s n_s c_s, .int .i64 seats, .int .u8 ((rule : Nat) : Int)] 24)) (.cells #[.int .u8 ((kd : Nat) : Int), .slice a_m n_m c_m] 39)
  have B2 := B1.trans (hb.mono B1.size)
  have h_s_2 := h_s_1.below hb
  have h_m_2 := h_m_1.below hb
  have h_c_2 := h_c_1.later hb
  clear hb B1 h_s_1 h_m_1 h_c_1
  have h_b_2 := PRow.new 39 (w.alloc (.cells #[.string nm, .slice a_s n_s c_s, .int .i64 seats, .int .u8 ((rule : Nat) : Int)] 24)) #[.int .u8 ((kd : Nat) : Int), .slice a_m n_m c_m]
  simp only [World.size_alloc] at h_b_2
  have k_c_0 := h_c_2.cell 0 _ rfl
  have k_c_1 := h_c_2.cell 1 _ rfl
  have k_c_2 := h_c_2.cell 2 _ rfl
  have k_c_3 := h_c_2.cell 3 _ rfl
  go_wp2_with fail
  clear k_c_0 k_c_1 k_c_2 k_c_3
  generalize ((w.alloc (.cells #[.string nm, .slice a_s n_s c_s, .int .i64 seats, .int .u8 ((rule : Nat) : Int)] 24)).alloc (.cells #[.int .u8 ((kd : Nat) : Int), .slice a_m n_m c_m] 39)) = w2 at *
  obtain ⟨gr, hgr⟩ : ∃ gr, greatC nm ss = gr := ⟨_, rfl⟩
  have GR := Lib.hid hgr
  clear hgr
  have c := Great_any w2 nm h_s_2 seats rule hr
  rw [GR.out] at c
  refine c.mono ?_
  rintro e w3 ⟨rfl, hb⟩
  clear c
  have B3 := B2.trans (hb.mono B2.size)
  have h_s_3 := h_s_2.below hb
  have h_m_3 := h_m_2.below hb
  have h_c_3 := h_c_2.later hb
  have h_b_3 := h_b_2.later hb
  clear hb B2 h_s_2 h_m_2 h_c_2 h_b_2
  cases gr with
  | true =>
    go_wp2_with fail
    go_ret
    exact ⟨rfl, B3⟩
  | false =>
    have k_b_0 := h_b_3.cell 0 _ rfl
    have k_b_1 := h_b_3.cell 1 _ rfl
    go_wp2_with fail
    clear k_b_0 k_b_1
    have c := ballGreat_any w3 kd hk h_m_3
    refine c.mono ?_
    rintro e w4 ⟨rfl, hb⟩
    clear c
    have B4 := B3.trans (hb.mono B3.size)
    have h_s_4 := h_s_3.below hb
    have h_m_4 := h_m_3.below hb
    have h_c_4 := h_c_3.later hb
    have h_b_4 := h_b_3.later hb
    clear hb B3 h_s_3 h_m_3 h_c_3 h_b_3
    by_cases hbig : 60 < n_m
    case pos =>
      have hbd : decide (60 < n_m) = true := decide_eq_true hbig
      go_wp2_with fail
      go_ret
      exact ⟨rfl, B4⟩
    have hbd : decide (60 < n_m) = false := decide_eq_false hbig
    obtain ⟨fc, hfc⟩ : ∃ fc, fillC nm ss seats rule kd ms = fc := ⟨_, rfl⟩
    have HFC := Lib.hid hfc
    clear hfc
    go_upto_region 3 with fail
    go_cut [5] from 16 to 22 (fun s5 wx => ∃ g a c, s5 = Value.pointer (some ⟨g, 0, none⟩) ∧ PRow 39 w4 wx g #[.int .u8 ((kd : Nat) : Int), .slice a n_m c] ∧ OwI w4.heap.size wx a n_m c ms)
    case first =>
      have k0 := h_b_4.cell 0 _ rfl
      have k1 := h_b_4.cell 1 _ rfl
      have hm := h_m_4
      have D0 : Below w4.heap.size w4 w4.drew := (Below.refl w4.heap.size w4).drew
      have HSZ := Lib.hid (show w4.drew.heap.size = w4.heap.size from rfl)
      refine wp_region_held_drew (S := (fun w' => Below w4.heap.size w4 w' ∧ w'.cell? ⟨w.heap.size + 1, 0, none⟩ = some (.int .u8 ((kd : Nat) : Int)) ∧ w'.cell? ⟨w.heap.size + 1, 1, none⟩ = some (.slice a_m n_m c_m))) (by kernel_rfl) ?_ (fun hHeld => ?_)
      · exact ⟨D0, cell_below D0 k0, cell_below D0 k1⟩
      generalize w4.drew = wd at *
      refine wpAnyH_take (i := 0) (oi := ?oir1_0) (v := ?vr1_0) ?hir1_0 (by kernel_rfl) (by kernel_rfl) (by kernel_rfl) ?hqr1_0 ?hyr1_0 (by assumption) ?restr1_0
      case hir1_0 => simp only [List.getElem?_toArray, List.getElem?_cons_succ, List.getElem?_cons_zero]; rfl
      case hqr1_0 => exact fun _ _ _ h => h
      case hyr1_0 => (refine Or.inl ⟨by rfl, ?_⟩; intro w hSw; (try dsimp only at hSw); go_simp; all_goals with_reducible rfl)
      try simp only [Act.put, List.setIfInBounds_toArray, List.set_cons_zero, List.set_cons_succ]
      refine wpAnyH_take (i := 1) (oi := ?oir1_1) (v := ?vr1_1) ?hir1_1 (by kernel_rfl) (by kernel_rfl) (by kernel_rfl) ?hqr1_1 ?hyr1_1 (by assumption) ?restr1_1
      case hir1_1 => simp only [List.getElem?_toArray, List.getElem?_cons_succ, List.getElem?_cons_zero]; rfl
      case hqr1_1 => exact fun _ _ _ h => h
      case hyr1_1 => (refine Or.inl ⟨by rfl, ?_⟩; intro w hSw; (try dsimp only at hSw); go_simp; all_goals with_reducible rfl)
      try simp only [Act.put, List.setIfInBounds_toArray, List.set_cons_zero, List.set_cons_succ]
      refine wpAnyH_take (i := 3) (oi := ?oir1_3) (v := ?vr1_3) ?hir1_3 (by kernel_rfl) (by kernel_rfl) (by kernel_rfl) ?hqr1_3 ?hyr1_3 (by assumption) ?restr1_3
      case hir1_3 => simp only [List.getElem?_toArray, List.getElem?_cons_succ, List.getElem?_cons_zero]; rfl
      case hqr1_3 => exact fun _ _ _ h => h
      case hyr1_3 => (refine Or.inl ⟨by rfl, ?_⟩; intro w hSw; (try dsimp only at hSw); go_simp; all_goals with_reducible rfl)
      try simp only [Act.put, List.setIfInBounds_toArray, List.set_cons_zero, List.set_cons_succ]
      refine wpAnyH_take (i := 4) (oi := ?oir1_4) (v := ?vr1_4) ?hir1_4 (by kernel_rfl) (by kernel_rfl) (by kernel_rfl) ?hqr1_4 ?hyr1_4 (by assumption) ?restr1_4
      case hir1_4 => simp only [List.getElem?_toArray, List.getElem?_cons_succ, List.getElem?_cons_zero]; rfl
      case hqr1_4 => exact fun _ _ _ h => h
      case hyr1_4 => (refine Or.inl ⟨by rfl, ?_⟩; intro w hSw; (try dsimp only at hSw); go_simp; all_goals with_reducible rfl)
      try simp only [Act.put, List.setIfInBounds_toArray, List.set_cons_zero, List.set_cons_succ]
      refine wpAnyH_ready (rs := [2, 7]) (by kernel_rfl) (by simp) ?_
      refine (AllReadyH.cons (o := ?ob13_2) ?hob13_2 (fun K hK => ?kb13_2) (AllReadyH.cons (o := ?ob13_7) ?hob13_7 (fun K hK => ?kb13_7) AllReadyH.nil))
      case hob13_2 => simp only [List.getElem?_toArray, List.getElem?_cons_succ, List.getElem?_cons_zero]; rfl
      case hob13_7 => simp only [List.getElem?_toArray, List.getElem?_cons_succ, List.getElem?_cons_zero]; rfl
      case kb13_2 =>
        go_simp
        refine hK.out _ _ ?_ (fun hHeld => ?_)
        · exact ⟨(D0.trans ((below_al wd _).mono D0.size)), cell_below (D0.trans ((below_al wd _).mono D0.size)) k0, cell_below (D0.trans ((below_al wd _).mono D0.size)) k1⟩
        clear hK K
        try simp only [Act.put, List.setIfInBounds_toArray, List.set_cons_zero, List.set_cons_succ]
        have BX := D0.trans ((below_al wd (.cells #[] 3)).mono D0.size)
        refine wpAnyH_ready (rs := [5, 7]) (by kernel_rfl) (by simp) ?_
        refine (AllReadyH.cons (o := ?ob8_5) ?hob8_5 (fun K hK => ?kb8_5) (AllReadyH.cons (o := ?ob8_7) ?hob8_7 (fun K hK => ?kb8_7) AllReadyH.nil))
        case hob8_5 => simp only [List.getElem?_toArray, List.getElem?_cons_succ, List.getElem?_cons_zero]; rfl
        case hob8_7 => simp only [List.getElem?_toArray, List.getElem?_cons_succ, List.getElem?_cons_zero]; rfl
        case kb8_5 =>
          rw [if_pos (by rfl)]
          refine opApp _ _ 37 rfl etI w4.heap.size rfl (World.ownsRow_made (e := 3) (size := 1) (base := w4.heap.size) wd #[] 0 (Nat.le_of_eq HSZ.out.symm) (by decide) rfl) rfl (by simpa using hm.len) (hm.below BX).sl (by unfold maxLen; omega) (by omega) (by have := BX.size; omega) ?_; intro a' c' wq hown hgr hbq
          refine hK.out _ _ ?_ (fun hHeld => ?_)
          · exact ⟨(BX.trans hbq), cell_below (BX.trans hbq) k0, cell_below (BX.trans hbq) k1⟩
          clear hK K
          try simp only [Act.put, List.setIfInBounds_toArray, List.set_cons_zero, List.set_cons_succ]
          simp only [Nat.zero_add, List.nil_append] at hown ⊢
          have BX := BX.trans hbq
          refine wpAnyH_take (i := 6) (oi := ?oir2_6) (v := ?vr2_6) ?hir2_6 (by kernel_rfl) (by kernel_rfl) (by kernel_rfl) ?hqr2_6 ?hyr2_6 (by assumption) ?restr2_6
          case hir2_6 => simp only [List.getElem?_toArray, List.getElem?_cons_succ, List.getElem?_cons_zero]; rfl
          case hqr2_6 => exact fun _ _ _ h => h
          case hyr2_6 => (refine Or.inl ⟨by rfl, ?_⟩; intro w hSw; (try dsimp only at hSw); go_simp; all_goals with_reducible rfl)
          try simp only [Act.put, List.setIfInBounds_toArray, List.set_cons_zero, List.set_cons_succ]
          refine wpAnyH_ready (rs := [7]) (by kernel_rfl) (by simp) ?_
          refine (AllReadyH.cons (o := ?ob4_7) ?hob4_7 (fun K hK => ?kb4_7) AllReadyH.nil)
          case hob4_7 => simp only [List.getElem?_toArray, List.getElem?_cons_succ, List.getElem?_cons_zero]; rfl
          case kb4_7 =>
            go_simp
            refine hK.out _ _ ?_ (fun hHeld => ?_)
            · exact ⟨(BX.trans ((below_al wq _).mono BX.size)), cell_below (BX.trans ((below_al wq _).mono BX.size)) k0, cell_below (BX.trans ((below_al wq _).mono BX.size)) k1⟩
            clear hK K
            try simp only [Act.put, List.setIfInBounds_toArray, List.set_cons_zero, List.set_cons_succ]
            have RA := (PRow.new 39 wq #[.int .u8 0, .slice none 0 0]).base BX
            have HO := own_below hown (below_al wq (.cells #[.int .u8 0, .slice none 0 0] 39))
            refine wpAnyH_ready (rs := [8]) (by kernel_rfl) (by simp) ?_
            refine (AllReadyH.cons (o := ?ob3_8) ?hob3_8 (fun K hK => ?kb3_8) AllReadyH.nil)
            case hob3_8 => simp only [List.getElem?_toArray, List.getElem?_cons_succ, List.getElem?_cons_zero]; rfl
            case kb3_8 =>
              rw [if_pos (by rfl)]
              refine op_store_whole 39 _ _ rfl atBal _ _ _ RA.row rfl rfl rfl rfl (bal_one _ _ _ _) ?_
              refine hK.out _ _ ?_ (fun hHeld => ?_)
              · exact ⟨(RA.put #[.int .u8 ((kd : Nat) : Int), .slice a' n_m c']).below, cell_below (RA.put #[.int .u8 ((kd : Nat) : Int), .slice a' n_m c']).below k0, cell_below (RA.put #[.int .u8 ((kd : Nat) : Int), .slice a' n_m c']).below k1⟩
              clear hK K
              try simp only [Act.put, List.setIfInBounds_toArray, List.set_cons_zero, List.set_cons_succ]
              refine wpAnyH_done (by kernel_rfl) ?_ _
              go_wp2_with fail
              go_meet
              exact ⟨_, a', c', rfl, RA.put _, ⟨hm.len, own_setRow HO RA.row (by decide) _, hm.bd⟩⟩
        case kb8_7 =>
          go_simp
          refine hK.out _ _ ?_ (fun hHeld => ?_)
          · exact ⟨(BX.trans ((below_al _ _).mono BX.size)), cell_below (BX.trans ((below_al _ _).mono BX.size)) k0, cell_below (BX.trans ((below_al _ _).mono BX.size)) k1⟩
          clear hK K
          try simp only [Act.put, List.setIfInBounds_toArray, List.set_cons_zero, List.set_cons_succ]
          have RA0 := (PRow.new 39 (wd.alloc (.cells #[] 3)) #[.int .u8 0, .slice none 0 0]).base BX
          rw [World.size_alloc] at RA0
          have BX := BX.trans ((below_al (wd.alloc (.cells #[] 3)) (.cells #[.int .u8 0, .slice none 0 0] 39)).mono BX.size)
          refine wpAnyH_ready (rs := [5]) (by kernel_rfl) (by simp) ?_
          refine (AllReadyH.cons (o := ?ob7_5) ?hob7_5 (fun K hK => ?kb7_5) AllReadyH.nil)
          case hob7_5 => simp only [List.getElem?_toArray, List.getElem?_cons_succ, List.getElem?_cons_zero]; rfl
          case kb7_5 =>
            rw [if_pos (by rfl)]
            refine opApp _ _ 37 rfl etI w4.heap.size rfl (own_below (World.ownsRow_made (e := 3) (size := 1) (base := w4.heap.size) wd #[] 0 (Nat.le_of_eq HSZ.out.symm) (by decide) rfl) (below_al (wd.alloc (.cells #[] 3)) (.cells #[.int .u8 0, .slice none 0 0] 39))) rfl (by simpa using hm.len) (hm.below BX).sl (by unfold maxLen; omega) (by omega) (by have := BX.size; omega) ?_; intro a' c' wq hown hgr hbq
            refine hK.out _ _ ?_ (fun hHeld => ?_)
            · exact ⟨(BX.trans hbq), cell_below (BX.trans hbq) k0, cell_below (BX.trans hbq) k1⟩
            clear hK K
            try simp only [Act.put, List.setIfInBounds_toArray, List.set_cons_zero, List.set_cons_succ]
            have RA := RA0.grown (by decide) (own_below (World.ownsRow_made (e := 3) (size := 1) (base := w4.heap.size) wd #[] 0 (Nat.le_of_eq HSZ.out.symm) (by decide) rfl) (below_al (wd.alloc (.cells #[] 3)) (.cells #[.int .u8 0, .slice none 0 0] 39))) hgr hbq
            simp only [Nat.zero_add, List.nil_append] at hown ⊢
            have HO := hown
            refine wpAnyH_take (i := 6) (oi := ?oir5_6) (v := ?vr5_6) ?hir5_6 (by kernel_rfl) (by kernel_rfl) (by kernel_rfl) ?hqr5_6 ?hyr5_6 (by assumption) ?restr5_6
            case hir5_6 => simp only [List.getElem?_toArray, List.getElem?_cons_succ, List.getElem?_cons_zero]; rfl
            case hqr5_6 => exact fun _ _ _ h => h
            case hyr5_6 => (refine Or.inl ⟨by rfl, ?_⟩; intro w hSw; (try dsimp only at hSw); go_simp; all_goals with_reducible rfl)
            try simp only [Act.put, List.setIfInBounds_toArray, List.set_cons_zero, List.set_cons_succ]
            refine wpAnyH_ready (rs := [8]) (by kernel_rfl) (by simp) ?_
            refine (AllReadyH.cons (o := ?ob6_8) ?hob6_8 (fun K hK => ?kb6_8) AllReadyH.nil)
            case hob6_8 => simp only [List.getElem?_toArray, List.getElem?_cons_succ, List.getElem?_cons_zero]; rfl
            case kb6_8 =>
              rw [if_pos (by rfl)]
              refine op_store_whole 39 _ _ rfl atBal _ _ _ RA.row rfl rfl rfl rfl (bal_one _ _ _ _) ?_
              refine hK.out _ _ ?_ (fun hHeld => ?_)
              · exact ⟨(RA.put #[.int .u8 ((kd : Nat) : Int), .slice a' n_m c']).below, cell_below (RA.put #[.int .u8 ((kd : Nat) : Int), .slice a' n_m c']).below k0, cell_below (RA.put #[.int .u8 ((kd : Nat) : Int), .slice a' n_m c']).below k1⟩
              clear hK K
              try simp only [Act.put, List.setIfInBounds_toArray, List.set_cons_zero, List.set_cons_succ]
              refine wpAnyH_done (by kernel_rfl) ?_ _
              go_wp2_with fail
              go_meet
              exact ⟨_, a', c', rfl, RA.put _, ⟨hm.len, own_setRow HO RA.row (by decide) _, hm.bd⟩⟩
      case kb13_7 =>
        go_simp
        refine hK.out _ _ ?_ (fun hHeld => ?_)
        · exact ⟨(D0.trans ((below_al wd _).mono D0.size)), cell_below (D0.trans ((below_al wd _).mono D0.size)) k0, cell_below (D0.trans ((below_al wd _).mono D0.size)) k1⟩
        clear hK K
        try simp only [Act.put, List.setIfInBounds_toArray, List.set_cons_zero, List.set_cons_succ]
        have RA0 := (PRow.new 39 wd #[.int .u8 0, .slice none 0 0]).base D0
        have BX := D0.trans ((below_al wd (.cells #[.int .u8 0, .slice none 0 0] 39)).mono D0.size)
        refine wpAnyH_ready (rs := [2]) (by kernel_rfl) (by simp) ?_
        refine (AllReadyH.cons (o := ?ob12_2) ?hob12_2 (fun K hK => ?kb12_2) AllReadyH.nil)
        case hob12_2 => simp only [List.getElem?_toArray, List.getElem?_cons_succ, List.getElem?_cons_zero]; rfl
        case kb12_2 =>
          go_simp
          refine hK.out _ _ ?_ (fun hHeld => ?_)
          · exact ⟨(BX.trans ((below_al _ _).mono BX.size)), cell_below (BX.trans ((below_al _ _).mono BX.size)) k0, cell_below (BX.trans ((below_al _ _).mono BX.size)) k1⟩
          clear hK K
          try simp only [Act.put, List.setIfInBounds_toArray, List.set_cons_zero, List.set_cons_succ]
          have RA0 := RA0.later (below_al (wd.alloc (.cells #[.int .u8 0, .slice none 0 0] 39)) (.cells #[] 3))
          have BY := BX.trans ((below_al (wd.alloc (.cells #[.int .u8 0, .slice none 0 0] 39)) (.cells #[] 3)).mono BX.size)
          have hownC : ((wd.alloc (.cells #[.int .u8 0, .slice none 0 0] 39)).alloc (.cells #[] 3)).ownsRow w4.heap.size 3 1 (.slice (some ⟨wd.heap.size + 1, 0, none⟩) 0 0) 0 [] := by
            have h9 := World.ownsRow_made (e := 3) (size := 1) (base := w4.heap.size) (wd.alloc (.cells #[.int .u8 0, .slice none 0 0] 39)) #[] 0 BX.size (by decide) rfl
            rwa [World.size_alloc] at h9
          refine wpAnyH_ready (rs := [5]) (by kernel_rfl) (by simp) ?_
          refine (AllReadyH.cons (o := ?ob11_5) ?hob11_5 (fun K hK => ?kb11_5) AllReadyH.nil)
          case hob11_5 => simp only [List.getElem?_toArray, List.getElem?_cons_succ, List.getElem?_cons_zero]; rfl
          case kb11_5 =>
            rw [if_pos (by rfl)]
            refine opApp _ _ 37 rfl etI w4.heap.size rfl hownC rfl (by simpa using hm.len) (hm.below BY).sl (by unfold maxLen; omega) (by omega) (by have := BY.size; omega) ?_; intro a' c' wq hown hgr hbq
            refine hK.out _ _ ?_ (fun hHeld => ?_)
            · exact ⟨(BY.trans hbq), cell_below (BY.trans hbq) k0, cell_below (BY.trans hbq) k1⟩
            clear hK K
            try simp only [Act.put, List.setIfInBounds_toArray, List.set_cons_zero, List.set_cons_succ]
            have RA := RA0.grown (by decide) hownC hgr hbq
            simp only [Nat.zero_add, List.nil_append] at hown ⊢
            have HO := hown
            refine wpAnyH_take (i := 6) (oi := ?oir9_6) (v := ?vr9_6) ?hir9_6 (by kernel_rfl) (by kernel_rfl) (by kernel_rfl) ?hqr9_6 ?hyr9_6 (by assumption) ?restr9_6
            case hir9_6 => simp only [List.getElem?_toArray, List.getElem?_cons_succ, List.getElem?_cons_zero]; rfl
            case hqr9_6 => exact fun _ _ _ h => h
            case hyr9_6 => (refine Or.inl ⟨by rfl, ?_⟩; intro w hSw; (try dsimp only at hSw); go_simp; all_goals with_reducible rfl)
            try simp only [Act.put, List.setIfInBounds_toArray, List.set_cons_zero, List.set_cons_succ]
            refine wpAnyH_ready (rs := [8]) (by kernel_rfl) (by simp) ?_
            refine (AllReadyH.cons (o := ?ob10_8) ?hob10_8 (fun K hK => ?kb10_8) AllReadyH.nil)
            case hob10_8 => simp only [List.getElem?_toArray, List.getElem?_cons_succ, List.getElem?_cons_zero]; rfl
            case kb10_8 =>
              rw [if_pos (by rfl)]
              refine op_store_whole 39 _ _ rfl atBal _ _ _ RA.row rfl rfl rfl rfl (bal_one _ _ _ _) ?_
              refine hK.out _ _ ?_ (fun hHeld => ?_)
              · exact ⟨(RA.put #[.int .u8 ((kd : Nat) : Int), .slice a' n_m c']).below, cell_below (RA.put #[.int .u8 ((kd : Nat) : Int), .slice a' n_m c']).below k0, cell_below (RA.put #[.int .u8 ((kd : Nat) : Int), .slice a' n_m c']).below k1⟩
              clear hK K
              try simp only [Act.put, List.setIfInBounds_toArray, List.set_cons_zero, List.set_cons_succ]
              refine wpAnyH_done (by kernel_rfl) ?_ _
              go_wp2_with fail
              go_meet
              exact ⟨_, a', c', rfl, RA.put _, ⟨hm.len, own_setRow HO RA.row (by decide) _, hm.bd⟩⟩
    case rest =>
    obtain ⟨g_own, a_o, c_o, rfl, h_own_5, h_o_5⟩ := hcut
    have hb := h_own_5.below
    have B5 := B4.trans (hb.mono B4.size)
    have h_s_5 := h_s_4.below hb
    have h_m_5 := h_m_4.below hb
    have h_c_5 := h_c_4.later hb
    have h_b_5 := h_b_4.later hb
    clear hb B4 h_s_4 h_m_4 h_c_4 h_b_4
    obtain ⟨w5, hw⟩ : ∃ w, w = wc := ⟨_, rfl⟩
    subst hw
    have k_c_0 := h_c_5.cell 0 _ rfl
    have k_c_1 := h_c_5.cell 1 _ rfl
    have k_c_2 := h_c_5.cell 2 _ rfl
    have k_c_3 := h_c_5.cell 3 _ rfl
    have k_own_0 := h_own_5.cell 0 _ rfl
    have k_own_1 := h_own_5.cell 1 _ rfl
    go_wp2_with fail
    clear k_c_0 k_c_1 k_c_2 k_c_3 k_own_0 k_own_1
    have c := Fill_any w5 nm h_s_5 seats hs1 hs2 rule hr kd hk (h_o_5.rd oneI)
    rw [HFC.out] at c
    refine c.mono ?_
    rintro e w6 ⟨a_x, n_x, c_x, rfl, h_x_6, hb⟩
    clear c
    have B6 := B5.trans (hb.mono B5.size)
    have h_s_6 := h_s_5.below hb
    have h_m_6 := h_m_5.below hb
    have h_c_6 := h_c_5.later hb
    have h_b_6 := h_b_5.later hb
    have h_own_6 := h_own_5.later hb
    have h_o_6 := h_o_5.below hb
    clear hb B5 h_s_5 h_m_5 h_c_5 h_b_5 h_own_5 h_o_5
    have hb := below_al w6 (.cells #[.slice a_x n_x c_x] 27)
    have B7 := B6.trans (hb.mono B6.size)
    have h_s_7 := h_s_6.below hb
    have h_m_7 := h_m_6.below hb
    have h_c_7 := h_c_6.later hb
    have h_b_7 := h_b_6.later hb
    have h_own_7 := h_own_6.later hb
    have h_o_7 := h_o_6.below hb
    have h_x_7 := h_x_6.below hb
    clear hb B6 h_s_6 h_m_6 h_c_6 h_b_6 h_own_6 h_o_6 h_x_6
    have h_xs_7 := PRow.new 27 w6 #[.slice a_x n_x c_x]
    have k_c_0 := h_c_7.cell 0 _ rfl
    have k_c_1 := h_c_7.cell 1 _ rfl
    have k_c_2 := h_c_7.cell 2 _ rfl
    have k_c_3 := h_c_7.cell 3 _ rfl
    have k_b_0 := h_b_7.cell 0 _ rfl
    have k_b_1 := h_b_7.cell 1 _ rfl
    go_wp2_with first | refine wpList_store_new rfl 27 _ _ rfl atShe _ _ _ rfl rfl rfl rfl (she_one _ _ _) ?_
    clear k_c_0 k_c_1 k_c_2 k_c_3 k_b_0 k_b_1
    generalize (w6.alloc (.cells #[.slice a_x n_x c_x] 27)) = w7 at *
    have c := refFill_any w7 nm h_s_7 seats hs1 hs2 rule hr kd hk h_m_7
    rw [HFC.out] at c
    refine c.mono ?_
    rintro e w8 ⟨a_y, n_y, c_y, rfl, h_y_8, hb⟩
    clear c
    have B8 := B7.trans (hb.mono B7.size)
    have h_s_8 := h_s_7.below hb
    have h_m_8 := h_m_7.below hb
    have h_c_8 := h_c_7.later hb
    have h_b_8 := h_b_7.later hb
    have h_own_8 := h_own_7.later hb
    have h_o_8 := h_o_7.below hb
    have h_x_8 := h_x_7.below hb
    have h_xs_8 := h_xs_7.later hb
    clear hb B7 h_s_7 h_m_7 h_c_7 h_b_7 h_own_7 h_o_7 h_x_7 h_xs_7
    have hb := below_al w8 (.cells #[.slice a_y n_y c_y] 27)
    have B9 := B8.trans (hb.mono B8.size)
    have h_s_9 := h_s_8.below hb
    have h_m_9 := h_m_8.below hb
    have h_c_9 := h_c_8.later hb
    have h_b_9 := h_b_8.later hb
    have h_own_9 := h_own_8.later hb
    have h_o_9 := h_o_8.below hb
    have h_x_9 := h_x_8.below hb
    have h_xs_9 := h_xs_8.later hb
    have h_y_9 := h_y_8.below hb
    clear hb B8 h_s_8 h_m_8 h_c_8 h_b_8 h_own_8 h_o_8 h_x_8 h_xs_8 h_y_8
    have h_ys_9 := PRow.new 27 w8 #[.slice a_y n_y c_y]
    have cv_x := convY h_x_9.rd
    have cv_y := convY h_y_9.rd
    have k_xs_0 := h_xs_9.cell 0 _ rfl
    have k_ys_0 := h_ys_9.cell 0 _ rfl
    have k_own_0 := h_own_9.cell 0 _ rfl
    have k_own_1 := h_own_9.cell 1 _ rfl
    have k_b_0 := h_b_9.cell 0 _ rfl
    have k_b_1 := h_b_9.cell 1 _ rfl
    go_wp2_with first | refine wpList_store_new rfl 27 _ _ rfl atShe _ _ _ rfl rfl rfl rfl (she_one _ _ _) ?_
    clear k_xs_0 k_ys_0 k_own_0 k_own_1 k_b_0 k_b_1
    generalize (w8.alloc (.cells #[.slice a_y n_y c_y] 27)) = w9 at *
    clear cv_x cv_y
    have c := ballSame_any w9 kd hk kd hk (h_o_9.rd oneI) h_m_9
    rw [show (decide (kd = kd) && decide (ms = ms)) = true by simp] at c
    refine c.mono ?_
    rintro e w10 ⟨rfl, hb⟩
    clear c
    have B10 := B9.trans (hb.mono B9.size)
    have h_s_10 := h_s_9.below hb
    have h_m_10 := h_m_9.below hb
    have h_c_10 := h_c_9.later hb
    have h_b_10 := h_b_9.later hb
    have h_own_10 := h_own_9.later hb
    have h_o_10 := h_o_9.below hb
    have h_x_10 := h_x_9.below hb
    have h_xs_10 := h_xs_9.later hb
    have h_y_10 := h_y_9.below hb
    have h_ys_10 := h_ys_9.later hb
    clear hb B9 h_s_9 h_m_9 h_c_9 h_b_9 h_own_9 h_o_9 h_x_9 h_xs_9 h_y_9 h_ys_9
    go_wp2_with fail
    go_ret
    exact ⟨rfl, B10⟩

end Go.Proofs.Ytlfempfhohejiaa
